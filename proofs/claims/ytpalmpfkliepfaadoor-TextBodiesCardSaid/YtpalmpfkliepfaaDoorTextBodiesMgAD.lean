/- What is proved here: the instructions, by the document. What is proved here: the tables of instructions are one (plain). What is proved here: which instructions may be, by the program and by the document. -/
import Derived.Test.YtpalmpfkliepfaaDoorTextBodiesMgAC
namespace Go.Proofs.YtpalmpfkliepfaaDoor
open Go.RowKit Ut
set_option linter.unusedVariables false
set_option linter.unusedSimpArgs false
abbrev MGr := (Int × ByteArray × Int × ByteArray × ByteArray × Bool × Unit)
def zMGr : MGr := ((0 : Int), (⟨#[]⟩ : ByteArray), (0 : Int), (⟨#[]⟩ : ByteArray), (⟨#[]⟩ : ByteArray), false, ())
def vMGr : MGr → List Value := (fun d => (vInt .i64) d.1 ++ (fun d => vStr d.1 ++ (fun d => (vInt .i64) d.1 ++ (fun d => vStr d.1 ++ (fun d => vStr d.1 ++ (fun d => vBool d.1 ++ (fun _ => []) d.2) d.2) d.2) d.2) d.2) d.2)
/-- The word of a number in a text, with the text's head ahead. -/
def wordF (s : ByteArray) : Nat → Int → Int → Nat → Nat → ByteArray × Bool
  | 0, _, _, _, _ => (⟨#[]⟩, false)
  | n + 1, fi, k, st, j => if j < s.size ∧ sbt s j ≠ 32 then wordF s n fi k st (j + 1)
      else if fi < 0 then wordF s n (j : Int) k (j + 1) (j + 1)
      else if k = 0 then (s.extract 0 fi.toNat ++ s.extract st j, true)
      else wordF s n fi (k - 1) (j + 1) (j + 1)
def wordP (s : ByteArray) (k : Int) : ByteArray × Bool := wordF s (s.size + 1) (-1) k 0 0
theorem wordF_step {s : ByteArray} {fi k : Int} {st j : Nat} (h : j ≤ s.size) : wordF s (s.size + 1 - j) fi k st j = if j < s.size ∧ sbt s j ≠ 32 then wordF s (s.size + 1 - (j + 1)) fi k st (j + 1)
      else if fi < 0 then wordF s (s.size + 1 - (j + 1)) (j : Int) k (j + 1) (j + 1)
      else if k = 0 then (s.extract 0 fi.toNat ++ s.extract st j, true)
      else wordF s (s.size + 1 - (j + 1)) fi (k - 1) (j + 1) (j + 1) := by
  obtain ⟨m, h1, h2⟩ : ∃ m, s.size + 1 - j = m + 1 ∧ s.size + 1 - (j + 1) = m := ⟨s.size - j, by omega, by omega⟩
  rw [h1, h2, wordF]

set_option maxHeartbeats 1000000 in
set_option maxRecDepth 100000 in
theorem word_any (s : ByteArray) (k : Int) (w : World) (hk : 0 ≤ k ∧ k < 9223372036854775808) (hs : s.size ≤ 1000) : Calls Tryd.prog 52 #[(.string s), (.int .i64 k)] w fun e w' => e = .returned (.tuple #[.string (wordP s k).1, .bool (wordP s k).2]) ∧ Below w.heap.size w w' := by
  refine sx_enter (L := [(0, (.string s)), (1, (.int .i64 k))]) Tryd.func52 rfl rfl rfl rfl (fun fa hf => ?_)
  have hb : Below w.heap.size w w := Below.refl _ _
  refine wp_seq_k (fun K1 hK1 => ?_)
  refine wp_region_lit ?_
  refine sqv hf (r_assign rfl) rfl rfl rfl ?_; clear hf fa; intro fa hf
  refine sqv hf (r_assign rfl) rfl rfl rfl ?_; clear hf fa; intro fa hf
  apply wpList_nil
  (try simp only [Exit.then, Exit.inBlock, ↓reduceIte, Nat.reduceEqDiff])
  refine hK1 _ _ ?_
  refine wp_seq_k (fun K2 hK2 => ?_)
  refine wp_region_lit ?_
  refine sqv hf (r_assign rfl) rfl rfl rfl ?_; clear hf fa; intro fa hf
  refine sqv hf (r_assign rfl) rfl rfl rfl ?_; clear hf fa; intro fa hf
  apply wpList_nil
  (try simp only [Exit.then, Exit.inBlock, ↓reduceIte, Nat.reduceEqDiff])
  refine hK2 _ _ ?_
  refine wp_seq_k (fun K3 hK3 => ?_)
  refine wp_seq_k (fun K4 hK4 => ?_)
  refine wp_region_lit ?_
  refine sqv hf (r_assign rfl) rfl rfl rfl ?_; clear hf fa; intro fa hf
  apply wpList_nil
  (try simp only [Exit.then, Exit.inBlock, ↓reduceIte, Nat.reduceEqDiff])
  refine hK4 _ _ ?_
  refine wp_block ?_
  refine wp_loop_k (fun mq fa wr => ∃ (kk : Int) (fi : Int) (so : Nat) (j : Nat), mq = s.size + 1 - j ∧ Fr 44 fa [(0, (.string s)), (1, (.int .i64 kk)), (6, (.int .i64 fi)), (7, (.int .i64 ((so : Nat) : Int))), (8, (.int .i64 ((j : Nat) : Int)))] ∧ Below w.heap.size w wr ∧ (j ≤ s.size + 1) ∧ (so ≤ j) ∧ (fi ≤ ((j : Nat) : Int) - 1) ∧ (-1 ≤ fi) ∧ (0 ≤ kk ∧ kk < 9223372036854775808) ∧ (wordF s (s.size + 1 - j) fi kk so j = wordP s k)) ?_ ?_
  · skip
    exact ⟨_, k, (-1), 0, 0, rfl, hf.sub ⟨rfl, rfl, (some_int (by first | rfl | omega)), (some_int (by first | rfl | omega)), (some_int (by first | rfl | omega)), trivial⟩, hb, by omega, by omega, by omega, by omega, hk, rfl⟩
  · skip
    clear hf fa; intro mq1 fa w1 hI KL1 hKL1
    clear hb
    obtain ⟨kk, fi, so, j, hmq1, hf, hb, hj, hso, hfi, hfi1, hkk, hF⟩ := hI
    refine wp_seq_k (fun K5 hK5 => ?_)
    refine wp_seq_k (fun K6 hK6 => ?_)
    refine wp_region_lit ?_
    refine sqv hf (r_move rfl) rfl rfl rfl ?_; clear hf fa; intro fa hf
    refine sqv hf (r_move rfl) rfl rfl rfl ?_; clear hf fa; intro fa hf
    refine sqv hf (r_lens rfl Tryd.underlying9) rfl rfl rfl ?_; clear hf fa; intro fa hf
    refine sqv hf (r_le rfl rfl) rfl rfl rfl ?_; clear hf fa; intro fa hf
    apply wpList_nil
    (try simp only [Exit.then, Exit.inBlock, ↓reduceIte, Nat.reduceEqDiff])
    refine hK6 _ _ ?_
    refine wp_cond_split (t := (decide (((j : Nat) : Int) ≤ ((s.size : Nat) : Int)))) (hf.ev rfl) (fun hqt12_1 => ?_) (fun hqt12_1 => ?_)
    · have hqt12_1b := hqt12_1
      try simp only [decide_eq_true_eq, Bool.and_eq_true, Bool.or_eq_true, Bool.not_eq_true', decide_eq_false_iff_not, ne_eq, Bool.not_eq_true] at hqt12_1
      refine wp_skip ?_
      (try simp only [Exit.then, Exit.inBlock, ↓reduceIte, Nat.reduceEqDiff])
      refine hK5 _ _ ?_
      refine wp_seq_k (fun K7 hK7 => ?_)
      refine wp_block ?_
      refine wp_seq_k (fun K8 hK8 => ?_)
      refine wp_seq_k (fun K9 hK9 => ?_)
      refine wp_region_lit ?_
      refine sqv hf (r_move rfl) rfl rfl rfl ?_; clear hf fa; intro fa hf
      refine sqv hf (r_move rfl) rfl rfl rfl ?_; clear hf fa; intro fa hf
      refine sqv hf (r_lens rfl Tryd.underlying9) rfl rfl rfl ?_; clear hf fa; intro fa hf
      refine sqv hf (r_lt rfl rfl) rfl rfl rfl ?_; clear hf fa; intro fa hf
      refine sqv hf (r_move rfl) rfl rfl rfl ?_; clear hf fa; intro fa hf
      refine sqgT (act := (decide (((j : Nat) : Int) < ((s.size : Nat) : Int)))) (ag := true) (c := (decide (((j : Nat) : Int) < ((s.size : Nat) : Int)))) (v := (.string s)) hf rfl rfl rfl (fun hact => (r_move rfl)) rfl rfl ?_; clear hf fa; intro fa hf
      refine sqgT (act := (decide (((j : Nat) : Int) < ((s.size : Nat) : Int)))) (ag := true) (c := (decide (((j : Nat) : Int) < ((s.size : Nat) : Int)))) (v := (.int .i64 ((j : Nat) : Int))) hf rfl rfl rfl (fun hact => (r_move rfl)) rfl rfl ?_; clear hf fa; intro fa hf
      refine sqgT (act := (decide (((j : Nat) : Int) < ((s.size : Nat) : Int)))) (ag := true) (c := (decide (((j : Nat) : Int) < ((s.size : Nat) : Int)))) (v := (.int .u8 ((sbt s j : Nat) : Int))) hf rfl rfl rfl (fun hact => (by have hact0 := hact; (try simp only [Bool.and_eq_true, Bool.not_eq_true', Bool.or_eq_false_iff, Bool.or_eq_true, Bool.and_eq_false_iff, ne_eq, decide_eq_true_eq, decide_eq_false_iff_not] at hact0); exact (r_sindexD (j := j) (gb_ev hact rfl) (gb_ev hact rfl) Tryd.underlying9 rfl (by omega)))) rfl rfl ?_; clear hf fa; intro fa hf
      refine sqgT (act := (decide (((j : Nat) : Int) < ((s.size : Nat) : Int)))) (ag := true) (c := (decide (((j : Nat) : Int) < ((s.size : Nat) : Int)))) (v := (.bool (decide (((sbt s j : Nat) : Int) ≠ (32 : Int))))) hf rfl rfl rfl (fun hact => (r_ne (gb_ev hact rfl) rfl)) rfl rfl ?_; clear hf fa; intro fa hf
      refine sqv hf (r_pickA (b := (decide (((j : Nat) : Int) < ((s.size : Nat) : Int)))) (e := (decide (((sbt s j : Nat) : Int) ≠ (32 : Int)))) rfl rfl rfl) rfl rfl rfl ?_; clear hf fa; intro fa hf
      apply wpList_nil
      (try simp only [Exit.then, Exit.inBlock, ↓reduceIte, Nat.reduceEqDiff])
      refine hK9 _ _ ?_
      refine wp_cond_split (t := ((decide (((j : Nat) : Int) < ((s.size : Nat) : Int))) && (decide (((sbt s j : Nat) : Int) ≠ (32 : Int))))) (hf.ev rfl) (fun hqt24_1 => ?_) (fun hqt24_1 => ?_)
      · have hqt24_1b := hqt24_1
        try simp only [decide_eq_true_eq, Bool.and_eq_true, Bool.or_eq_true, Bool.not_eq_true', decide_eq_false_iff_not, ne_eq, Bool.not_eq_true] at hqt24_1
        refine wp_exit ?_
        (try simp only [Exit.then, Exit.inBlock, ↓reduceIte, Nat.reduceEqDiff])
        refine hK7 _ _ ?_
        refine wp_region_lit ?_
        refine sqv hf (r_move rfl) rfl rfl rfl ?_; clear hf fa; intro fa hf
        refine sqv hf (r_add (C := (((j : Nat) : Int) + (1 : Int))) rfl rfl (by rw [IntKind.wrap_i64]; omega)) rfl rfl rfl ?_; clear hf fa; intro fa hf
        refine sqv hf (r_assign rfl) rfl rfl rfl ?_; clear hf fa; intro fa hf
        apply wpList_nil
        (try simp only [Exit.then, Exit.inBlock, ↓reduceIte, Nat.reduceEqDiff])
        refine hKL1 _ _ _ (by omega) ⟨kk, fi, so, (j + 1), rfl, hf.sub ⟨rfl, rfl, rfl, rfl, (some_int (by first | rfl | omega)), trivial⟩, hb, by omega, by omega, by omega, by omega, by omega, (by rw [← hF, wordF_step (j := j) (by omega), if_pos (by have h := hqt24_1; omega)])⟩
      · have hqt24_1b := hqt24_1
        replace hqt24_1 := Bool.eq_false_iff.1 hqt24_1
        try simp only [ne_eq, decide_eq_true_eq, Bool.and_eq_true, Bool.or_eq_true, Bool.not_eq_true', decide_eq_false_iff_not] at hqt24_1
        refine wp_skip ?_
        (try simp only [Exit.then, Exit.inBlock, ↓reduceIte, Nat.reduceEqDiff])
        refine hK8 _ _ ?_
        refine wp_seq_k (fun K10 hK10 => ?_)
        refine wp_block ?_
        refine wp_seq_k (fun K11 hK11 => ?_)
        refine wp_region_lit ?_
        refine sqv hf (r_move rfl) rfl rfl rfl ?_; clear hf fa; intro fa hf
        refine sqv hf (r_lt rfl rfl) rfl rfl rfl ?_; clear hf fa; intro fa hf
        refine sqv hf (r_assign rfl) rfl rfl rfl ?_; clear hf fa; intro fa hf
        apply wpList_nil
        (try simp only [Exit.then, Exit.inBlock, ↓reduceIte, Nat.reduceEqDiff])
        refine hK11 _ _ ?_
        refine wp_cond_split (t := (decide (fi < (0 : Int)))) (hf.ev rfl) (fun hqt27_1 => ?_) (fun hqt27_1 => ?_)
        · have hqt27_1b := hqt27_1
          try simp only [decide_eq_true_eq, Bool.and_eq_true, Bool.or_eq_true, Bool.not_eq_true', decide_eq_false_iff_not, ne_eq, Bool.not_eq_true] at hqt27_1
          refine wp_region_lit ?_
          refine sqv hf (r_move rfl) rfl rfl rfl ?_; clear hf fa; intro fa hf
          refine sqv hf (r_assign rfl) rfl rfl rfl ?_; clear hf fa; intro fa hf
          apply wpList_nil
          (try simp only [Exit.then, Exit.inBlock, ↓reduceIte, Nat.reduceEqDiff])
          refine hK10 _ _ ?_
          refine wp_region_lit ?_
          refine sqv hf (r_move rfl) rfl rfl rfl ?_; clear hf fa; intro fa hf
          refine sqv hf (r_add (C := (((j : Nat) : Int) + (1 : Int))) rfl rfl (by rw [IntKind.wrap_i64]; omega)) rfl rfl rfl ?_; clear hf fa; intro fa hf
          refine sqv hf (r_assign rfl) rfl rfl rfl ?_; clear hf fa; intro fa hf
          apply wpList_nil
          (try simp only [Exit.then, Exit.inBlock, ↓reduceIte, Nat.reduceEqDiff])
          refine hK7 _ _ ?_
          refine wp_region_lit ?_
          refine sqv hf (r_move rfl) rfl rfl rfl ?_; clear hf fa; intro fa hf
          refine sqv hf (r_add (C := (((j : Nat) : Int) + (1 : Int))) rfl rfl (by rw [IntKind.wrap_i64]; omega)) rfl rfl rfl ?_; clear hf fa; intro fa hf
          refine sqv hf (r_assign rfl) rfl rfl rfl ?_; clear hf fa; intro fa hf
          apply wpList_nil
          (try simp only [Exit.then, Exit.inBlock, ↓reduceIte, Nat.reduceEqDiff])
          refine hKL1 _ _ _ (by omega) ⟨kk, ((j : Nat) : Int), (j + 1), (j + 1), rfl, hf.sub ⟨rfl, rfl, (some_int (by first | rfl | omega)), (some_int (by first | rfl | omega)), (some_int (by first | rfl | omega)), trivial⟩, hb, by omega, by omega, by omega, by omega, by omega, (by rw [← hF, wordF_step (j := j) (by omega), if_neg (by have h := hqt24_1; omega), if_pos (by have h := hqt27_1; omega)])⟩
        · have hqt27_1b := hqt27_1
          replace hqt27_1 := Bool.eq_false_iff.1 hqt27_1
          try simp only [ne_eq, decide_eq_true_eq, Bool.and_eq_true, Bool.or_eq_true, Bool.not_eq_true', decide_eq_false_iff_not] at hqt27_1
          refine wp_seq_k (fun K12 hK12 => ?_)
          refine wp_region_lit ?_
          refine sqv hf (r_move rfl) rfl rfl rfl ?_; clear hf fa; intro fa hf
          refine sqv hf (r_eq rfl rfl) rfl rfl rfl ?_; clear hf fa; intro fa hf
          refine sqv hf (r_assign rfl) rfl rfl rfl ?_; clear hf fa; intro fa hf
          apply wpList_nil
          (try simp only [Exit.then, Exit.inBlock, ↓reduceIte, Nat.reduceEqDiff])
          refine hK12 _ _ ?_
          refine wp_cond_split (t := (decide (kk = (0 : Int)))) (hf.ev rfl) (fun hqt31_1 => ?_) (fun hqt31_1 => ?_)
          · have hqt31_1b := hqt31_1
            try simp only [decide_eq_true_eq, Bool.and_eq_true, Bool.or_eq_true, Bool.not_eq_true', decide_eq_false_iff_not, ne_eq, Bool.not_eq_true] at hqt31_1
            refine wp_seq_k (fun K13 hK13 => ?_)
            refine wp_region_un (fun wq => Below w1.heap.size w1 wq) (fun w w' => Below w.heap.size w w')
              (fun V => [(fun x _ => x = (.string s)), (fun x _ => x = (.int .i64 fi)), (fun x _ => x = (.string (s.extract 0 (fi).toNat))), (fun x _ => x = (.string s)), (fun x _ => x = (.int .i64 ((so : Nat) : Int))), (fun x _ => x = (.int .i64 ((j : Nat) : Int))), (fun x _ => x = (.string (s.extract so j))), (fun x _ => x = (.string ((s.extract 0 (fi).toNat) ++ (s.extract so j)))), (fun x _ => x = (.string ((s.extract 0 (fi).toNat) ++ (s.extract so j)))), (fun x _ => x = (.bool true))])
              []
              [[], [], [0, 1], [], [], [], [3, 4, 5], [2, 6], [0, 1, 2, 3, 4, 5, 6, 7], [0, 1, 2, 3, 4, 5, 6, 7, 8]]
              hf (by kernel_rfl) (by kernel_rfl) (fun _ => rfl) ((Below.refl _ _).drew) (fun a b h1 h2 => h1.trans (h2.mono h1.size)) (fun _ _ h => h.size) (fun V => ⟨kept_eq, kept_eq, kept_eq, kept_eq, kept_eq, kept_eq, kept_eq, kept_eq, kept_eq, kept_eq, trivial⟩) (fun _ _ _ _ _ => rfl) ?_ ?_
            · skip
              intro V
              refine ⟨fun wu0 hC hd => ?_, ?_⟩
              · clear hd
                replace hb := hb.trans (hC.mono hb.size)
                exact Runs.does (r_move rfl) ⟨Below.refl _ _, rfl, nofr rfl⟩
              refine ⟨fun wu1 hC hd => ?_, ?_⟩
              · clear hd
                replace hb := hb.trans (hC.mono hb.size)
                exact Runs.does (r_move rfl) ⟨Below.refl _ _, rfl, nofr rfl⟩
              refine ⟨fun wu2 hC hd => ?_, ?_⟩
              · obtain ⟨h0, h1, _⟩ := hd
                skip
                skip
                replace h0 : V 0 = (.string s) := h0
                replace h1 : V 1 = (.int .i64 fi) := h1
                replace hb := hb.trans (hC.mono hb.size)
                exact Runs.does (r_sslice (a := 0) (b := (fi).toNat) (k1 := .i64) (k2 := .i64) (A := 0) (B := fi) (congrArg some h0) Tryd.underlying9 (.inl ⟨rfl, rfl⟩) (.inr ⟨_, rfl, (congrArg some h1), (by omega)⟩) (by omega) (by omega)) ⟨Below.refl _ _, rfl, nofr rfl⟩
              refine ⟨fun wu3 hC hd => ?_, ?_⟩
              · clear hd
                replace hb := hb.trans (hC.mono hb.size)
                exact Runs.does (r_move rfl) ⟨Below.refl _ _, rfl, nofr rfl⟩
              refine ⟨fun wu4 hC hd => ?_, ?_⟩
              · clear hd
                replace hb := hb.trans (hC.mono hb.size)
                exact Runs.does (r_move rfl) ⟨Below.refl _ _, rfl, nofr rfl⟩
              refine ⟨fun wu5 hC hd => ?_, ?_⟩
              · clear hd
                replace hb := hb.trans (hC.mono hb.size)
                exact Runs.does (r_move rfl) ⟨Below.refl _ _, rfl, nofr rfl⟩
              refine ⟨fun wu6 hC hd => ?_, ?_⟩
              · obtain ⟨h3, h4, h5, _⟩ := hd
                skip
                skip
                skip
                replace h3 : V 3 = (.string s) := h3
                replace h4 : V 4 = (.int .i64 ((so : Nat) : Int)) := h4
                replace h5 : V 5 = (.int .i64 ((j : Nat) : Int)) := h5
                replace hb := hb.trans (hC.mono hb.size)
                exact Runs.does (r_sslice (a := so) (b := j) (k1 := .i64) (k2 := .i64) (A := ((so : Nat) : Int)) (B := ((j : Nat) : Int)) (congrArg some h3) Tryd.underlying9 (.inr ⟨_, rfl, (congrArg some h4), rfl⟩) (.inr ⟨_, rfl, (congrArg some h5), rfl⟩) (by omega) (by omega)) ⟨Below.refl _ _, rfl, nofr rfl⟩
              refine ⟨fun wu7 hC hd => ?_, ?_⟩
              · obtain ⟨h2, h6, _⟩ := hd
                skip
                skip
                replace h2 : V 2 = (.string (s.extract 0 (fi).toNat)) := h2
                replace h6 : V 6 = (.string (s.extract so j)) := h6
                replace hb := hb.trans (hC.mono hb.size)
                exact Runs.does (r_sadd (congrArg some h2) (congrArg some h6) (by have := sz_ext s 0 (fi).toNat (by omega) (by omega); have := sz_ext s so j (by omega) (by omega); omega)) ⟨Below.refl _ _, rfl, nofr rfl⟩
              refine ⟨fun wu8 hC hd => ?_, ?_⟩
              · obtain ⟨h0, h1, h2, h3, h4, h5, h6, h7, _⟩ := hd
                skip
                skip
                skip
                skip
                skip
                skip
                skip
                skip
                replace h0 : V 0 = (.string s) := h0
                replace h1 : V 1 = (.int .i64 fi) := h1
                replace h2 : V 2 = (.string (s.extract 0 (fi).toNat)) := h2
                replace h3 : V 3 = (.string s) := h3
                replace h4 : V 4 = (.int .i64 ((so : Nat) : Int)) := h4
                replace h5 : V 5 = (.int .i64 ((j : Nat) : Int)) := h5
                replace h6 : V 6 = (.string (s.extract so j)) := h6
                replace h7 : V 7 = (.string ((s.extract 0 (fi).toNat) ++ (s.extract so j))) := h7
                replace hb := hb.trans (hC.mono hb.size)
                exact Runs.does (r_assign (congrArg some h7)) ⟨Below.refl _ _, rfl, nofr rfl⟩
              refine ⟨fun wu9 hC hd => ?_, ?_⟩
              · obtain ⟨h0, h1, h2, h3, h4, h5, h6, h7, h8, _⟩ := hd
                skip
                skip
                skip
                skip
                skip
                skip
                skip
                skip
                skip
                replace h0 : V 0 = (.string s) := h0
                replace h1 : V 1 = (.int .i64 fi) := h1
                replace h2 : V 2 = (.string (s.extract 0 (fi).toNat)) := h2
                replace h3 : V 3 = (.string s) := h3
                replace h4 : V 4 = (.int .i64 ((so : Nat) : Int)) := h4
                replace h5 : V 5 = (.int .i64 ((j : Nat) : Int)) := h5
                replace h6 : V 6 = (.string (s.extract so j)) := h6
                replace h7 : V 7 = (.string ((s.extract 0 (fi).toNat) ++ (s.extract so j))) := h7
                replace h8 : V 8 = (.string ((s.extract 0 (fi).toNat) ++ (s.extract so j))) := h8
                replace hb := hb.trans (hC.mono hb.size)
                exact Runs.does (r_assign rfl) ⟨Below.refl _ _, rfl, nofr rfl⟩
              trivial
            · skip
              clear hf fa; intro V w2 fa he1 hp hnb hf
              have hv0 : V 0 = (.string s) := postsHold_at hp 0 rfl
              have hv1 : V 1 = (.int .i64 fi) := postsHold_at hp 1 rfl
              have hv2 : V 2 = (.string (s.extract 0 (fi).toNat)) := postsHold_at hp 2 rfl
              have hv3 : V 3 = (.string s) := postsHold_at hp 3 rfl
              have hv4 : V 4 = (.int .i64 ((so : Nat) : Int)) := postsHold_at hp 4 rfl
              have hv5 : V 5 = (.int .i64 ((j : Nat) : Int)) := postsHold_at hp 5 rfl
              have hv6 : V 6 = (.string (s.extract so j)) := postsHold_at hp 6 rfl
              have hv7 : V 7 = (.string ((s.extract 0 (fi).toNat) ++ (s.extract so j))) := postsHold_at hp 7 rfl
              have hv8 : V 8 = (.string ((s.extract 0 (fi).toNat) ++ (s.extract so j))) := postsHold_at hp 8 rfl
              have hv9 : V 9 = (.bool true) := postsHold_at hp 9 rfl
              simp only [List.take_succ_cons, List.take_zero, insAll, ins, hv0, hv1, hv2, hv3, hv4, hv5, hv6, hv7, hv8, hv9] at hf
              clear hp hnb hv0 hv1 hv2 hv3 hv4 hv5 hv6 hv7 hv8 hv9
              replace hb := hb.trans (Below.mono he1 hb.size)
              (try simp only [Exit.then, Exit.inBlock, ↓reduceIte, Nat.reduceEqDiff])
              refine hK13 _ _ ?_
              refine wp_ret ?_
              (try simp only [Exit.then, Exit.inBlock])
              refine ret2 hf rfl rfl rfl ?_
              have hD : wordP s k = (s.extract 0 fi.toNat ++ s.extract so j, true) := by rw [← hF, wordF_step (j := j) (by omega), if_neg (by have h := hqt24_1; omega), if_neg (by have h := hqt27_1; omega), if_pos (by have h := hqt31_1; omega)]
              rw [hD]; exact ⟨rfl, hb⟩
          · have hqt31_1b := hqt31_1
            replace hqt31_1 := Bool.eq_false_iff.1 hqt31_1
            try simp only [ne_eq, decide_eq_true_eq, Bool.and_eq_true, Bool.or_eq_true, Bool.not_eq_true', decide_eq_false_iff_not] at hqt31_1
            refine wp_region_lit ?_
            refine sqv hf (r_move rfl) rfl rfl rfl ?_; clear hf fa; intro fa hf
            refine sqv hf (r_sub (C := (kk - (1 : Int))) rfl rfl (by rw [IntKind.wrap_i64]; omega)) rfl rfl rfl ?_; clear hf fa; intro fa hf
            refine sqv hf (r_assign rfl) rfl rfl rfl ?_; clear hf fa; intro fa hf
            apply wpList_nil
            (try simp only [Exit.then, Exit.inBlock, ↓reduceIte, Nat.reduceEqDiff])
            refine hK10 _ _ ?_
            refine wp_region_lit ?_
            refine sqv hf (r_move rfl) rfl rfl rfl ?_; clear hf fa; intro fa hf
            refine sqv hf (r_add (C := (((j : Nat) : Int) + (1 : Int))) rfl rfl (by rw [IntKind.wrap_i64]; omega)) rfl rfl rfl ?_; clear hf fa; intro fa hf
            refine sqv hf (r_assign rfl) rfl rfl rfl ?_; clear hf fa; intro fa hf
            apply wpList_nil
            (try simp only [Exit.then, Exit.inBlock, ↓reduceIte, Nat.reduceEqDiff])
            refine hK7 _ _ ?_
            refine wp_region_lit ?_
            refine sqv hf (r_move rfl) rfl rfl rfl ?_; clear hf fa; intro fa hf
            refine sqv hf (r_add (C := (((j : Nat) : Int) + (1 : Int))) rfl rfl (by rw [IntKind.wrap_i64]; omega)) rfl rfl rfl ?_; clear hf fa; intro fa hf
            refine sqv hf (r_assign rfl) rfl rfl rfl ?_; clear hf fa; intro fa hf
            apply wpList_nil
            (try simp only [Exit.then, Exit.inBlock, ↓reduceIte, Nat.reduceEqDiff])
            refine hKL1 _ _ _ (by omega) ⟨(kk - (1 : Int)), fi, (j + 1), (j + 1), rfl, hf.sub ⟨rfl, rfl, rfl, (some_int (by first | rfl | omega)), (some_int (by first | rfl | omega)), trivial⟩, hb, by omega, by omega, by omega, by omega, by omega, (by rw [← hF, wordF_step (j := j) (by omega), if_neg (by have h := hqt24_1; omega), if_neg (by have h := hqt27_1; omega), if_neg (by have h := hqt31_1; omega)])⟩
    · have hqt12_1b := hqt12_1
      replace hqt12_1 := Bool.eq_false_iff.1 hqt12_1
      try simp only [ne_eq, decide_eq_true_eq, Bool.and_eq_true, Bool.or_eq_true, Bool.not_eq_true', decide_eq_false_iff_not] at hqt12_1
      refine wp_exit ?_
      (try simp only [Exit.then, Exit.inBlock, ↓reduceIte, Nat.reduceEqDiff])
      refine hK3 _ _ ?_
      refine wp_seq_k (fun K14 hK14 => ?_)
      refine wp_region_lit ?_
      refine sqv hf (r_assign rfl) rfl rfl rfl ?_; clear hf fa; intro fa hf
      refine sqv hf (r_assign rfl) rfl rfl rfl ?_; clear hf fa; intro fa hf
      apply wpList_nil
      (try simp only [Exit.then, Exit.inBlock, ↓reduceIte, Nat.reduceEqDiff])
      refine hK14 _ _ ?_
      refine wp_ret ?_
      (try simp only [Exit.then, Exit.inBlock])
      refine ret2 hf rfl rfl rfl ?_
      have hD : wordP s k = (⟨#[]⟩, false) := by rw [← hF, show s.size + 1 - j = 0 by have h := hqt12_1; omega]; rfl
      rw [hD]; exact ⟨rfl, hb⟩

def bigS0 : ByteArray := ⟨([105, 51, 50, 46, 32, 97, 100, 100, 32, 115, 117, 98, 32, 109, 117, 108, 32, 100, 105, 118, 95, 115, 32, 100, 105, 118, 95, 117, 32, 114, 101, 109, 95, 115, 32, 114, 101, 109].append [95, 117, 32, 97, 110, 100, 32, 111, 114, 32, 120, 111, 114, 32, 115, 104, 108, 32, 115, 104, 114, 95, 115, 32, 115, 104, 114, 95, 117, 32, 114, 111, 116, 108, 32, 114, 111, 116, 114]).toArray⟩
def bigS1 : ByteArray := ⟨([105, 54, 52, 46, 32, 97, 100, 100, 32, 115, 117, 98, 32, 109, 117, 108, 32, 100, 105, 118, 95, 115, 32, 100, 105, 118, 95, 117, 32, 114, 101, 109, 95, 115, 32, 114, 101, 109].append [95, 117, 32, 97, 110, 100, 32, 111, 114, 32, 120, 111, 114, 32, 115, 104, 108, 32, 115, 104, 114, 95, 115, 32, 115, 104, 114, 95, 117, 32, 114, 111, 116, 108, 32, 114, 111, 116, 114]).toArray⟩
def groupsL : List MGr := [((0 : Int), ⟨#[32, 117, 110, 114, 101, 97, 99, 104, 97, 98, 108, 101]⟩, (0 : Int), ⟨#[]⟩, ⟨#[]⟩, true, ()), ((1 : Int), ⟨#[32, 110, 111, 112]⟩, (0 : Int), ⟨#[]⟩, ⟨#[]⟩, false, ()), ((2 : Int), ⟨#[32, 98, 108, 111, 99, 107, 32, 108, 111, 111, 112, 32, 105, 102]⟩, (1 : Int), ⟨#[]⟩, ⟨#[]⟩, true, ()), ((5 : Int), ⟨#[32, 101, 108, 115, 101]⟩, (0 : Int), ⟨#[]⟩, ⟨#[]⟩, true, ()), ((11 : Int), ⟨#[32, 101, 110, 100]⟩, (0 : Int), ⟨#[]⟩, ⟨#[]⟩, true, ()), ((12 : Int), ⟨#[32, 98, 114, 32, 98, 114, 95, 105, 102]⟩, (2 : Int), ⟨#[]⟩, ⟨#[]⟩, true, ()), ((14 : Int), ⟨#[32, 98, 114, 95, 116, 97, 98, 108, 101]⟩, (3 : Int), ⟨#[]⟩, ⟨#[]⟩, true, ()), ((15 : Int), ⟨#[32, 114, 101, 116, 117, 114, 110]⟩, (0 : Int), ⟨#[]⟩, ⟨#[]⟩, true, ()), ((16 : Int), ⟨#[32, 99, 97, 108, 108]⟩, (4 : Int), ⟨#[]⟩, ⟨#[]⟩, true, ()), ((17 : Int), ⟨#[32, 99, 97, 108, 108, 95, 105, 110, 100, 105, 114, 101, 99, 116]⟩, (5 : Int), ⟨#[]⟩, ⟨#[]⟩, true, ()), ((26 : Int), ⟨#[32, 100, 114, 111, 112, 32, 115, 101, 108, 101, 99, 116]⟩, (0 : Int), ⟨#[]⟩, ⟨#[]⟩, true, ()), ((32 : Int), ⟨#[108, 111, 99, 97, 108, 46, 32, 103, 101, 116, 32, 115, 101, 116, 32, 116, 101, 101]⟩, (6 : Int), ⟨#[]⟩, ⟨#[]⟩, true, ()), ((35 : Int), ⟨#[103, 108, 111, 98, 97, 108, 46, 32, 103, 101, 116, 32, 115, 101, 116]⟩, (7 : Int), ⟨#[]⟩, ⟨#[]⟩, true, ()), ((40 : Int), ⟨#[105, 51, 50, 46, 32, 108, 111, 97, 100]⟩, (8 : Int), ⟨#[119]⟩, ⟨#[119]⟩, false, ()), ((41 : Int), ⟨#[105, 54, 52, 46, 32, 108, 111, 97, 100]⟩, (8 : Int), ⟨#[119]⟩, ⟨#[108]⟩, false, ()), ((44 : Int), ⟨#[105, 51, 50, 46, 32, 108, 111, 97, 100, 56, 95, 115, 32, 108, 111, 97, 100, 56, 95, 117, 32, 108, 111, 97, 100, 49, 54, 95, 115, 32, 108, 111, 97, 100, 49, 54, 95, 117]⟩, (8 : Int), ⟨#[119]⟩, ⟨#[119]⟩, false, ()), ((48 : Int), ⟨#[105, 54, 52, 46, 32, 108, 111, 97, 100, 56, 95, 115, 32, 108, 111, 97, 100, 56, 95, 117, 32, 108, 111, 97, 100, 49, 54, 95, 115, 32, 108, 111, 97, 100, 49, 54, 95, 117, 32, 108, 111, 97, 100, 51, 50, 95, 115, 32, 108, 111, 97, 100, 51, 50, 95, 117]⟩, (8 : Int), ⟨#[119]⟩, ⟨#[108]⟩, false, ()), ((54 : Int), ⟨#[105, 51, 50, 46, 32, 115, 116, 111, 114, 101]⟩, (8 : Int), ⟨#[119, 119]⟩, ⟨#[]⟩, false, ()), ((55 : Int), ⟨#[105, 54, 52, 46, 32, 115, 116, 111, 114, 101]⟩, (8 : Int), ⟨#[119, 108]⟩, ⟨#[]⟩, false, ()), ((58 : Int), ⟨#[105, 51, 50, 46, 32, 115, 116, 111, 114, 101, 56, 32, 115, 116, 111, 114, 101, 49, 54]⟩, (8 : Int), ⟨#[119, 119]⟩, ⟨#[]⟩, false, ()), ((60 : Int), ⟨#[105, 54, 52, 46, 32, 115, 116, 111, 114, 101, 56, 32, 115, 116, 111, 114, 101, 49, 54, 32, 115, 116, 111, 114, 101, 51, 50]⟩, (8 : Int), ⟨#[119, 108]⟩, ⟨#[]⟩, false, ()), ((63 : Int), ⟨#[109, 101, 109, 111, 114, 121, 46, 32, 115, 105, 122, 101]⟩, (9 : Int), ⟨#[]⟩, ⟨#[119]⟩, false, ()), ((64 : Int), ⟨#[109, 101, 109, 111, 114, 121, 46, 32, 103, 114, 111, 119]⟩, (9 : Int), ⟨#[119]⟩, ⟨#[119]⟩, false, ()), ((65 : Int), ⟨#[105, 51, 50, 46, 32, 99, 111, 110, 115, 116]⟩, (10 : Int), ⟨#[]⟩, ⟨#[119]⟩, false, ()), ((66 : Int), ⟨#[105, 54, 52, 46, 32, 99, 111, 110, 115, 116]⟩, (11 : Int), ⟨#[]⟩, ⟨#[108]⟩, false, ()), ((69 : Int), ⟨#[105, 51, 50, 46, 32, 101, 113, 122]⟩, (0 : Int), ⟨#[119]⟩, ⟨#[119]⟩, false, ()), ((70 : Int), ⟨#[105, 51, 50, 46, 32, 101, 113, 32, 110, 101, 32, 108, 116, 95, 115, 32, 108, 116, 95, 117, 32, 103, 116, 95, 115, 32, 103, 116, 95, 117, 32, 108, 101, 95, 115, 32, 108, 101, 95, 117, 32, 103, 101, 95, 115, 32, 103, 101, 95, 117]⟩, (0 : Int), ⟨#[119, 119]⟩, ⟨#[119]⟩, false, ()), ((80 : Int), ⟨#[105, 54, 52, 46, 32, 101, 113, 122]⟩, (0 : Int), ⟨#[108]⟩, ⟨#[119]⟩, false, ()), ((81 : Int), ⟨#[105, 54, 52, 46, 32, 101, 113, 32, 110, 101, 32, 108, 116, 95, 115, 32, 108, 116, 95, 117, 32, 103, 116, 95, 115, 32, 103, 116, 95, 117, 32, 108, 101, 95, 115, 32, 108, 101, 95, 117, 32, 103, 101, 95, 115, 32, 103, 101, 95, 117]⟩, (0 : Int), ⟨#[108, 108]⟩, ⟨#[119]⟩, false, ()), ((103 : Int), ⟨#[105, 51, 50, 46, 32, 99, 108, 122, 32, 99, 116, 122, 32, 112, 111, 112, 99, 110, 116]⟩, (0 : Int), ⟨#[119]⟩, ⟨#[119]⟩, false, ()), ((106 : Int), bigS0, (0 : Int), ⟨#[119, 119]⟩, ⟨#[119]⟩, false, ()), ((121 : Int), ⟨#[105, 54, 52, 46, 32, 99, 108, 122, 32, 99, 116, 122, 32, 112, 111, 112, 99, 110, 116]⟩, (0 : Int), ⟨#[108]⟩, ⟨#[108]⟩, false, ()), ((124 : Int), bigS1, (0 : Int), ⟨#[108, 108]⟩, ⟨#[108]⟩, false, ()), ((167 : Int), ⟨#[105, 51, 50, 46, 32, 119, 114, 97, 112, 95, 105, 54, 52]⟩, (0 : Int), ⟨#[108]⟩, ⟨#[119]⟩, false, ()), ((172 : Int), ⟨#[105, 54, 52, 46, 32, 101, 120, 116, 101, 110, 100, 95, 105, 51, 50, 95, 115, 32, 101, 120, 116, 101, 110, 100, 95, 105, 51, 50, 95, 117]⟩, (0 : Int), ⟨#[119]⟩, ⟨#[108]⟩, false, ())]
theorem groupsL_len : groupsL.length = 35 := rfl

set_option maxHeartbeats 1000000 in
set_option maxRecDepth 100000 in
theorem groups_any (w : World) : Calls Tryd.prog 51 #[] w fun e w' => ∃ v, e = .returned v ∧ Row 6 vMGr 57 w.heap.size w' v groupsL ∧ Below w.heap.size w w' := by
  refine sx_enter (L := []) Tryd.func51 rfl rfl rfl rfl (fun fa hf => ?_)
  have hb : Below w.heap.size w w := Below.refl _ _
  refine wp_seq_k (fun K1 hK1 => ?_)
  refine wp_region_lit ?_
  refine sqv hf (r_assign rfl) rfl rfl rfl ?_; clear hf fa; intro fa hf
  apply wpList_nil
  (try simp only [Exit.then, Exit.inBlock, ↓reduceIte, Nat.reduceEqDiff])
  refine hK1 _ _ ?_
  refine wp_seq_k (fun K2 hK2 => ?_)
  refine wp_region_lit ?_
  refine sqv hf (r_build (vs := [(0, (.int .i64 (0 : Int))), (1, (.string ⟨#[32, 117, 110, 114, 101, 97, 99, 104, 97, 98, 108, 101]⟩)), (5, (.bool true))]) (cs := #[(.int .i64 (0 : Int)), (.string ⟨#[32, 117, 110, 114, 101, 97, 99, 104, 97, 98, 108, 101]⟩), (.int .i64 (0 : Int)), (.string ⟨#[]⟩), (.string ⟨#[]⟩), (.bool true)]) rfl (fun _ => by kernel_rfl)) rfl rfl rfl ?_; clear hf fa; intro fa hf
  refine sqv hf (r_build (vs := [(0, (.int .i64 (1 : Int))), (1, (.string ⟨#[32, 110, 111, 112]⟩))]) (cs := #[(.int .i64 (1 : Int)), (.string ⟨#[32, 110, 111, 112]⟩), (.int .i64 (0 : Int)), (.string ⟨#[]⟩), (.string ⟨#[]⟩), (.bool false)]) rfl (fun _ => by kernel_rfl)) rfl rfl rfl ?_; clear hf fa; intro fa hf
  refine sqv hf (r_build (vs := [(0, (.int .i64 (2 : Int))), (1, (.string ⟨#[32, 98, 108, 111, 99, 107, 32, 108, 111, 111, 112, 32, 105, 102]⟩)), (2, (.int .i64 (1 : Int))), (5, (.bool true))]) (cs := #[(.int .i64 (2 : Int)), (.string ⟨#[32, 98, 108, 111, 99, 107, 32, 108, 111, 111, 112, 32, 105, 102]⟩), (.int .i64 (1 : Int)), (.string ⟨#[]⟩), (.string ⟨#[]⟩), (.bool true)]) rfl (fun _ => by kernel_rfl)) rfl rfl rfl ?_; clear hf fa; intro fa hf
  refine sqv hf (r_build (vs := [(0, (.int .i64 (5 : Int))), (1, (.string ⟨#[32, 101, 108, 115, 101]⟩)), (5, (.bool true))]) (cs := #[(.int .i64 (5 : Int)), (.string ⟨#[32, 101, 108, 115, 101]⟩), (.int .i64 (0 : Int)), (.string ⟨#[]⟩), (.string ⟨#[]⟩), (.bool true)]) rfl (fun _ => by kernel_rfl)) rfl rfl rfl ?_; clear hf fa; intro fa hf
  refine sqv hf (r_build (vs := [(0, (.int .i64 (11 : Int))), (1, (.string ⟨#[32, 101, 110, 100]⟩)), (5, (.bool true))]) (cs := #[(.int .i64 (11 : Int)), (.string ⟨#[32, 101, 110, 100]⟩), (.int .i64 (0 : Int)), (.string ⟨#[]⟩), (.string ⟨#[]⟩), (.bool true)]) rfl (fun _ => by kernel_rfl)) rfl rfl rfl ?_; clear hf fa; intro fa hf
  refine sqv hf (r_build (vs := [(0, (.int .i64 (12 : Int))), (1, (.string ⟨#[32, 98, 114, 32, 98, 114, 95, 105, 102]⟩)), (2, (.int .i64 (2 : Int))), (5, (.bool true))]) (cs := #[(.int .i64 (12 : Int)), (.string ⟨#[32, 98, 114, 32, 98, 114, 95, 105, 102]⟩), (.int .i64 (2 : Int)), (.string ⟨#[]⟩), (.string ⟨#[]⟩), (.bool true)]) rfl (fun _ => by kernel_rfl)) rfl rfl rfl ?_; clear hf fa; intro fa hf
  refine sqv hf (r_build (vs := [(0, (.int .i64 (14 : Int))), (1, (.string ⟨#[32, 98, 114, 95, 116, 97, 98, 108, 101]⟩)), (2, (.int .i64 (3 : Int))), (5, (.bool true))]) (cs := #[(.int .i64 (14 : Int)), (.string ⟨#[32, 98, 114, 95, 116, 97, 98, 108, 101]⟩), (.int .i64 (3 : Int)), (.string ⟨#[]⟩), (.string ⟨#[]⟩), (.bool true)]) rfl (fun _ => by kernel_rfl)) rfl rfl rfl ?_; clear hf fa; intro fa hf
  refine sqv hf (r_build (vs := [(0, (.int .i64 (15 : Int))), (1, (.string ⟨#[32, 114, 101, 116, 117, 114, 110]⟩)), (5, (.bool true))]) (cs := #[(.int .i64 (15 : Int)), (.string ⟨#[32, 114, 101, 116, 117, 114, 110]⟩), (.int .i64 (0 : Int)), (.string ⟨#[]⟩), (.string ⟨#[]⟩), (.bool true)]) rfl (fun _ => by kernel_rfl)) rfl rfl rfl ?_; clear hf fa; intro fa hf
  refine sqv hf (r_build (vs := [(0, (.int .i64 (16 : Int))), (1, (.string ⟨#[32, 99, 97, 108, 108]⟩)), (2, (.int .i64 (4 : Int))), (5, (.bool true))]) (cs := #[(.int .i64 (16 : Int)), (.string ⟨#[32, 99, 97, 108, 108]⟩), (.int .i64 (4 : Int)), (.string ⟨#[]⟩), (.string ⟨#[]⟩), (.bool true)]) rfl (fun _ => by kernel_rfl)) rfl rfl rfl ?_; clear hf fa; intro fa hf
  refine sqv hf (r_build (vs := [(0, (.int .i64 (17 : Int))), (1, (.string ⟨#[32, 99, 97, 108, 108, 95, 105, 110, 100, 105, 114, 101, 99, 116]⟩)), (2, (.int .i64 (5 : Int))), (5, (.bool true))]) (cs := #[(.int .i64 (17 : Int)), (.string ⟨#[32, 99, 97, 108, 108, 95, 105, 110, 100, 105, 114, 101, 99, 116]⟩), (.int .i64 (5 : Int)), (.string ⟨#[]⟩), (.string ⟨#[]⟩), (.bool true)]) rfl (fun _ => by kernel_rfl)) rfl rfl rfl ?_; clear hf fa; intro fa hf
  refine sqv hf (r_build (vs := [(0, (.int .i64 (26 : Int))), (1, (.string ⟨#[32, 100, 114, 111, 112, 32, 115, 101, 108, 101, 99, 116]⟩)), (5, (.bool true))]) (cs := #[(.int .i64 (26 : Int)), (.string ⟨#[32, 100, 114, 111, 112, 32, 115, 101, 108, 101, 99, 116]⟩), (.int .i64 (0 : Int)), (.string ⟨#[]⟩), (.string ⟨#[]⟩), (.bool true)]) rfl (fun _ => by kernel_rfl)) rfl rfl rfl ?_; clear hf fa; intro fa hf
  refine sqv hf (r_build (vs := [(0, (.int .i64 (32 : Int))), (1, (.string ⟨#[108, 111, 99, 97, 108, 46, 32, 103, 101, 116, 32, 115, 101, 116, 32, 116, 101, 101]⟩)), (2, (.int .i64 (6 : Int))), (5, (.bool true))]) (cs := #[(.int .i64 (32 : Int)), (.string ⟨#[108, 111, 99, 97, 108, 46, 32, 103, 101, 116, 32, 115, 101, 116, 32, 116, 101, 101]⟩), (.int .i64 (6 : Int)), (.string ⟨#[]⟩), (.string ⟨#[]⟩), (.bool true)]) rfl (fun _ => by kernel_rfl)) rfl rfl rfl ?_; clear hf fa; intro fa hf
  refine sqv hf (r_build (vs := [(0, (.int .i64 (35 : Int))), (1, (.string ⟨#[103, 108, 111, 98, 97, 108, 46, 32, 103, 101, 116, 32, 115, 101, 116]⟩)), (2, (.int .i64 (7 : Int))), (5, (.bool true))]) (cs := #[(.int .i64 (35 : Int)), (.string ⟨#[103, 108, 111, 98, 97, 108, 46, 32, 103, 101, 116, 32, 115, 101, 116]⟩), (.int .i64 (7 : Int)), (.string ⟨#[]⟩), (.string ⟨#[]⟩), (.bool true)]) rfl (fun _ => by kernel_rfl)) rfl rfl rfl ?_; clear hf fa; intro fa hf
  refine sqv hf (r_build (vs := [(0, (.int .i64 (40 : Int))), (1, (.string ⟨#[105, 51, 50, 46, 32, 108, 111, 97, 100]⟩)), (2, (.int .i64 (8 : Int))), (3, (.string ⟨#[119]⟩)), (4, (.string ⟨#[119]⟩))]) (cs := #[(.int .i64 (40 : Int)), (.string ⟨#[105, 51, 50, 46, 32, 108, 111, 97, 100]⟩), (.int .i64 (8 : Int)), (.string ⟨#[119]⟩), (.string ⟨#[119]⟩), (.bool false)]) rfl (fun _ => by kernel_rfl)) rfl rfl rfl ?_; clear hf fa; intro fa hf
  refine sqv hf (r_build (vs := [(0, (.int .i64 (41 : Int))), (1, (.string ⟨#[105, 54, 52, 46, 32, 108, 111, 97, 100]⟩)), (2, (.int .i64 (8 : Int))), (3, (.string ⟨#[119]⟩)), (4, (.string ⟨#[108]⟩))]) (cs := #[(.int .i64 (41 : Int)), (.string ⟨#[105, 54, 52, 46, 32, 108, 111, 97, 100]⟩), (.int .i64 (8 : Int)), (.string ⟨#[119]⟩), (.string ⟨#[108]⟩), (.bool false)]) rfl (fun _ => by kernel_rfl)) rfl rfl rfl ?_; clear hf fa; intro fa hf
  refine sqv hf (r_build (vs := [(0, (.int .i64 (44 : Int))), (1, (.string ⟨#[105, 51, 50, 46, 32, 108, 111, 97, 100, 56, 95, 115, 32, 108, 111, 97, 100, 56, 95, 117, 32, 108, 111, 97, 100, 49, 54, 95, 115, 32, 108, 111, 97, 100, 49, 54, 95, 117]⟩)), (2, (.int .i64 (8 : Int))), (3, (.string ⟨#[119]⟩)), (4, (.string ⟨#[119]⟩))]) (cs := #[(.int .i64 (44 : Int)), (.string ⟨#[105, 51, 50, 46, 32, 108, 111, 97, 100, 56, 95, 115, 32, 108, 111, 97, 100, 56, 95, 117, 32, 108, 111, 97, 100, 49, 54, 95, 115, 32, 108, 111, 97, 100, 49, 54, 95, 117]⟩), (.int .i64 (8 : Int)), (.string ⟨#[119]⟩), (.string ⟨#[119]⟩), (.bool false)]) rfl (fun _ => by kernel_rfl)) rfl rfl rfl ?_; clear hf fa; intro fa hf
  refine sqv hf (r_build (vs := [(0, (.int .i64 (48 : Int))), (1, (.string ⟨#[105, 54, 52, 46, 32, 108, 111, 97, 100, 56, 95, 115, 32, 108, 111, 97, 100, 56, 95, 117, 32, 108, 111, 97, 100, 49, 54, 95, 115, 32, 108, 111, 97, 100, 49, 54, 95, 117, 32, 108, 111, 97, 100, 51, 50, 95, 115, 32, 108, 111, 97, 100, 51, 50, 95, 117]⟩)), (2, (.int .i64 (8 : Int))), (3, (.string ⟨#[119]⟩)), (4, (.string ⟨#[108]⟩))]) (cs := #[(.int .i64 (48 : Int)), (.string ⟨#[105, 54, 52, 46, 32, 108, 111, 97, 100, 56, 95, 115, 32, 108, 111, 97, 100, 56, 95, 117, 32, 108, 111, 97, 100, 49, 54, 95, 115, 32, 108, 111, 97, 100, 49, 54, 95, 117, 32, 108, 111, 97, 100, 51, 50, 95, 115, 32, 108, 111, 97, 100, 51, 50, 95, 117]⟩), (.int .i64 (8 : Int)), (.string ⟨#[119]⟩), (.string ⟨#[108]⟩), (.bool false)]) rfl (fun _ => by kernel_rfl)) rfl rfl rfl ?_; clear hf fa; intro fa hf
  refine sqv hf (r_build (vs := [(0, (.int .i64 (54 : Int))), (1, (.string ⟨#[105, 51, 50, 46, 32, 115, 116, 111, 114, 101]⟩)), (2, (.int .i64 (8 : Int))), (3, (.string ⟨#[119, 119]⟩))]) (cs := #[(.int .i64 (54 : Int)), (.string ⟨#[105, 51, 50, 46, 32, 115, 116, 111, 114, 101]⟩), (.int .i64 (8 : Int)), (.string ⟨#[119, 119]⟩), (.string ⟨#[]⟩), (.bool false)]) rfl (fun _ => by kernel_rfl)) rfl rfl rfl ?_; clear hf fa; intro fa hf
  refine sqv hf (r_build (vs := [(0, (.int .i64 (55 : Int))), (1, (.string ⟨#[105, 54, 52, 46, 32, 115, 116, 111, 114, 101]⟩)), (2, (.int .i64 (8 : Int))), (3, (.string ⟨#[119, 108]⟩))]) (cs := #[(.int .i64 (55 : Int)), (.string ⟨#[105, 54, 52, 46, 32, 115, 116, 111, 114, 101]⟩), (.int .i64 (8 : Int)), (.string ⟨#[119, 108]⟩), (.string ⟨#[]⟩), (.bool false)]) rfl (fun _ => by kernel_rfl)) rfl rfl rfl ?_; clear hf fa; intro fa hf
  refine sqv hf (r_build (vs := [(0, (.int .i64 (58 : Int))), (1, (.string ⟨#[105, 51, 50, 46, 32, 115, 116, 111, 114, 101, 56, 32, 115, 116, 111, 114, 101, 49, 54]⟩)), (2, (.int .i64 (8 : Int))), (3, (.string ⟨#[119, 119]⟩))]) (cs := #[(.int .i64 (58 : Int)), (.string ⟨#[105, 51, 50, 46, 32, 115, 116, 111, 114, 101, 56, 32, 115, 116, 111, 114, 101, 49, 54]⟩), (.int .i64 (8 : Int)), (.string ⟨#[119, 119]⟩), (.string ⟨#[]⟩), (.bool false)]) rfl (fun _ => by kernel_rfl)) rfl rfl rfl ?_; clear hf fa; intro fa hf
  refine sqv hf (r_build (vs := [(0, (.int .i64 (60 : Int))), (1, (.string ⟨#[105, 54, 52, 46, 32, 115, 116, 111, 114, 101, 56, 32, 115, 116, 111, 114, 101, 49, 54, 32, 115, 116, 111, 114, 101, 51, 50]⟩)), (2, (.int .i64 (8 : Int))), (3, (.string ⟨#[119, 108]⟩))]) (cs := #[(.int .i64 (60 : Int)), (.string ⟨#[105, 54, 52, 46, 32, 115, 116, 111, 114, 101, 56, 32, 115, 116, 111, 114, 101, 49, 54, 32, 115, 116, 111, 114, 101, 51, 50]⟩), (.int .i64 (8 : Int)), (.string ⟨#[119, 108]⟩), (.string ⟨#[]⟩), (.bool false)]) rfl (fun _ => by kernel_rfl)) rfl rfl rfl ?_; clear hf fa; intro fa hf
  refine sqv hf (r_build (vs := [(0, (.int .i64 (63 : Int))), (1, (.string ⟨#[109, 101, 109, 111, 114, 121, 46, 32, 115, 105, 122, 101]⟩)), (2, (.int .i64 (9 : Int))), (4, (.string ⟨#[119]⟩))]) (cs := #[(.int .i64 (63 : Int)), (.string ⟨#[109, 101, 109, 111, 114, 121, 46, 32, 115, 105, 122, 101]⟩), (.int .i64 (9 : Int)), (.string ⟨#[]⟩), (.string ⟨#[119]⟩), (.bool false)]) rfl (fun _ => by kernel_rfl)) rfl rfl rfl ?_; clear hf fa; intro fa hf
  refine sqv hf (r_build (vs := [(0, (.int .i64 (64 : Int))), (1, (.string ⟨#[109, 101, 109, 111, 114, 121, 46, 32, 103, 114, 111, 119]⟩)), (2, (.int .i64 (9 : Int))), (3, (.string ⟨#[119]⟩)), (4, (.string ⟨#[119]⟩))]) (cs := #[(.int .i64 (64 : Int)), (.string ⟨#[109, 101, 109, 111, 114, 121, 46, 32, 103, 114, 111, 119]⟩), (.int .i64 (9 : Int)), (.string ⟨#[119]⟩), (.string ⟨#[119]⟩), (.bool false)]) rfl (fun _ => by kernel_rfl)) rfl rfl rfl ?_; clear hf fa; intro fa hf
  refine sqv hf (r_build (vs := [(0, (.int .i64 (65 : Int))), (1, (.string ⟨#[105, 51, 50, 46, 32, 99, 111, 110, 115, 116]⟩)), (2, (.int .i64 (10 : Int))), (4, (.string ⟨#[119]⟩))]) (cs := #[(.int .i64 (65 : Int)), (.string ⟨#[105, 51, 50, 46, 32, 99, 111, 110, 115, 116]⟩), (.int .i64 (10 : Int)), (.string ⟨#[]⟩), (.string ⟨#[119]⟩), (.bool false)]) rfl (fun _ => by kernel_rfl)) rfl rfl rfl ?_; clear hf fa; intro fa hf
  refine sqv hf (r_build (vs := [(0, (.int .i64 (66 : Int))), (1, (.string ⟨#[105, 54, 52, 46, 32, 99, 111, 110, 115, 116]⟩)), (2, (.int .i64 (11 : Int))), (4, (.string ⟨#[108]⟩))]) (cs := #[(.int .i64 (66 : Int)), (.string ⟨#[105, 54, 52, 46, 32, 99, 111, 110, 115, 116]⟩), (.int .i64 (11 : Int)), (.string ⟨#[]⟩), (.string ⟨#[108]⟩), (.bool false)]) rfl (fun _ => by kernel_rfl)) rfl rfl rfl ?_; clear hf fa; intro fa hf
  refine sqv hf (r_build (vs := [(0, (.int .i64 (69 : Int))), (1, (.string ⟨#[105, 51, 50, 46, 32, 101, 113, 122]⟩)), (3, (.string ⟨#[119]⟩)), (4, (.string ⟨#[119]⟩))]) (cs := #[(.int .i64 (69 : Int)), (.string ⟨#[105, 51, 50, 46, 32, 101, 113, 122]⟩), (.int .i64 (0 : Int)), (.string ⟨#[119]⟩), (.string ⟨#[119]⟩), (.bool false)]) rfl (fun _ => by kernel_rfl)) rfl rfl rfl ?_; clear hf fa; intro fa hf
  refine sqv hf (r_build (vs := [(0, (.int .i64 (70 : Int))), (1, (.string ⟨#[105, 51, 50, 46, 32, 101, 113, 32, 110, 101, 32, 108, 116, 95, 115, 32, 108, 116, 95, 117, 32, 103, 116, 95, 115, 32, 103, 116, 95, 117, 32, 108, 101, 95, 115, 32, 108, 101, 95, 117, 32, 103, 101, 95, 115, 32, 103, 101, 95, 117]⟩)), (3, (.string ⟨#[119, 119]⟩)), (4, (.string ⟨#[119]⟩))]) (cs := #[(.int .i64 (70 : Int)), (.string ⟨#[105, 51, 50, 46, 32, 101, 113, 32, 110, 101, 32, 108, 116, 95, 115, 32, 108, 116, 95, 117, 32, 103, 116, 95, 115, 32, 103, 116, 95, 117, 32, 108, 101, 95, 115, 32, 108, 101, 95, 117, 32, 103, 101, 95, 115, 32, 103, 101, 95, 117]⟩), (.int .i64 (0 : Int)), (.string ⟨#[119, 119]⟩), (.string ⟨#[119]⟩), (.bool false)]) rfl (fun _ => by kernel_rfl)) rfl rfl rfl ?_; clear hf fa; intro fa hf
  refine sqv hf (r_build (vs := [(0, (.int .i64 (80 : Int))), (1, (.string ⟨#[105, 54, 52, 46, 32, 101, 113, 122]⟩)), (3, (.string ⟨#[108]⟩)), (4, (.string ⟨#[119]⟩))]) (cs := #[(.int .i64 (80 : Int)), (.string ⟨#[105, 54, 52, 46, 32, 101, 113, 122]⟩), (.int .i64 (0 : Int)), (.string ⟨#[108]⟩), (.string ⟨#[119]⟩), (.bool false)]) rfl (fun _ => by kernel_rfl)) rfl rfl rfl ?_; clear hf fa; intro fa hf
  refine sqv hf (r_build (vs := [(0, (.int .i64 (81 : Int))), (1, (.string ⟨#[105, 54, 52, 46, 32, 101, 113, 32, 110, 101, 32, 108, 116, 95, 115, 32, 108, 116, 95, 117, 32, 103, 116, 95, 115, 32, 103, 116, 95, 117, 32, 108, 101, 95, 115, 32, 108, 101, 95, 117, 32, 103, 101, 95, 115, 32, 103, 101, 95, 117]⟩)), (3, (.string ⟨#[108, 108]⟩)), (4, (.string ⟨#[119]⟩))]) (cs := #[(.int .i64 (81 : Int)), (.string ⟨#[105, 54, 52, 46, 32, 101, 113, 32, 110, 101, 32, 108, 116, 95, 115, 32, 108, 116, 95, 117, 32, 103, 116, 95, 115, 32, 103, 116, 95, 117, 32, 108, 101, 95, 115, 32, 108, 101, 95, 117, 32, 103, 101, 95, 115, 32, 103, 101, 95, 117]⟩), (.int .i64 (0 : Int)), (.string ⟨#[108, 108]⟩), (.string ⟨#[119]⟩), (.bool false)]) rfl (fun _ => by kernel_rfl)) rfl rfl rfl ?_; clear hf fa; intro fa hf
  refine sqv hf (r_build (vs := [(0, (.int .i64 (103 : Int))), (1, (.string ⟨#[105, 51, 50, 46, 32, 99, 108, 122, 32, 99, 116, 122, 32, 112, 111, 112, 99, 110, 116]⟩)), (3, (.string ⟨#[119]⟩)), (4, (.string ⟨#[119]⟩))]) (cs := #[(.int .i64 (103 : Int)), (.string ⟨#[105, 51, 50, 46, 32, 99, 108, 122, 32, 99, 116, 122, 32, 112, 111, 112, 99, 110, 116]⟩), (.int .i64 (0 : Int)), (.string ⟨#[119]⟩), (.string ⟨#[119]⟩), (.bool false)]) rfl (fun _ => by kernel_rfl)) rfl rfl rfl ?_; clear hf fa; intro fa hf
  refine sqv hf (r_build (vs := [(0, (.int .i64 (106 : Int))), (1, (.string bigS0)), (3, (.string ⟨#[119, 119]⟩)), (4, (.string ⟨#[119]⟩))]) (cs := #[(.int .i64 (106 : Int)), (.string bigS0), (.int .i64 (0 : Int)), (.string ⟨#[119, 119]⟩), (.string ⟨#[119]⟩), (.bool false)]) rfl (fun _ => by kernel_rfl)) rfl rfl rfl ?_; clear hf fa; intro fa hf
  refine sqv hf (r_build (vs := [(0, (.int .i64 (121 : Int))), (1, (.string ⟨#[105, 54, 52, 46, 32, 99, 108, 122, 32, 99, 116, 122, 32, 112, 111, 112, 99, 110, 116]⟩)), (3, (.string ⟨#[108]⟩)), (4, (.string ⟨#[108]⟩))]) (cs := #[(.int .i64 (121 : Int)), (.string ⟨#[105, 54, 52, 46, 32, 99, 108, 122, 32, 99, 116, 122, 32, 112, 111, 112, 99, 110, 116]⟩), (.int .i64 (0 : Int)), (.string ⟨#[108]⟩), (.string ⟨#[108]⟩), (.bool false)]) rfl (fun _ => by kernel_rfl)) rfl rfl rfl ?_; clear hf fa; intro fa hf
  refine sqv hf (r_build (vs := [(0, (.int .i64 (124 : Int))), (1, (.string bigS1)), (3, (.string ⟨#[108, 108]⟩)), (4, (.string ⟨#[108]⟩))]) (cs := #[(.int .i64 (124 : Int)), (.string bigS1), (.int .i64 (0 : Int)), (.string ⟨#[108, 108]⟩), (.string ⟨#[108]⟩), (.bool false)]) rfl (fun _ => by kernel_rfl)) rfl rfl rfl ?_; clear hf fa; intro fa hf
  refine sqv hf (r_build (vs := [(0, (.int .i64 (167 : Int))), (1, (.string ⟨#[105, 51, 50, 46, 32, 119, 114, 97, 112, 95, 105, 54, 52]⟩)), (3, (.string ⟨#[108]⟩)), (4, (.string ⟨#[119]⟩))]) (cs := #[(.int .i64 (167 : Int)), (.string ⟨#[105, 51, 50, 46, 32, 119, 114, 97, 112, 95, 105, 54, 52]⟩), (.int .i64 (0 : Int)), (.string ⟨#[108]⟩), (.string ⟨#[119]⟩), (.bool false)]) rfl (fun _ => by kernel_rfl)) rfl rfl rfl ?_; clear hf fa; intro fa hf
  refine sqv hf (r_build (vs := [(0, (.int .i64 (172 : Int))), (1, (.string ⟨#[105, 54, 52, 46, 32, 101, 120, 116, 101, 110, 100, 95, 105, 51, 50, 95, 115, 32, 101, 120, 116, 101, 110, 100, 95, 105, 51, 50, 95, 117]⟩)), (3, (.string ⟨#[119]⟩)), (4, (.string ⟨#[108]⟩))]) (cs := #[(.int .i64 (172 : Int)), (.string ⟨#[105, 54, 52, 46, 32, 101, 120, 116, 101, 110, 100, 95, 105, 51, 50, 95, 115, 32, 101, 120, 116, 101, 110, 100, 95, 105, 51, 50, 95, 117]⟩), (.int .i64 (0 : Int)), (.string ⟨#[119]⟩), (.string ⟨#[108]⟩), (.bool false)]) rfl (fun _ => by kernel_rfl)) rfl rfl rfl ?_; clear hf fa; intro fa hf
  refine sqdt hf (d_bslice (z := (.agg #[(.int .i64 (0 : Int)), (.string ⟨#[]⟩), (.int .i64 (0 : Int)), (.string ⟨#[]⟩), (.string ⟨#[]⟩), (.bool false)])) (sz := 6) (vs := [(0, (.agg #[(.int .i64 (0 : Int)), (.string ⟨#[32, 117, 110, 114, 101, 97, 99, 104, 97, 98, 108, 101]⟩), (.int .i64 (0 : Int)), (.string ⟨#[]⟩), (.string ⟨#[]⟩), (.bool true)])), (1, (.agg #[(.int .i64 (1 : Int)), (.string ⟨#[32, 110, 111, 112]⟩), (.int .i64 (0 : Int)), (.string ⟨#[]⟩), (.string ⟨#[]⟩), (.bool false)])), (2, (.agg #[(.int .i64 (2 : Int)), (.string ⟨#[32, 98, 108, 111, 99, 107, 32, 108, 111, 111, 112, 32, 105, 102]⟩), (.int .i64 (1 : Int)), (.string ⟨#[]⟩), (.string ⟨#[]⟩), (.bool true)])), (3, (.agg #[(.int .i64 (5 : Int)), (.string ⟨#[32, 101, 108, 115, 101]⟩), (.int .i64 (0 : Int)), (.string ⟨#[]⟩), (.string ⟨#[]⟩), (.bool true)])), (4, (.agg #[(.int .i64 (11 : Int)), (.string ⟨#[32, 101, 110, 100]⟩), (.int .i64 (0 : Int)), (.string ⟨#[]⟩), (.string ⟨#[]⟩), (.bool true)])), (5, (.agg #[(.int .i64 (12 : Int)), (.string ⟨#[32, 98, 114, 32, 98, 114, 95, 105, 102]⟩), (.int .i64 (2 : Int)), (.string ⟨#[]⟩), (.string ⟨#[]⟩), (.bool true)])), (6, (.agg #[(.int .i64 (14 : Int)), (.string ⟨#[32, 98, 114, 95, 116, 97, 98, 108, 101]⟩), (.int .i64 (3 : Int)), (.string ⟨#[]⟩), (.string ⟨#[]⟩), (.bool true)])), (7, (.agg #[(.int .i64 (15 : Int)), (.string ⟨#[32, 114, 101, 116, 117, 114, 110]⟩), (.int .i64 (0 : Int)), (.string ⟨#[]⟩), (.string ⟨#[]⟩), (.bool true)])), (8, (.agg #[(.int .i64 (16 : Int)), (.string ⟨#[32, 99, 97, 108, 108]⟩), (.int .i64 (4 : Int)), (.string ⟨#[]⟩), (.string ⟨#[]⟩), (.bool true)])), (9, (.agg #[(.int .i64 (17 : Int)), (.string ⟨#[32, 99, 97, 108, 108, 95, 105, 110, 100, 105, 114, 101, 99, 116]⟩), (.int .i64 (5 : Int)), (.string ⟨#[]⟩), (.string ⟨#[]⟩), (.bool true)])), (10, (.agg #[(.int .i64 (26 : Int)), (.string ⟨#[32, 100, 114, 111, 112, 32, 115, 101, 108, 101, 99, 116]⟩), (.int .i64 (0 : Int)), (.string ⟨#[]⟩), (.string ⟨#[]⟩), (.bool true)])), (11, (.agg #[(.int .i64 (32 : Int)), (.string ⟨#[108, 111, 99, 97, 108, 46, 32, 103, 101, 116, 32, 115, 101, 116, 32, 116, 101, 101]⟩), (.int .i64 (6 : Int)), (.string ⟨#[]⟩), (.string ⟨#[]⟩), (.bool true)])), (12, (.agg #[(.int .i64 (35 : Int)), (.string ⟨#[103, 108, 111, 98, 97, 108, 46, 32, 103, 101, 116, 32, 115, 101, 116]⟩), (.int .i64 (7 : Int)), (.string ⟨#[]⟩), (.string ⟨#[]⟩), (.bool true)])), (13, (.agg #[(.int .i64 (40 : Int)), (.string ⟨#[105, 51, 50, 46, 32, 108, 111, 97, 100]⟩), (.int .i64 (8 : Int)), (.string ⟨#[119]⟩), (.string ⟨#[119]⟩), (.bool false)])), (14, (.agg #[(.int .i64 (41 : Int)), (.string ⟨#[105, 54, 52, 46, 32, 108, 111, 97, 100]⟩), (.int .i64 (8 : Int)), (.string ⟨#[119]⟩), (.string ⟨#[108]⟩), (.bool false)])), (15, (.agg #[(.int .i64 (44 : Int)), (.string ⟨#[105, 51, 50, 46, 32, 108, 111, 97, 100, 56, 95, 115, 32, 108, 111, 97, 100, 56, 95, 117, 32, 108, 111, 97, 100, 49, 54, 95, 115, 32, 108, 111, 97, 100, 49, 54, 95, 117]⟩), (.int .i64 (8 : Int)), (.string ⟨#[119]⟩), (.string ⟨#[119]⟩), (.bool false)])), (16, (.agg #[(.int .i64 (48 : Int)), (.string ⟨#[105, 54, 52, 46, 32, 108, 111, 97, 100, 56, 95, 115, 32, 108, 111, 97, 100, 56, 95, 117, 32, 108, 111, 97, 100, 49, 54, 95, 115, 32, 108, 111, 97, 100, 49, 54, 95, 117, 32, 108, 111, 97, 100, 51, 50, 95, 115, 32, 108, 111, 97, 100, 51, 50, 95, 117]⟩), (.int .i64 (8 : Int)), (.string ⟨#[119]⟩), (.string ⟨#[108]⟩), (.bool false)])), (17, (.agg #[(.int .i64 (54 : Int)), (.string ⟨#[105, 51, 50, 46, 32, 115, 116, 111, 114, 101]⟩), (.int .i64 (8 : Int)), (.string ⟨#[119, 119]⟩), (.string ⟨#[]⟩), (.bool false)])), (18, (.agg #[(.int .i64 (55 : Int)), (.string ⟨#[105, 54, 52, 46, 32, 115, 116, 111, 114, 101]⟩), (.int .i64 (8 : Int)), (.string ⟨#[119, 108]⟩), (.string ⟨#[]⟩), (.bool false)])), (19, (.agg #[(.int .i64 (58 : Int)), (.string ⟨#[105, 51, 50, 46, 32, 115, 116, 111, 114, 101, 56, 32, 115, 116, 111, 114, 101, 49, 54]⟩), (.int .i64 (8 : Int)), (.string ⟨#[119, 119]⟩), (.string ⟨#[]⟩), (.bool false)])), (20, (.agg #[(.int .i64 (60 : Int)), (.string ⟨#[105, 54, 52, 46, 32, 115, 116, 111, 114, 101, 56, 32, 115, 116, 111, 114, 101, 49, 54, 32, 115, 116, 111, 114, 101, 51, 50]⟩), (.int .i64 (8 : Int)), (.string ⟨#[119, 108]⟩), (.string ⟨#[]⟩), (.bool false)])), (21, (.agg #[(.int .i64 (63 : Int)), (.string ⟨#[109, 101, 109, 111, 114, 121, 46, 32, 115, 105, 122, 101]⟩), (.int .i64 (9 : Int)), (.string ⟨#[]⟩), (.string ⟨#[119]⟩), (.bool false)])), (22, (.agg #[(.int .i64 (64 : Int)), (.string ⟨#[109, 101, 109, 111, 114, 121, 46, 32, 103, 114, 111, 119]⟩), (.int .i64 (9 : Int)), (.string ⟨#[119]⟩), (.string ⟨#[119]⟩), (.bool false)])), (23, (.agg #[(.int .i64 (65 : Int)), (.string ⟨#[105, 51, 50, 46, 32, 99, 111, 110, 115, 116]⟩), (.int .i64 (10 : Int)), (.string ⟨#[]⟩), (.string ⟨#[119]⟩), (.bool false)])), (24, (.agg #[(.int .i64 (66 : Int)), (.string ⟨#[105, 54, 52, 46, 32, 99, 111, 110, 115, 116]⟩), (.int .i64 (11 : Int)), (.string ⟨#[]⟩), (.string ⟨#[108]⟩), (.bool false)])), (25, (.agg #[(.int .i64 (69 : Int)), (.string ⟨#[105, 51, 50, 46, 32, 101, 113, 122]⟩), (.int .i64 (0 : Int)), (.string ⟨#[119]⟩), (.string ⟨#[119]⟩), (.bool false)])), (26, (.agg #[(.int .i64 (70 : Int)), (.string ⟨#[105, 51, 50, 46, 32, 101, 113, 32, 110, 101, 32, 108, 116, 95, 115, 32, 108, 116, 95, 117, 32, 103, 116, 95, 115, 32, 103, 116, 95, 117, 32, 108, 101, 95, 115, 32, 108, 101, 95, 117, 32, 103, 101, 95, 115, 32, 103, 101, 95, 117]⟩), (.int .i64 (0 : Int)), (.string ⟨#[119, 119]⟩), (.string ⟨#[119]⟩), (.bool false)])), (27, (.agg #[(.int .i64 (80 : Int)), (.string ⟨#[105, 54, 52, 46, 32, 101, 113, 122]⟩), (.int .i64 (0 : Int)), (.string ⟨#[108]⟩), (.string ⟨#[119]⟩), (.bool false)])), (28, (.agg #[(.int .i64 (81 : Int)), (.string ⟨#[105, 54, 52, 46, 32, 101, 113, 32, 110, 101, 32, 108, 116, 95, 115, 32, 108, 116, 95, 117, 32, 103, 116, 95, 115, 32, 103, 116, 95, 117, 32, 108, 101, 95, 115, 32, 108, 101, 95, 117, 32, 103, 101, 95, 115, 32, 103, 101, 95, 117]⟩), (.int .i64 (0 : Int)), (.string ⟨#[108, 108]⟩), (.string ⟨#[119]⟩), (.bool false)])), (29, (.agg #[(.int .i64 (103 : Int)), (.string ⟨#[105, 51, 50, 46, 32, 99, 108, 122, 32, 99, 116, 122, 32, 112, 111, 112, 99, 110, 116]⟩), (.int .i64 (0 : Int)), (.string ⟨#[119]⟩), (.string ⟨#[119]⟩), (.bool false)])), (30, (.agg #[(.int .i64 (106 : Int)), (.string bigS0), (.int .i64 (0 : Int)), (.string ⟨#[119, 119]⟩), (.string ⟨#[119]⟩), (.bool false)])), (31, (.agg #[(.int .i64 (121 : Int)), (.string ⟨#[105, 54, 52, 46, 32, 99, 108, 122, 32, 99, 116, 122, 32, 112, 111, 112, 99, 110, 116]⟩), (.int .i64 (0 : Int)), (.string ⟨#[108]⟩), (.string ⟨#[108]⟩), (.bool false)])), (32, (.agg #[(.int .i64 (124 : Int)), (.string bigS1), (.int .i64 (0 : Int)), (.string ⟨#[108, 108]⟩), (.string ⟨#[108]⟩), (.bool false)])), (33, (.agg #[(.int .i64 (167 : Int)), (.string ⟨#[105, 51, 50, 46, 32, 119, 114, 97, 112, 95, 105, 54, 52]⟩), (.int .i64 (0 : Int)), (.string ⟨#[108]⟩), (.string ⟨#[119]⟩), (.bool false)])), (34, (.agg #[(.int .i64 (172 : Int)), (.string ⟨#[105, 54, 52, 46, 32, 101, 120, 116, 101, 110, 100, 95, 105, 51, 50, 95, 115, 32, 101, 120, 116, 101, 110, 100, 95, 105, 51, 50, 95, 117]⟩), (.int .i64 (0 : Int)), (.string ⟨#[119]⟩), (.string ⟨#[108]⟩), (.bool false)]))]) (cs := #[(.int .i64 (0 : Int)), (.string ⟨#[32, 117, 110, 114, 101, 97, 99, 104, 97, 98, 108, 101]⟩), (.int .i64 (0 : Int)), (.string ⟨#[]⟩), (.string ⟨#[]⟩), (.bool true), (.int .i64 (1 : Int)), (.string ⟨#[32, 110, 111, 112]⟩), (.int .i64 (0 : Int)), (.string ⟨#[]⟩), (.string ⟨#[]⟩), (.bool false), (.int .i64 (2 : Int)), (.string ⟨#[32, 98, 108, 111, 99, 107, 32, 108, 111, 111, 112, 32, 105, 102]⟩), (.int .i64 (1 : Int)), (.string ⟨#[]⟩), (.string ⟨#[]⟩), (.bool true), (.int .i64 (5 : Int)), (.string ⟨#[32, 101, 108, 115, 101]⟩), (.int .i64 (0 : Int)), (.string ⟨#[]⟩), (.string ⟨#[]⟩), (.bool true), (.int .i64 (11 : Int)), (.string ⟨#[32, 101, 110, 100]⟩), (.int .i64 (0 : Int)), (.string ⟨#[]⟩), (.string ⟨#[]⟩), (.bool true), (.int .i64 (12 : Int)), (.string ⟨#[32, 98, 114, 32, 98, 114, 95, 105, 102]⟩), (.int .i64 (2 : Int)), (.string ⟨#[]⟩), (.string ⟨#[]⟩), (.bool true), (.int .i64 (14 : Int)), (.string ⟨#[32, 98, 114, 95, 116, 97, 98, 108, 101]⟩), (.int .i64 (3 : Int)), (.string ⟨#[]⟩), (.string ⟨#[]⟩), (.bool true), (.int .i64 (15 : Int)), (.string ⟨#[32, 114, 101, 116, 117, 114, 110]⟩), (.int .i64 (0 : Int)), (.string ⟨#[]⟩), (.string ⟨#[]⟩), (.bool true), (.int .i64 (16 : Int)), (.string ⟨#[32, 99, 97, 108, 108]⟩), (.int .i64 (4 : Int)), (.string ⟨#[]⟩), (.string ⟨#[]⟩), (.bool true), (.int .i64 (17 : Int)), (.string ⟨#[32, 99, 97, 108, 108, 95, 105, 110, 100, 105, 114, 101, 99, 116]⟩), (.int .i64 (5 : Int)), (.string ⟨#[]⟩), (.string ⟨#[]⟩), (.bool true), (.int .i64 (26 : Int)), (.string ⟨#[32, 100, 114, 111, 112, 32, 115, 101, 108, 101, 99, 116]⟩), (.int .i64 (0 : Int)), (.string ⟨#[]⟩), (.string ⟨#[]⟩), (.bool true), (.int .i64 (32 : Int)), (.string ⟨#[108, 111, 99, 97, 108, 46, 32, 103, 101, 116, 32, 115, 101, 116, 32, 116, 101, 101]⟩), (.int .i64 (6 : Int)), (.string ⟨#[]⟩), (.string ⟨#[]⟩), (.bool true), (.int .i64 (35 : Int)), (.string ⟨#[103, 108, 111, 98, 97, 108, 46, 32, 103, 101, 116, 32, 115, 101, 116]⟩), (.int .i64 (7 : Int)), (.string ⟨#[]⟩), (.string ⟨#[]⟩), (.bool true), (.int .i64 (40 : Int)), (.string ⟨#[105, 51, 50, 46, 32, 108, 111, 97, 100]⟩), (.int .i64 (8 : Int)), (.string ⟨#[119]⟩), (.string ⟨#[119]⟩), (.bool false), (.int .i64 (41 : Int)), (.string ⟨#[105, 54, 52, 46, 32, 108, 111, 97, 100]⟩), (.int .i64 (8 : Int)), (.string ⟨#[119]⟩), (.string ⟨#[108]⟩), (.bool false), (.int .i64 (44 : Int)), (.string ⟨#[105, 51, 50, 46, 32, 108, 111, 97, 100, 56, 95, 115, 32, 108, 111, 97, 100, 56, 95, 117, 32, 108, 111, 97, 100, 49, 54, 95, 115, 32, 108, 111, 97, 100, 49, 54, 95, 117]⟩), (.int .i64 (8 : Int)), (.string ⟨#[119]⟩), (.string ⟨#[119]⟩), (.bool false), (.int .i64 (48 : Int)), (.string ⟨#[105, 54, 52, 46, 32, 108, 111, 97, 100, 56, 95, 115, 32, 108, 111, 97, 100, 56, 95, 117, 32, 108, 111, 97, 100, 49, 54, 95, 115, 32, 108, 111, 97, 100, 49, 54, 95, 117, 32, 108, 111, 97, 100, 51, 50, 95, 115, 32, 108, 111, 97, 100, 51, 50, 95, 117]⟩), (.int .i64 (8 : Int)), (.string ⟨#[119]⟩), (.string ⟨#[108]⟩), (.bool false), (.int .i64 (54 : Int)), (.string ⟨#[105, 51, 50, 46, 32, 115, 116, 111, 114, 101]⟩), (.int .i64 (8 : Int)), (.string ⟨#[119, 119]⟩), (.string ⟨#[]⟩), (.bool false), (.int .i64 (55 : Int)), (.string ⟨#[105, 54, 52, 46, 32, 115, 116, 111, 114, 101]⟩), (.int .i64 (8 : Int)), (.string ⟨#[119, 108]⟩), (.string ⟨#[]⟩), (.bool false), (.int .i64 (58 : Int)), (.string ⟨#[105, 51, 50, 46, 32, 115, 116, 111, 114, 101, 56, 32, 115, 116, 111, 114, 101, 49, 54]⟩), (.int .i64 (8 : Int)), (.string ⟨#[119, 119]⟩), (.string ⟨#[]⟩), (.bool false), (.int .i64 (60 : Int)), (.string ⟨#[105, 54, 52, 46, 32, 115, 116, 111, 114, 101, 56, 32, 115, 116, 111, 114, 101, 49, 54, 32, 115, 116, 111, 114, 101, 51, 50]⟩), (.int .i64 (8 : Int)), (.string ⟨#[119, 108]⟩), (.string ⟨#[]⟩), (.bool false), (.int .i64 (63 : Int)), (.string ⟨#[109, 101, 109, 111, 114, 121, 46, 32, 115, 105, 122, 101]⟩), (.int .i64 (9 : Int)), (.string ⟨#[]⟩), (.string ⟨#[119]⟩), (.bool false), (.int .i64 (64 : Int)), (.string ⟨#[109, 101, 109, 111, 114, 121, 46, 32, 103, 114, 111, 119]⟩), (.int .i64 (9 : Int)), (.string ⟨#[119]⟩), (.string ⟨#[119]⟩), (.bool false), (.int .i64 (65 : Int)), (.string ⟨#[105, 51, 50, 46, 32, 99, 111, 110, 115, 116]⟩), (.int .i64 (10 : Int)), (.string ⟨#[]⟩), (.string ⟨#[119]⟩), (.bool false), (.int .i64 (66 : Int)), (.string ⟨#[105, 54, 52, 46, 32, 99, 111, 110, 115, 116]⟩), (.int .i64 (11 : Int)), (.string ⟨#[]⟩), (.string ⟨#[108]⟩), (.bool false), (.int .i64 (69 : Int)), (.string ⟨#[105, 51, 50, 46, 32, 101, 113, 122]⟩), (.int .i64 (0 : Int)), (.string ⟨#[119]⟩), (.string ⟨#[119]⟩), (.bool false), (.int .i64 (70 : Int)), (.string ⟨#[105, 51, 50, 46, 32, 101, 113, 32, 110, 101, 32, 108, 116, 95, 115, 32, 108, 116, 95, 117, 32, 103, 116, 95, 115, 32, 103, 116, 95, 117, 32, 108, 101, 95, 115, 32, 108, 101, 95, 117, 32, 103, 101, 95, 115, 32, 103, 101, 95, 117]⟩), (.int .i64 (0 : Int)), (.string ⟨#[119, 119]⟩), (.string ⟨#[119]⟩), (.bool false), (.int .i64 (80 : Int)), (.string ⟨#[105, 54, 52, 46, 32, 101, 113, 122]⟩), (.int .i64 (0 : Int)), (.string ⟨#[108]⟩), (.string ⟨#[119]⟩), (.bool false), (.int .i64 (81 : Int)), (.string ⟨#[105, 54, 52, 46, 32, 101, 113, 32, 110, 101, 32, 108, 116, 95, 115, 32, 108, 116, 95, 117, 32, 103, 116, 95, 115, 32, 103, 116, 95, 117, 32, 108, 101, 95, 115, 32, 108, 101, 95, 117, 32, 103, 101, 95, 115, 32, 103, 101, 95, 117]⟩), (.int .i64 (0 : Int)), (.string ⟨#[108, 108]⟩), (.string ⟨#[119]⟩), (.bool false), (.int .i64 (103 : Int)), (.string ⟨#[105, 51, 50, 46, 32, 99, 108, 122, 32, 99, 116, 122, 32, 112, 111, 112, 99, 110, 116]⟩), (.int .i64 (0 : Int)), (.string ⟨#[119]⟩), (.string ⟨#[119]⟩), (.bool false), (.int .i64 (106 : Int)), (.string bigS0), (.int .i64 (0 : Int)), (.string ⟨#[119, 119]⟩), (.string ⟨#[119]⟩), (.bool false), (.int .i64 (121 : Int)), (.string ⟨#[105, 54, 52, 46, 32, 99, 108, 122, 32, 99, 116, 122, 32, 112, 111, 112, 99, 110, 116]⟩), (.int .i64 (0 : Int)), (.string ⟨#[108]⟩), (.string ⟨#[108]⟩), (.bool false), (.int .i64 (124 : Int)), (.string bigS1), (.int .i64 (0 : Int)), (.string ⟨#[108, 108]⟩), (.string ⟨#[108]⟩), (.bool false), (.int .i64 (167 : Int)), (.string ⟨#[105, 51, 50, 46, 32, 119, 114, 97, 112, 95, 105, 54, 52]⟩), (.int .i64 (0 : Int)), (.string ⟨#[108]⟩), (.string ⟨#[119]⟩), (.bool false), (.int .i64 (172 : Int)), (.string ⟨#[105, 54, 52, 46, 32, 101, 120, 116, 101, 110, 100, 95, 105, 51, 50, 95, 115, 32, 101, 120, 116, 101, 110, 100, 95, 105, 51, 50, 95, 117]⟩), (.int .i64 (0 : Int)), (.string ⟨#[119]⟩), (.string ⟨#[108]⟩), (.bool false)]) rfl Tryd.underlying70 (by kernel_rfl) rfl (by kernel_rfl)) rfl rfl rfl ?_; clear hf fa; rintro fa _ w1 ⟨b1, rfl, hle1, hk1, he1⟩ hf
  have hBb1 : w.heap.size ≤ b1 := Nat.le_trans hb.size hle1
  replace hb := hb.trans (Below.mono he1 hb.size)
  refine sqv hf (r_assign rfl) rfl rfl rfl ?_; clear hf fa; intro fa hf
  apply wpList_nil
  (try simp only [Exit.then, Exit.inBlock, ↓reduceIte, Nat.reduceEqDiff])
  refine hK2 _ _ ?_
  refine wp_ret ?_
  (try simp only [Exit.then, Exit.inBlock])
  refine ret1 hf rfl rfl ?_
  have hr1 := Row.of_new (k := 6) (V := vMGr) (l := [((0 : Int), ⟨#[32, 117, 110, 114, 101, 97, 99, 104, 97, 98, 108, 101]⟩, (0 : Int), ⟨#[]⟩, ⟨#[]⟩, true, ()), ((1 : Int), ⟨#[32, 110, 111, 112]⟩, (0 : Int), ⟨#[]⟩, ⟨#[]⟩, false, ()), ((2 : Int), ⟨#[32, 98, 108, 111, 99, 107, 32, 108, 111, 111, 112, 32, 105, 102]⟩, (1 : Int), ⟨#[]⟩, ⟨#[]⟩, true, ()), ((5 : Int), ⟨#[32, 101, 108, 115, 101]⟩, (0 : Int), ⟨#[]⟩, ⟨#[]⟩, true, ()), ((11 : Int), ⟨#[32, 101, 110, 100]⟩, (0 : Int), ⟨#[]⟩, ⟨#[]⟩, true, ()), ((12 : Int), ⟨#[32, 98, 114, 32, 98, 114, 95, 105, 102]⟩, (2 : Int), ⟨#[]⟩, ⟨#[]⟩, true, ()), ((14 : Int), ⟨#[32, 98, 114, 95, 116, 97, 98, 108, 101]⟩, (3 : Int), ⟨#[]⟩, ⟨#[]⟩, true, ()), ((15 : Int), ⟨#[32, 114, 101, 116, 117, 114, 110]⟩, (0 : Int), ⟨#[]⟩, ⟨#[]⟩, true, ()), ((16 : Int), ⟨#[32, 99, 97, 108, 108]⟩, (4 : Int), ⟨#[]⟩, ⟨#[]⟩, true, ()), ((17 : Int), ⟨#[32, 99, 97, 108, 108, 95, 105, 110, 100, 105, 114, 101, 99, 116]⟩, (5 : Int), ⟨#[]⟩, ⟨#[]⟩, true, ()), ((26 : Int), ⟨#[32, 100, 114, 111, 112, 32, 115, 101, 108, 101, 99, 116]⟩, (0 : Int), ⟨#[]⟩, ⟨#[]⟩, true, ()), ((32 : Int), ⟨#[108, 111, 99, 97, 108, 46, 32, 103, 101, 116, 32, 115, 101, 116, 32, 116, 101, 101]⟩, (6 : Int), ⟨#[]⟩, ⟨#[]⟩, true, ()), ((35 : Int), ⟨#[103, 108, 111, 98, 97, 108, 46, 32, 103, 101, 116, 32, 115, 101, 116]⟩, (7 : Int), ⟨#[]⟩, ⟨#[]⟩, true, ()), ((40 : Int), ⟨#[105, 51, 50, 46, 32, 108, 111, 97, 100]⟩, (8 : Int), ⟨#[119]⟩, ⟨#[119]⟩, false, ()), ((41 : Int), ⟨#[105, 54, 52, 46, 32, 108, 111, 97, 100]⟩, (8 : Int), ⟨#[119]⟩, ⟨#[108]⟩, false, ()), ((44 : Int), ⟨#[105, 51, 50, 46, 32, 108, 111, 97, 100, 56, 95, 115, 32, 108, 111, 97, 100, 56, 95, 117, 32, 108, 111, 97, 100, 49, 54, 95, 115, 32, 108, 111, 97, 100, 49, 54, 95, 117]⟩, (8 : Int), ⟨#[119]⟩, ⟨#[119]⟩, false, ()), ((48 : Int), ⟨#[105, 54, 52, 46, 32, 108, 111, 97, 100, 56, 95, 115, 32, 108, 111, 97, 100, 56, 95, 117, 32, 108, 111, 97, 100, 49, 54, 95, 115, 32, 108, 111, 97, 100, 49, 54, 95, 117, 32, 108, 111, 97, 100, 51, 50, 95, 115, 32, 108, 111, 97, 100, 51, 50, 95, 117]⟩, (8 : Int), ⟨#[119]⟩, ⟨#[108]⟩, false, ()), ((54 : Int), ⟨#[105, 51, 50, 46, 32, 115, 116, 111, 114, 101]⟩, (8 : Int), ⟨#[119, 119]⟩, ⟨#[]⟩, false, ()), ((55 : Int), ⟨#[105, 54, 52, 46, 32, 115, 116, 111, 114, 101]⟩, (8 : Int), ⟨#[119, 108]⟩, ⟨#[]⟩, false, ()), ((58 : Int), ⟨#[105, 51, 50, 46, 32, 115, 116, 111, 114, 101, 56, 32, 115, 116, 111, 114, 101, 49, 54]⟩, (8 : Int), ⟨#[119, 119]⟩, ⟨#[]⟩, false, ()), ((60 : Int), ⟨#[105, 54, 52, 46, 32, 115, 116, 111, 114, 101, 56, 32, 115, 116, 111, 114, 101, 49, 54, 32, 115, 116, 111, 114, 101, 51, 50]⟩, (8 : Int), ⟨#[119, 108]⟩, ⟨#[]⟩, false, ()), ((63 : Int), ⟨#[109, 101, 109, 111, 114, 121, 46, 32, 115, 105, 122, 101]⟩, (9 : Int), ⟨#[]⟩, ⟨#[119]⟩, false, ()), ((64 : Int), ⟨#[109, 101, 109, 111, 114, 121, 46, 32, 103, 114, 111, 119]⟩, (9 : Int), ⟨#[119]⟩, ⟨#[119]⟩, false, ()), ((65 : Int), ⟨#[105, 51, 50, 46, 32, 99, 111, 110, 115, 116]⟩, (10 : Int), ⟨#[]⟩, ⟨#[119]⟩, false, ()), ((66 : Int), ⟨#[105, 54, 52, 46, 32, 99, 111, 110, 115, 116]⟩, (11 : Int), ⟨#[]⟩, ⟨#[108]⟩, false, ()), ((69 : Int), ⟨#[105, 51, 50, 46, 32, 101, 113, 122]⟩, (0 : Int), ⟨#[119]⟩, ⟨#[119]⟩, false, ()), ((70 : Int), ⟨#[105, 51, 50, 46, 32, 101, 113, 32, 110, 101, 32, 108, 116, 95, 115, 32, 108, 116, 95, 117, 32, 103, 116, 95, 115, 32, 103, 116, 95, 117, 32, 108, 101, 95, 115, 32, 108, 101, 95, 117, 32, 103, 101, 95, 115, 32, 103, 101, 95, 117]⟩, (0 : Int), ⟨#[119, 119]⟩, ⟨#[119]⟩, false, ()), ((80 : Int), ⟨#[105, 54, 52, 46, 32, 101, 113, 122]⟩, (0 : Int), ⟨#[108]⟩, ⟨#[119]⟩, false, ()), ((81 : Int), ⟨#[105, 54, 52, 46, 32, 101, 113, 32, 110, 101, 32, 108, 116, 95, 115, 32, 108, 116, 95, 117, 32, 103, 116, 95, 115, 32, 103, 116, 95, 117, 32, 108, 101, 95, 115, 32, 108, 101, 95, 117, 32, 103, 101, 95, 115, 32, 103, 101, 95, 117]⟩, (0 : Int), ⟨#[108, 108]⟩, ⟨#[119]⟩, false, ()), ((103 : Int), ⟨#[105, 51, 50, 46, 32, 99, 108, 122, 32, 99, 116, 122, 32, 112, 111, 112, 99, 110, 116]⟩, (0 : Int), ⟨#[119]⟩, ⟨#[119]⟩, false, ()), ((106 : Int), bigS0, (0 : Int), ⟨#[119, 119]⟩, ⟨#[119]⟩, false, ()), ((121 : Int), ⟨#[105, 54, 52, 46, 32, 99, 108, 122, 32, 99, 116, 122, 32, 112, 111, 112, 99, 110, 116]⟩, (0 : Int), ⟨#[108]⟩, ⟨#[108]⟩, false, ()), ((124 : Int), bigS1, (0 : Int), ⟨#[108, 108]⟩, ⟨#[108]⟩, false, ()), ((167 : Int), ⟨#[105, 51, 50, 46, 32, 119, 114, 97, 112, 95, 105, 54, 52]⟩, (0 : Int), ⟨#[108]⟩, ⟨#[119]⟩, false, ()), ((172 : Int), ⟨#[105, 54, 52, 46, 32, 101, 120, 116, 101, 110, 100, 95, 105, 51, 50, 95, 115, 32, 101, 120, 116, 101, 110, 100, 95, 105, 51, 50, 95, 117]⟩, (0 : Int), ⟨#[119]⟩, ⟨#[108]⟩, false, ())]) (base := w.heap.size) hk1 (by omega) rfl rfl (Nat.le_of_ble_eq_true rfl)
  exact ⟨_, rfl, hr1, hb⟩

def gAt (j : Nat) : MGr := groupsL.getD j zMGr
theorem gAt_at {j : Nat} (h : j < 35) : groupsL[j]? = some (gAt j) := by
  unfold gAt
  exact getD_at (l := groupsL) (j := j) _ h
theorem gAt_ok {j : Nat} (h : j < 35) : 0 ≤ (gAt j).1 ∧ (gAt j).1 < 256 ∧ (gAt j).2.1.size ≤ 1000 := by
  have : ∀ j : Fin 35, 0 ≤ (gAt j.val).1 ∧ (gAt j.val).1 < 256 ∧ (gAt j.val).2.1.size ≤ 1000 := by decide +kernel
  exact this ⟨j, h⟩
def ofAux (op : Nat) : Nat → MGr × Bool
  | 0 => (zMGr, false)
  | i + 1 => if ((op : Nat) : Int) < (gAt i).1 then ofAux op i else if (wordP (gAt i).2.1 (((op : Nat) : Int) - (gAt i).1)).2 = true then ((((op : Nat) : Int), (wordP (gAt i).2.1 (((op : Nat) : Int) - (gAt i).1)).1, (gAt i).2.2), true) else (zMGr, false)
theorem ofAux_step {op n : Nat} (h : 1 ≤ n) : ofAux op n = if ((op : Nat) : Int) < (gAt (n - 1)).1 then ofAux op (n - 1) else if (wordP (gAt (n - 1)).2.1 (((op : Nat) : Int) - (gAt (n - 1)).1)).2 = true then ((((op : Nat) : Int), (wordP (gAt (n - 1)).2.1 (((op : Nat) : Int) - (gAt (n - 1)).1)).1, (gAt (n - 1)).2.2), true) else (zMGr, false) := by
  obtain ⟨m, rfl⟩ : ∃ m, n = m + 1 := ⟨n - 1, by omega⟩
  rfl
def ofP (op : Nat) : MGr × Bool := ofAux op 35

set_option maxHeartbeats 1000000 in
set_option maxRecDepth 100000 in
theorem of_any (op : Nat) (w : World) (hop : op < 256) : Calls Tryd.prog 22 #[(.int .i64 ((op : Nat) : Int))] w fun e w' => e = .returned (.tuple #[(.agg #[(.int .i64 ((ofP op).1.1)), (.string (ofP op).1.2.1), (.int .i64 ((ofP op).1.2.2.1)), (.string (ofP op).1.2.2.2.1), (.string (ofP op).1.2.2.2.2.1), (.bool (ofP op).1.2.2.2.2.2.1)]), .bool (ofP op).2]) ∧ Below w.heap.size w w' := by
  have hgl := groupsL_len
  refine sx_enter (L := [(0, (.int .i64 ((op : Nat) : Int)))]) Tryd.func22 rfl rfl rfl rfl (fun fa hf => ?_)
  have hb : Below w.heap.size w w := Below.refl _ _
  refine wp_seq_k (fun K1 hK1 => ?_)
  refine wp_region_lit ?_
  refine sqdt hf (d_alloc (z := (.agg #[(.int .i64 (0 : Int)), (.string ⟨#[]⟩), (.int .i64 (0 : Int)), (.string ⟨#[]⟩), (.string ⟨#[]⟩), (.bool false)])) (cs := #[(.int .i64 (0 : Int)), (.string ⟨#[]⟩), (.int .i64 (0 : Int)), (.string ⟨#[]⟩), (.string ⟨#[]⟩), (.bool false)]) (by kernel_rfl) rfl) rfl rfl rfl ?_; clear hf fa; rintro fa _ w1 ⟨b1, rfl, hle1, hk1, he1⟩ hf
  have hBb1 : w.heap.size ≤ b1 := Nat.le_trans hb.size hle1
  replace hb := hb.trans (Below.mono he1 hb.size)
  refine sqv hf (r_assign rfl) rfl rfl rfl ?_; clear hf fa; intro fa hf
  apply wpList_nil
  (try simp only [Exit.then, Exit.inBlock, ↓reduceIte, Nat.reduceEqDiff])
  refine hK1 _ _ ?_
  refine wp_seq_k (fun K2 hK2 => ?_)
  have hb1l := (Array.getElem?_eq_some_iff.1 hk1).1
  refine wp_region_lit ?_
  refine sqdt hf (d_callX (vs := []) rfl Tryd.func51 (by kernel_rfl) (by kernel_rfl) (groups_any _)) rfl rfl rfl ?_; clear hf fa; rintro fa v w2 ⟨hr1, he2⟩ hf; obtain ⟨ra1, rc1, rfl, hcrc1, hmrc1⟩ := Row.slice hr1
  replace hk1 := blk_ext hk1 he2
  replace hb := hb.trans (Below.mono he2 hb.size)
  refine sqv hf (r_assign rfl) rfl rfl rfl ?_; clear hf fa; intro fa hf
  apply wpList_nil
  (try simp only [Exit.then, Exit.inBlock, ↓reduceIte, Nat.reduceEqDiff])
  refine hK2 _ _ ?_
  refine wp_seq_k (fun K3 hK3 => ?_)
  refine wp_seq_k (fun K4 hK4 => ?_)
  refine wp_region_lit ?_
  refine sqv hf (r_move rfl) rfl rfl rfl ?_; clear hf fa; intro fa hf
  refine sqv hf (r_lensl rfl Tryd.underlying70) rfl rfl rfl ?_; clear hf fa; intro fa hf
  refine sqv hf (r_sub (C := (((groupsL.length : Nat) : Int) - (1 : Int))) rfl rfl (by rw [IntKind.wrap_i64]; omega)) rfl rfl rfl ?_; clear hf fa; intro fa hf
  refine sqv hf (r_assign rfl) rfl rfl rfl ?_; clear hf fa; intro fa hf
  apply wpList_nil
  (try simp only [Exit.then, Exit.inBlock, ↓reduceIte, Nat.reduceEqDiff])
  refine hK4 _ _ ?_
  refine wp_block ?_
  refine wp_loop_k (fun mq fa wr => ∃ (n : Nat) (rga : Option Addr) (rgc : Nat), mq = n ∧ Fr 53 fa [(0, (.int .i64 ((op : Nat) : Int))), (2, (.pointer (some ⟨b1, 0, none⟩))), (5, (.int .i64 (((n : Nat) : Int) - (1 : Int)))), (4, (.slice rga groupsL.length rgc))] ∧ Below w.heap.size w wr ∧ Row 6 vMGr 57 (w1.heap.size) wr (.slice rga (groupsL.length) rgc) groupsL ∧ wr.heap[b1]? = some (.cells #[(.int .i64 (0 : Int)), (.string ⟨#[]⟩), (.int .i64 (0 : Int)), (.string ⟨#[]⟩), (.string ⟨#[]⟩), (.bool false)] 57 (0, 0)) ∧ (n ≤ 35) ∧ (ofAux op n = ofP op)) ?_ ?_
  · skip
    exact ⟨_, 35, ra1, rc1, rfl, hf.sub ⟨rfl, rfl, (some_int (by first | rfl | omega)), rfl, trivial⟩, hb, (Row.relen hr1), hk1, by omega, rfl⟩
  · skip
    clear hf fa; intro mq1 fa w3 hI KL1 hKL1
    clear hb
    clear hk1
    clear hr1
    obtain ⟨n, rga, rgc, hmq1, hf, hb, hrg, hkb1, hn, hF⟩ := hI
    have hcrg := Row.caps hrg
    have hgl := groupsL_len
    refine wp_seq_k (fun K5 hK5 => ?_)
    refine wp_seq_k (fun K6 hK6 => ?_)
    refine wp_region_lit ?_
    refine sqv hf (r_move rfl) rfl rfl rfl ?_; clear hf fa; intro fa hf
    refine sqv hf (r_ge rfl rfl) rfl rfl rfl ?_; clear hf fa; intro fa hf
    apply wpList_nil
    (try simp only [Exit.then, Exit.inBlock, ↓reduceIte, Nat.reduceEqDiff])
    refine hK6 _ _ ?_
    refine wp_cond_split (t := (decide ((0 : Int) ≤ (((n : Nat) : Int) - (1 : Int))))) (hf.ev rfl) (fun hqt14_1 => ?_) (fun hqt14_1 => ?_)
    · have hqt14_1b := hqt14_1
      try simp only [decide_eq_true_eq, Bool.and_eq_true, Bool.or_eq_true, Bool.not_eq_true', decide_eq_false_iff_not, ne_eq, Bool.not_eq_true] at hqt14_1
      refine wp_skip ?_
      (try simp only [Exit.then, Exit.inBlock, ↓reduceIte, Nat.reduceEqDiff])
      refine hK5 _ _ ?_
      refine wp_seq_k (fun K7 hK7 => ?_)
      refine wp_block ?_
      refine wp_seq_k (fun K8 hK8 => ?_)
      refine wp_seq_k (fun K9 hK9 => ?_)
      have hg := gAt_ok (j := n - 1) (by omega)
      refine wp_region_lit ?_
      refine sqv hf (r_move rfl) rfl rfl rfl ?_; clear hf fa; intro fa hf
      refine sqv hf (r_move rfl) rfl rfl rfl ?_; clear hf fa; intro fa hf
      obtain ⟨rb1, rfl, hbbrb1, hlbrb1⟩ := Row.some hrg (by first | omega | (simp only [Sl.list_length, List.length_set, List.length_take, List.length_append, List.length_replicate, List.length_cons, List.length_nil, List.length_map, nums_len]; omega))
      have hy1 : (groupsL)[(n - 1)]? = some (gAt (n - 1)) := (gAt_at (by omega))
      have hel1 := RdS.at (Row.rd (by intros; rfl) hrg) hy1
      obtain ⟨_, _, hab, hlr1, hel1⟩ := hel1
      cases hab
      refine sqv hf (r_ixa (sz := 6) (j := (n - 1)) rfl rfl Tryd.underlying70 (by kernel_rfl) (by omega) (by omega) rfl) rfl rfl rfl ?_; clear hf fa; intro fa hf
      refine sqv hf (r_fa rfl Tryd.underlying57 (f := 0) (q := (0 + (n - 1) * 6)) rfl (by kernel_rfl) rfl) rfl rfl rfl ?_; clear hf fa; intro fa hf
      refine sqv hf (r_load (v := (.int .i64 ((gAt (n - 1)).1))) rfl Tryd.underlying3 rfl (cellsAt_cell hel1 (i := 0) rfl rfl)) rfl rfl rfl ?_; clear hf fa; intro fa hf
      refine sqv hf (r_move rfl) rfl rfl rfl ?_; clear hf fa; intro fa hf
      refine sqv hf (r_gt rfl rfl) rfl rfl rfl ?_; clear hf fa; intro fa hf
      apply wpList_nil
      (try simp only [Exit.then, Exit.inBlock, ↓reduceIte, Nat.reduceEqDiff])
      refine hK9 _ _ ?_
      refine wp_cond_split (t := (decide (((op : Nat) : Int) < ((gAt (n - 1)).1)))) (hf.ev rfl) (fun hqt23_1 => ?_) (fun hqt23_1 => ?_)
      · have hqt23_1b := hqt23_1
        try simp only [decide_eq_true_eq, Bool.and_eq_true, Bool.or_eq_true, Bool.not_eq_true', decide_eq_false_iff_not, ne_eq, Bool.not_eq_true] at hqt23_1
        refine wp_exit ?_
        (try simp only [Exit.then, Exit.inBlock, ↓reduceIte, Nat.reduceEqDiff])
        refine hK7 _ _ ?_
        refine wp_region_lit ?_
        refine sqv hf (r_move rfl) rfl rfl rfl ?_; clear hf fa; intro fa hf
        refine sqv hf (r_sub (C := ((((n : Nat) : Int) - (1 : Int)) - (1 : Int))) rfl rfl (by rw [IntKind.wrap_i64]; omega)) rfl rfl rfl ?_; clear hf fa; intro fa hf
        refine sqv hf (r_assign rfl) rfl rfl rfl ?_; clear hf fa; intro fa hf
        apply wpList_nil
        (try simp only [Exit.then, Exit.inBlock, ↓reduceIte, Nat.reduceEqDiff])
        refine hKL1 _ _ _ (by omega) ⟨(n - 1), (some ⟨rb1, 0, none⟩), rgc, rfl, hf.sub ⟨rfl, rfl, (some_int (by first | rfl | omega)), rfl, trivial⟩, hb, hrg, hkb1, by omega, (by rw [← hF, ofAux_step (n := n) (by omega), if_pos (by have h := hqt23_1; omega)])⟩
      · have hqt23_1b := hqt23_1
        replace hqt23_1 := Bool.eq_false_iff.1 hqt23_1
        try simp only [ne_eq, decide_eq_true_eq, Bool.and_eq_true, Bool.or_eq_true, Bool.not_eq_true', decide_eq_false_iff_not] at hqt23_1
        refine wp_skip ?_
        (try simp only [Exit.then, Exit.inBlock, ↓reduceIte, Nat.reduceEqDiff])
        refine hK8 _ _ ?_
        refine wp_seq_k (fun K10 hK10 => ?_)
        have hy2 : (groupsL)[(n - 1)]? = some (gAt (n - 1)) := (gAt_at (by omega))
        have hel2 := RdS.at (Row.rd (by intros; rfl) hrg) hy2
        obtain ⟨_, _, hab, hlr2, hel2⟩ := hel2
        cases hab
        have hy3 : (groupsL)[(n - 1)]? = some (gAt (n - 1)) := (gAt_at (by omega))
        have hel3 := RdS.at (Row.rd (by intros; rfl) hrg) hy3
        obtain ⟨_, _, hab, hlr3, hel3⟩ := hel3
        cases hab
        refine wp_region_un (fun wq => Below w3.heap.size w3 wq) (fun w w' => Below w.heap.size w w')
          (fun V => [(fun x _ => x = (.slice (some ⟨rb1, 0, none⟩) groupsL.length rgc)), (fun x _ => x = (.int .i64 (((n : Nat) : Int) - (1 : Int)))), (fun x _ => x = (.pointer (some ⟨rb1, (0 + (n - 1) * 6), none⟩))), (fun x _ => x = (.pointer (some ⟨rb1, ((0 + (n - 1) * 6) + 1), none⟩))), (fun x _ => x = (.string (gAt (n - 1)).2.1)), (fun x _ => x = (.int .i64 ((op : Nat) : Int))), (fun x _ => x = (.slice (some ⟨rb1, 0, none⟩) groupsL.length rgc)), (fun x _ => x = (.int .i64 (((n : Nat) : Int) - (1 : Int)))), (fun x _ => x = (.pointer (some ⟨rb1, (0 + (n - 1) * 6), none⟩))), (fun x _ => x = (.pointer (some ⟨rb1, (0 + (n - 1) * 6), none⟩))), (fun x _ => x = (.int .i64 ((gAt (n - 1)).1))), (fun x _ => x = (.int .i64 (((op : Nat) : Int) - ((gAt (n - 1)).1)))), (fun x _ => x = (.tuple #[(.string (wordP (gAt (n - 1)).2.1 (((op : Nat) : Int) - (gAt (n - 1)).1)).1), (.bool (wordP (gAt (n - 1)).2.1 (((op : Nat) : Int) - (gAt (n - 1)).1)).2)])), (fun x _ => x = (.tuple #[(.string (wordP (gAt (n - 1)).2.1 (((op : Nat) : Int) - (gAt (n - 1)).1)).1), (.bool (wordP (gAt (n - 1)).2.1 (((op : Nat) : Int) - (gAt (n - 1)).1)).2)])), (fun x _ => x = (.string (wordP (gAt (n - 1)).2.1 (((op : Nat) : Int) - (gAt (n - 1)).1)).1)), (fun x _ => x = (.bool (wordP (gAt (n - 1)).2.1 (((op : Nat) : Int) - (gAt (n - 1)).1)).2)), (fun x _ => x = (.string (wordP (gAt (n - 1)).2.1 (((op : Nat) : Int) - (gAt (n - 1)).1)).1)), (fun x _ => x = (.bool (wordP (gAt (n - 1)).2.1 (((op : Nat) : Int) - (gAt (n - 1)).1)).2))])
          []
          [[], [], [0, 1], [2], [3], [], [], [], [6, 7], [8], [9], [5, 10], [4, 11], [12], [13], [13], [0, 1, 2, 3, 4, 5, 6, 7, 8, 9, 10, 11, 12, 13, 14], [0, 1, 2, 3, 4, 5, 6, 7, 8, 9, 10, 11, 12, 13, 14, 15, 16]]
          hf (by kernel_rfl) (by kernel_rfl) (fun _ => rfl) ((Below.refl _ _).drew) (fun a b h1 h2 => h1.trans (h2.mono h1.size)) (fun _ _ h => h.size) (fun V => ⟨kept_eq, kept_eq, kept_eq, kept_eq, kept_eq, kept_eq, kept_eq, kept_eq, kept_eq, kept_eq, kept_eq, kept_eq, kept_eq, kept_eq, kept_eq, kept_eq, kept_eq, kept_eq, trivial⟩) (fun _ _ _ _ _ => rfl) ?_ ?_
        · skip
          intro V
          refine ⟨fun wu0 hC hd => ?_, ?_⟩
          · clear hd
            replace hb := hb.trans (hC.mono hb.size)
            replace hkb1 := blk_ext hkb1 hC
            replace hrg := Row.ext hrg hC
            exact Runs.does (r_move rfl) ⟨Below.refl _ _, rfl, nofr rfl⟩
          refine ⟨fun wu1 hC hd => ?_, ?_⟩
          · clear hd
            replace hb := hb.trans (hC.mono hb.size)
            replace hkb1 := blk_ext hkb1 hC
            replace hrg := Row.ext hrg hC
            exact Runs.does (r_move rfl) ⟨Below.refl _ _, rfl, nofr rfl⟩
          refine ⟨fun wu2 hC hd => ?_, ?_⟩
          · obtain ⟨h0, h1, _⟩ := hd
            skip
            skip
            replace h0 : V 0 = (.slice (some ⟨rb1, 0, none⟩) groupsL.length rgc) := h0
            replace h1 : V 1 = (.int .i64 (((n : Nat) : Int) - (1 : Int))) := h1
            replace hb := hb.trans (hC.mono hb.size)
            replace hkb1 := blk_ext hkb1 hC
            replace hrg := Row.ext hrg hC
            exact Runs.does (r_ixa (sz := 6) (j := (n - 1)) (congrArg some h0) (congrArg some h1) Tryd.underlying70 (by kernel_rfl) (by omega) (by omega) rfl) ⟨Below.refl _ _, rfl, nofr rfl⟩
          refine ⟨fun wu3 hC hd => ?_, ?_⟩
          · obtain ⟨h2, _⟩ := hd
            skip
            replace h2 : V 2 = (.pointer (some ⟨rb1, (0 + (n - 1) * 6), none⟩)) := h2
            replace hb := hb.trans (hC.mono hb.size)
            replace hkb1 := blk_ext hkb1 hC
            replace hrg := Row.ext hrg hC
            exact Runs.does (r_fa (congrArg some h2) Tryd.underlying57 (f := 1) (q := ((0 + (n - 1) * 6) + 1)) rfl (by kernel_rfl) rfl) ⟨Below.refl _ _, rfl, nofr rfl⟩
          refine ⟨fun wu4 hC hd => ?_, ?_⟩
          · obtain ⟨h3, _⟩ := hd
            skip
            replace h3 : V 3 = (.pointer (some ⟨rb1, ((0 + (n - 1) * 6) + 1), none⟩)) := h3
            replace hb := hb.trans (hC.mono hb.size)
            replace hkb1 := blk_ext hkb1 hC
            replace hrg := Row.ext hrg hC
            exact Runs.does (r_load (v := (.string (gAt (n - 1)).2.1)) (congrArg some h3) Tryd.underlying9 rfl (cellsAt_cell (cellsAt_below hel2 hC hlr2) (i := 1) rfl rfl)) ⟨Below.refl _ _, rfl, nofr rfl⟩
          refine ⟨fun wu5 hC hd => ?_, ?_⟩
          · clear hd
            replace hb := hb.trans (hC.mono hb.size)
            replace hkb1 := blk_ext hkb1 hC
            replace hrg := Row.ext hrg hC
            exact Runs.does (r_move rfl) ⟨Below.refl _ _, rfl, nofr rfl⟩
          refine ⟨fun wu6 hC hd => ?_, ?_⟩
          · clear hd
            replace hb := hb.trans (hC.mono hb.size)
            replace hkb1 := blk_ext hkb1 hC
            replace hrg := Row.ext hrg hC
            exact Runs.does (r_move rfl) ⟨Below.refl _ _, rfl, nofr rfl⟩
          refine ⟨fun wu7 hC hd => ?_, ?_⟩
          · clear hd
            replace hb := hb.trans (hC.mono hb.size)
            replace hkb1 := blk_ext hkb1 hC
            replace hrg := Row.ext hrg hC
            exact Runs.does (r_move rfl) ⟨Below.refl _ _, rfl, nofr rfl⟩
          refine ⟨fun wu8 hC hd => ?_, ?_⟩
          · obtain ⟨h6, h7, _⟩ := hd
            skip
            skip
            replace h6 : V 6 = (.slice (some ⟨rb1, 0, none⟩) groupsL.length rgc) := h6
            replace h7 : V 7 = (.int .i64 (((n : Nat) : Int) - (1 : Int))) := h7
            replace hb := hb.trans (hC.mono hb.size)
            replace hkb1 := blk_ext hkb1 hC
            replace hrg := Row.ext hrg hC
            exact Runs.does (r_ixa (sz := 6) (j := (n - 1)) (congrArg some h6) (congrArg some h7) Tryd.underlying70 (by kernel_rfl) (by omega) (by omega) rfl) ⟨Below.refl _ _, rfl, nofr rfl⟩
          refine ⟨fun wu9 hC hd => ?_, ?_⟩
          · obtain ⟨h8, _⟩ := hd
            skip
            replace h8 : V 8 = (.pointer (some ⟨rb1, (0 + (n - 1) * 6), none⟩)) := h8
            replace hb := hb.trans (hC.mono hb.size)
            replace hkb1 := blk_ext hkb1 hC
            replace hrg := Row.ext hrg hC
            exact Runs.does (r_fa (congrArg some h8) Tryd.underlying57 (f := 0) (q := (0 + (n - 1) * 6)) rfl (by kernel_rfl) rfl) ⟨Below.refl _ _, rfl, nofr rfl⟩
          refine ⟨fun wu10 hC hd => ?_, ?_⟩
          · obtain ⟨h9, _⟩ := hd
            skip
            replace h9 : V 9 = (.pointer (some ⟨rb1, (0 + (n - 1) * 6), none⟩)) := h9
            replace hb := hb.trans (hC.mono hb.size)
            replace hkb1 := blk_ext hkb1 hC
            replace hrg := Row.ext hrg hC
            exact Runs.does (r_load (v := (.int .i64 ((gAt (n - 1)).1))) (congrArg some h9) Tryd.underlying3 rfl (cellsAt_cell (cellsAt_below hel3 hC hlr3) (i := 0) rfl rfl)) ⟨Below.refl _ _, rfl, nofr rfl⟩
          refine ⟨fun wu11 hC hd => ?_, ?_⟩
          · obtain ⟨h5, h10, _⟩ := hd
            skip
            skip
            replace h5 : V 5 = (.int .i64 ((op : Nat) : Int)) := h5
            replace h10 : V 10 = (.int .i64 ((gAt (n - 1)).1)) := h10
            replace hb := hb.trans (hC.mono hb.size)
            replace hkb1 := blk_ext hkb1 hC
            replace hrg := Row.ext hrg hC
            exact Runs.does (r_sub (C := (((op : Nat) : Int) - ((gAt (n - 1)).1))) (congrArg some h5) (congrArg some h10) (by rw [IntKind.wrap_i64]; omega)) ⟨Below.refl _ _, rfl, nofr rfl⟩
          refine ⟨fun wu12 hC hd => ?_, ?_⟩
          · obtain ⟨h4, h11, _⟩ := hd
            skip
            skip
            replace h4 : V 4 = (.string (gAt (n - 1)).2.1) := h4
            replace h11 : V 11 = (.int .i64 (((op : Nat) : Int) - ((gAt (n - 1)).1))) := h11
            replace hb := hb.trans (hC.mono hb.size)
            replace hkb1 := blk_ext hkb1 hC
            replace hrg := Row.ext hrg hC
            refine Does.mono (d_callB (vs := [(.string (gAt (n - 1)).2.1), (.int .i64 (((op : Nat) : Int) - ((gAt (n - 1)).1)))]) (show [some (V 4), some (V 11)] = [some (.string (gAt (n - 1)).2.1), some (.int .i64 (((op : Nat) : Int) - ((gAt (n - 1)).1)))] from by rw [h4, h11]) Tryd.func52 (by kernel_rfl) (by kernel_rfl) (word_any (gAt (n - 1)).2.1 (((op : Nat) : Int) - (gAt (n - 1)).1) _ (by omega) (by omega))) (fun _ _ h => ⟨h.2, h.1, nofr rfl⟩)
          refine ⟨fun wu13 hC hd => ?_, ?_⟩
          · obtain ⟨h12, _⟩ := hd
            skip
            replace h12 : V 12 = (.tuple #[(.string (wordP (gAt (n - 1)).2.1 (((op : Nat) : Int) - (gAt (n - 1)).1)).1), (.bool (wordP (gAt (n - 1)).2.1 (((op : Nat) : Int) - (gAt (n - 1)).1)).2)]) := h12
            replace hb := hb.trans (hC.mono hb.size)
            replace hkb1 := blk_ext hkb1 hC
            replace hrg := Row.ext hrg hC
            exact Runs.does (r_move (congrArg some h12)) ⟨Below.refl _ _, rfl, nofr rfl⟩
          refine ⟨fun wu14 hC hd => ?_, ?_⟩
          · obtain ⟨h13, _⟩ := hd
            skip
            replace h13 : V 13 = (.tuple #[(.string (wordP (gAt (n - 1)).2.1 (((op : Nat) : Int) - (gAt (n - 1)).1)).1), (.bool (wordP (gAt (n - 1)).2.1 (((op : Nat) : Int) - (gAt (n - 1)).1)).2)]) := h13
            replace hb := hb.trans (hC.mono hb.size)
            replace hkb1 := blk_ext hkb1 hC
            replace hrg := Row.ext hrg hC
            exact Runs.does (r_extract (congrArg some h13) (i := 0) rfl) ⟨Below.refl _ _, rfl, nofr rfl⟩
          refine ⟨fun wu15 hC hd => ?_, ?_⟩
          · obtain ⟨h13, _⟩ := hd
            skip
            replace h13 : V 13 = (.tuple #[(.string (wordP (gAt (n - 1)).2.1 (((op : Nat) : Int) - (gAt (n - 1)).1)).1), (.bool (wordP (gAt (n - 1)).2.1 (((op : Nat) : Int) - (gAt (n - 1)).1)).2)]) := h13
            replace hb := hb.trans (hC.mono hb.size)
            replace hkb1 := blk_ext hkb1 hC
            replace hrg := Row.ext hrg hC
            exact Runs.does (r_extract (congrArg some h13) (i := 1) rfl) ⟨Below.refl _ _, rfl, nofr rfl⟩
          refine ⟨fun wu16 hC hd => ?_, ?_⟩
          · obtain ⟨h0, h1, h2, h3, h4, h5, h6, h7, h8, h9, h10, h11, h12, h13, h14, _⟩ := hd
            skip
            skip
            skip
            skip
            skip
            skip
            skip
            skip
            skip
            skip
            skip
            skip
            skip
            skip
            skip
            replace h0 : V 0 = (.slice (some ⟨rb1, 0, none⟩) groupsL.length rgc) := h0
            replace h1 : V 1 = (.int .i64 (((n : Nat) : Int) - (1 : Int))) := h1
            replace h2 : V 2 = (.pointer (some ⟨rb1, (0 + (n - 1) * 6), none⟩)) := h2
            replace h3 : V 3 = (.pointer (some ⟨rb1, ((0 + (n - 1) * 6) + 1), none⟩)) := h3
            replace h4 : V 4 = (.string (gAt (n - 1)).2.1) := h4
            replace h5 : V 5 = (.int .i64 ((op : Nat) : Int)) := h5
            replace h6 : V 6 = (.slice (some ⟨rb1, 0, none⟩) groupsL.length rgc) := h6
            replace h7 : V 7 = (.int .i64 (((n : Nat) : Int) - (1 : Int))) := h7
            replace h8 : V 8 = (.pointer (some ⟨rb1, (0 + (n - 1) * 6), none⟩)) := h8
            replace h9 : V 9 = (.pointer (some ⟨rb1, (0 + (n - 1) * 6), none⟩)) := h9
            replace h10 : V 10 = (.int .i64 ((gAt (n - 1)).1)) := h10
            replace h11 : V 11 = (.int .i64 (((op : Nat) : Int) - ((gAt (n - 1)).1))) := h11
            replace h12 : V 12 = (.tuple #[(.string (wordP (gAt (n - 1)).2.1 (((op : Nat) : Int) - (gAt (n - 1)).1)).1), (.bool (wordP (gAt (n - 1)).2.1 (((op : Nat) : Int) - (gAt (n - 1)).1)).2)]) := h12
            replace h13 : V 13 = (.tuple #[(.string (wordP (gAt (n - 1)).2.1 (((op : Nat) : Int) - (gAt (n - 1)).1)).1), (.bool (wordP (gAt (n - 1)).2.1 (((op : Nat) : Int) - (gAt (n - 1)).1)).2)]) := h13
            replace h14 : V 14 = (.string (wordP (gAt (n - 1)).2.1 (((op : Nat) : Int) - (gAt (n - 1)).1)).1) := h14
            replace hb := hb.trans (hC.mono hb.size)
            replace hkb1 := blk_ext hkb1 hC
            replace hrg := Row.ext hrg hC
            exact Runs.does (r_assign (congrArg some h14)) ⟨Below.refl _ _, rfl, nofr rfl⟩
          refine ⟨fun wu17 hC hd => ?_, ?_⟩
          · obtain ⟨h0, h1, h2, h3, h4, h5, h6, h7, h8, h9, h10, h11, h12, h13, h14, h15, h16, _⟩ := hd
            skip
            skip
            skip
            skip
            skip
            skip
            skip
            skip
            skip
            skip
            skip
            skip
            skip
            skip
            skip
            skip
            skip
            replace h0 : V 0 = (.slice (some ⟨rb1, 0, none⟩) groupsL.length rgc) := h0
            replace h1 : V 1 = (.int .i64 (((n : Nat) : Int) - (1 : Int))) := h1
            replace h2 : V 2 = (.pointer (some ⟨rb1, (0 + (n - 1) * 6), none⟩)) := h2
            replace h3 : V 3 = (.pointer (some ⟨rb1, ((0 + (n - 1) * 6) + 1), none⟩)) := h3
            replace h4 : V 4 = (.string (gAt (n - 1)).2.1) := h4
            replace h5 : V 5 = (.int .i64 ((op : Nat) : Int)) := h5
            replace h6 : V 6 = (.slice (some ⟨rb1, 0, none⟩) groupsL.length rgc) := h6
            replace h7 : V 7 = (.int .i64 (((n : Nat) : Int) - (1 : Int))) := h7
            replace h8 : V 8 = (.pointer (some ⟨rb1, (0 + (n - 1) * 6), none⟩)) := h8
            replace h9 : V 9 = (.pointer (some ⟨rb1, (0 + (n - 1) * 6), none⟩)) := h9
            replace h10 : V 10 = (.int .i64 ((gAt (n - 1)).1)) := h10
            replace h11 : V 11 = (.int .i64 (((op : Nat) : Int) - ((gAt (n - 1)).1))) := h11
            replace h12 : V 12 = (.tuple #[(.string (wordP (gAt (n - 1)).2.1 (((op : Nat) : Int) - (gAt (n - 1)).1)).1), (.bool (wordP (gAt (n - 1)).2.1 (((op : Nat) : Int) - (gAt (n - 1)).1)).2)]) := h12
            replace h13 : V 13 = (.tuple #[(.string (wordP (gAt (n - 1)).2.1 (((op : Nat) : Int) - (gAt (n - 1)).1)).1), (.bool (wordP (gAt (n - 1)).2.1 (((op : Nat) : Int) - (gAt (n - 1)).1)).2)]) := h13
            replace h14 : V 14 = (.string (wordP (gAt (n - 1)).2.1 (((op : Nat) : Int) - (gAt (n - 1)).1)).1) := h14
            replace h15 : V 15 = (.bool (wordP (gAt (n - 1)).2.1 (((op : Nat) : Int) - (gAt (n - 1)).1)).2) := h15
            replace h16 : V 16 = (.string (wordP (gAt (n - 1)).2.1 (((op : Nat) : Int) - (gAt (n - 1)).1)).1) := h16
            replace hb := hb.trans (hC.mono hb.size)
            replace hkb1 := blk_ext hkb1 hC
            replace hrg := Row.ext hrg hC
            exact Runs.does (r_assign (congrArg some h15)) ⟨Below.refl _ _, rfl, nofr rfl⟩
          trivial
        · skip
          clear hf fa; intro V w4 fa he3 hp hnb hf
          have hv0 : V 0 = (.slice (some ⟨rb1, 0, none⟩) groupsL.length rgc) := postsHold_at hp 0 rfl
          have hv1 : V 1 = (.int .i64 (((n : Nat) : Int) - (1 : Int))) := postsHold_at hp 1 rfl
          have hv2 : V 2 = (.pointer (some ⟨rb1, (0 + (n - 1) * 6), none⟩)) := postsHold_at hp 2 rfl
          have hv3 : V 3 = (.pointer (some ⟨rb1, ((0 + (n - 1) * 6) + 1), none⟩)) := postsHold_at hp 3 rfl
          have hv4 : V 4 = (.string (gAt (n - 1)).2.1) := postsHold_at hp 4 rfl
          have hv5 : V 5 = (.int .i64 ((op : Nat) : Int)) := postsHold_at hp 5 rfl
          have hv6 : V 6 = (.slice (some ⟨rb1, 0, none⟩) groupsL.length rgc) := postsHold_at hp 6 rfl
          have hv7 : V 7 = (.int .i64 (((n : Nat) : Int) - (1 : Int))) := postsHold_at hp 7 rfl
          have hv8 : V 8 = (.pointer (some ⟨rb1, (0 + (n - 1) * 6), none⟩)) := postsHold_at hp 8 rfl
          have hv9 : V 9 = (.pointer (some ⟨rb1, (0 + (n - 1) * 6), none⟩)) := postsHold_at hp 9 rfl
          have hv10 : V 10 = (.int .i64 ((gAt (n - 1)).1)) := postsHold_at hp 10 rfl
          have hv11 : V 11 = (.int .i64 (((op : Nat) : Int) - ((gAt (n - 1)).1))) := postsHold_at hp 11 rfl
          have hv12 : V 12 = (.tuple #[(.string (wordP (gAt (n - 1)).2.1 (((op : Nat) : Int) - (gAt (n - 1)).1)).1), (.bool (wordP (gAt (n - 1)).2.1 (((op : Nat) : Int) - (gAt (n - 1)).1)).2)]) := postsHold_at hp 12 rfl
          have hv13 : V 13 = (.tuple #[(.string (wordP (gAt (n - 1)).2.1 (((op : Nat) : Int) - (gAt (n - 1)).1)).1), (.bool (wordP (gAt (n - 1)).2.1 (((op : Nat) : Int) - (gAt (n - 1)).1)).2)]) := postsHold_at hp 13 rfl
          have hv14 : V 14 = (.string (wordP (gAt (n - 1)).2.1 (((op : Nat) : Int) - (gAt (n - 1)).1)).1) := postsHold_at hp 14 rfl
          have hv15 : V 15 = (.bool (wordP (gAt (n - 1)).2.1 (((op : Nat) : Int) - (gAt (n - 1)).1)).2) := postsHold_at hp 15 rfl
          have hv16 : V 16 = (.string (wordP (gAt (n - 1)).2.1 (((op : Nat) : Int) - (gAt (n - 1)).1)).1) := postsHold_at hp 16 rfl
          have hv17 : V 17 = (.bool (wordP (gAt (n - 1)).2.1 (((op : Nat) : Int) - (gAt (n - 1)).1)).2) := postsHold_at hp 17 rfl
          simp only [List.take_succ_cons, List.take_zero, insAll, ins, hv0, hv1, hv2, hv3, hv4, hv5, hv6, hv7, hv8, hv9, hv10, hv11, hv12, hv13, hv14, hv15, hv16, hv17] at hf
          clear hp hnb hv0 hv1 hv2 hv3 hv4 hv5 hv6 hv7 hv8 hv9 hv10 hv11 hv12 hv13 hv14 hv15 hv16 hv17
          replace hkb1 := blk_ext hkb1 he3
          replace hrg := Row.ext hrg he3
          replace hb := hb.trans (Below.mono he3 hb.size)
          (try simp only [Exit.then, Exit.inBlock, ↓reduceIte, Nat.reduceEqDiff])
          refine hK10 _ _ ?_
          refine wp_seq_k (fun K11 hK11 => ?_)
          refine wp_seq_k (fun K12 hK12 => ?_)
          skip
          refine wp_region_lit ?_
          refine sqv hf (r_move rfl) rfl rfl rfl ?_; clear hf fa; intro fa hf
          refine sqv hf (r_not rfl) rfl rfl rfl ?_; clear hf fa; intro fa hf
          apply wpList_nil
          (try simp only [Exit.then, Exit.inBlock, ↓reduceIte, Nat.reduceEqDiff])
          refine hK12 _ _ ?_
          refine wp_cond_split (t := (!(wordP (gAt (n - 1)).2.1 (((op : Nat) : Int) - (gAt (n - 1)).1)).2)) (hf.ev rfl) (fun hqt41_1 => ?_) (fun hqt41_1 => ?_)
          · have hqt41_1b := hqt41_1
            try simp only [decide_eq_true_eq, Bool.and_eq_true, Bool.or_eq_true, Bool.not_eq_true', decide_eq_false_iff_not, ne_eq, Bool.not_eq_true] at hqt41_1
            refine wp_seq_k (fun K13 hK13 => ?_)
            refine wp_region_lit ?_
            refine sqv hf (r_build (vs := []) (cs := #[(.int .i64 (0 : Int)), (.string ⟨#[]⟩), (.int .i64 (0 : Int)), (.string ⟨#[]⟩), (.string ⟨#[]⟩), (.bool false)]) rfl (fun _ => by kernel_rfl)) rfl rfl rfl ?_; clear hf fa; intro fa hf
            refine sqn hf (d_storeK (T := 57) (v := (.agg #[(.int .i64 (0 : Int)), (.string ⟨#[]⟩), (.int .i64 (0 : Int)), (.string ⟨#[]⟩), (.string ⟨#[]⟩), (.bool false)])) (cs := #[(.int .i64 (0 : Int)), (.string ⟨#[]⟩), (.int .i64 (0 : Int)), (.string ⟨#[]⟩), (.string ⟨#[]⟩), (.bool false)]) (cs' := #[(.int .i64 (0 : Int)), (.string ⟨#[]⟩), (.int .i64 (0 : Int)), (.string ⟨#[]⟩), (.string ⟨#[]⟩), (.bool false)]) rfl rfl (by kernel_rfl) (by kernel_rfl) hkb1 (by kernel_rfl) (by kernel_rfl)) rfl rfl ?_; clear hf fa; rintro fa _ w5 ⟨hk2, hg1⟩ hf
            replace hrg := Row.grown hrg hg1 (fun e => by have e : rb1 = b1 := Option.some.inj e; omega)
            replace hb := hb.trans (grown_below hg1 hb.size hBb1)
            refine sqv hf (r_assign rfl) rfl rfl rfl ?_; clear hf fa; intro fa hf
            apply wpList_nil
            (try simp only [Exit.then, Exit.inBlock, ↓reduceIte, Nat.reduceEqDiff])
            refine hK13 _ _ ?_
            refine wp_ret ?_
            (try simp only [Exit.then, Exit.inBlock])
            refine retCT hf rfl rfl hk2 Tryd.underlying57 rfl (by kernel_rfl) rfl ?_
            have hD : ofP op = (zMGr, false) := by rw [← hF, ofAux_step (n := n) (by omega), if_neg (by have h := hqt23_1; omega), if_neg (by have h := hqt41_1; simpa using h)]
            rw [hD]; exact ⟨rfl, hb⟩
          · have hqt41_1b := hqt41_1
            replace hqt41_1 := Bool.eq_false_iff.1 hqt41_1
            try simp only [ne_eq, decide_eq_true_eq, Bool.and_eq_true, Bool.or_eq_true, Bool.not_eq_true', decide_eq_false_iff_not] at hqt41_1
            refine wp_skip ?_
            (try simp only [Exit.then, Exit.inBlock, ↓reduceIte, Nat.reduceEqDiff])
            refine hK11 _ _ ?_
            refine wp_seq_k (fun K14 hK14 => ?_)
            refine wp_region_lit ?_
            refine sqv hf (r_move rfl) rfl rfl rfl ?_; clear hf fa; intro fa hf
            refine sqv hf (r_move rfl) rfl rfl rfl ?_; clear hf fa; intro fa hf
            have hy4 : (groupsL)[(n - 1)]? = some (gAt (n - 1)) := (gAt_at (by omega))
            have hel4 := RdS.at (Row.rd (by intros; rfl) hrg) hy4
            obtain ⟨_, _, hab, hlr4, hel4⟩ := hel4
            cases hab
            refine sqv hf (r_ixa (sz := 6) (j := (n - 1)) rfl rfl Tryd.underlying70 (by kernel_rfl) (by omega) (by omega) rfl) rfl rfl rfl ?_; clear hf fa; intro fa hf
            refine sqv hf (r_loadA (cs := [(.int .i64 ((gAt (n - 1)).1)), (.string (gAt (n - 1)).2.1), (.int .i64 ((gAt (n - 1)).2.2.1)), (.string (gAt (n - 1)).2.2.2.1), (.string (gAt (n - 1)).2.2.2.2.1), (.bool (gAt (n - 1)).2.2.2.2.2.1)]) rfl Tryd.underlying57 rfl (by kernel_rfl) hel4) rfl rfl rfl ?_; clear hf fa; intro fa hf
            refine sqdt hf (d_alloc (z := (.agg #[(.int .i64 (0 : Int)), (.string ⟨#[]⟩), (.int .i64 (0 : Int)), (.string ⟨#[]⟩), (.string ⟨#[]⟩), (.bool false)])) (cs := #[(.int .i64 (0 : Int)), (.string ⟨#[]⟩), (.int .i64 (0 : Int)), (.string ⟨#[]⟩), (.string ⟨#[]⟩), (.bool false)]) (by kernel_rfl) rfl) rfl rfl rfl ?_; clear hf fa; rintro fa _ w6 ⟨b2, rfl, hle2, hk3, he4⟩ hf
            have hBb2 : w.heap.size ≤ b2 := Nat.le_trans hb.size hle2
            have : b1 < b2 := Nat.lt_of_lt_of_le (blk_lt hkb1) hle2
            have : rb1 < b2 := Nat.lt_of_lt_of_le (Row.lt hrg _ rfl).2 hle2
            replace hkb1 := blk_ext hkb1 he4
            replace hrg := Row.ext hrg he4
            replace hb := hb.trans (Below.mono he4 hb.size)
            refine sqn hf (d_storeK (T := 57) (v := (.agg #[(.int .i64 ((gAt (n - 1)).1)), (.string (gAt (n - 1)).2.1), (.int .i64 ((gAt (n - 1)).2.2.1)), (.string (gAt (n - 1)).2.2.2.1), (.string (gAt (n - 1)).2.2.2.2.1), (.bool (gAt (n - 1)).2.2.2.2.2.1)])) (cs := #[(.int .i64 (0 : Int)), (.string ⟨#[]⟩), (.int .i64 (0 : Int)), (.string ⟨#[]⟩), (.string ⟨#[]⟩), (.bool false)]) (cs' := #[(.int .i64 ((gAt (n - 1)).1)), (.string (gAt (n - 1)).2.1), (.int .i64 ((gAt (n - 1)).2.2.1)), (.string (gAt (n - 1)).2.2.2.1), (.string (gAt (n - 1)).2.2.2.2.1), (.bool (gAt (n - 1)).2.2.2.2.2.1)]) rfl rfl (by kernel_rfl) (by kernel_rfl) hk3 (by kernel_rfl) (by kernel_rfl)) rfl rfl ?_; clear hf fa; rintro fa _ w7 ⟨hk4, hg2⟩ hf
            replace hkb1 := blk_grown hkb1 hg2 (by omega)
            replace hrg := Row.grown hrg hg2 (fun e => by have e : rb1 = b2 := Option.some.inj e; omega)
            replace hb := hb.trans (grown_below hg2 hb.size hBb2)
            apply wpList_nil
            (try simp only [Exit.then, Exit.inBlock, ↓reduceIte, Nat.reduceEqDiff])
            refine hK14 _ _ ?_
            refine wp_seq_k (fun K15 hK15 => ?_)
            refine wp_region_lit ?_
            refine sqv hf (r_move rfl) rfl rfl rfl ?_; clear hf fa; intro fa hf
            refine sqv hf (r_move rfl) rfl rfl rfl ?_; clear hf fa; intro fa hf
            refine sqv hf (r_fa rfl Tryd.underlying57 (f := 0) (q := 0) rfl (by kernel_rfl) rfl) rfl rfl rfl ?_; clear hf fa; intro fa hf
            refine sqn hf (d_storeK (T := 57) (v := (.int .i64 ((op : Nat) : Int))) (cs := #[(.int .i64 ((gAt (n - 1)).1)), (.string (gAt (n - 1)).2.1), (.int .i64 ((gAt (n - 1)).2.2.1)), (.string (gAt (n - 1)).2.2.2.1), (.string (gAt (n - 1)).2.2.2.2.1), (.bool (gAt (n - 1)).2.2.2.2.2.1)]) (cs' := #[(.int .i64 ((op : Nat) : Int)), (.string (gAt (n - 1)).2.1), (.int .i64 ((gAt (n - 1)).2.2.1)), (.string (gAt (n - 1)).2.2.2.1), (.string (gAt (n - 1)).2.2.2.2.1), (.bool (gAt (n - 1)).2.2.2.2.2.1)]) rfl rfl (by kernel_rfl) (by kernel_rfl) hk4 (by kernel_rfl) (by kernel_rfl)) rfl rfl ?_; clear hf fa; rintro fa _ w8 ⟨hk5, hg3⟩ hf
            replace hkb1 := blk_grown hkb1 hg3 (by omega)
            replace hrg := Row.grown hrg hg3 (fun e => by have e : rb1 = b2 := Option.some.inj e; omega)
            replace hb := hb.trans (grown_below hg3 hb.size hBb2)
            refine sqv hf (r_fa rfl Tryd.underlying57 (f := 1) (q := 1) rfl (by kernel_rfl) rfl) rfl rfl rfl ?_; clear hf fa; intro fa hf
            refine sqn hf (d_storeK (T := 57) (v := (.string (wordP (gAt (n - 1)).2.1 (((op : Nat) : Int) - (gAt (n - 1)).1)).1)) (cs := #[(.int .i64 ((op : Nat) : Int)), (.string (gAt (n - 1)).2.1), (.int .i64 ((gAt (n - 1)).2.2.1)), (.string (gAt (n - 1)).2.2.2.1), (.string (gAt (n - 1)).2.2.2.2.1), (.bool (gAt (n - 1)).2.2.2.2.2.1)]) (cs' := #[(.int .i64 ((op : Nat) : Int)), (.string (wordP (gAt (n - 1)).2.1 (((op : Nat) : Int) - (gAt (n - 1)).1)).1), (.int .i64 ((gAt (n - 1)).2.2.1)), (.string (gAt (n - 1)).2.2.2.1), (.string (gAt (n - 1)).2.2.2.2.1), (.bool (gAt (n - 1)).2.2.2.2.2.1)]) rfl rfl (by kernel_rfl) (by kernel_rfl) hk5 (by kernel_rfl) (by kernel_rfl)) rfl rfl ?_; clear hf fa; rintro fa _ w9 ⟨hk6, hg4⟩ hf
            replace hkb1 := blk_grown hkb1 hg4 (by omega)
            replace hrg := Row.grown hrg hg4 (fun e => by have e : rb1 = b2 := Option.some.inj e; omega)
            replace hb := hb.trans (grown_below hg4 hb.size hBb2)
            apply wpList_nil
            (try simp only [Exit.then, Exit.inBlock, ↓reduceIte, Nat.reduceEqDiff])
            refine hK15 _ _ ?_
            refine wp_seq_k (fun K16 hK16 => ?_)
            refine wp_region_lit ?_
            refine sqv hf (r_loadA (cs := [(.int .i64 ((op : Nat) : Int)), (.string (wordP (gAt (n - 1)).2.1 (((op : Nat) : Int) - (gAt (n - 1)).1)).1), (.int .i64 ((gAt (n - 1)).2.2.1)), (.string (gAt (n - 1)).2.2.2.1), (.string (gAt (n - 1)).2.2.2.2.1), (.bool (gAt (n - 1)).2.2.2.2.2.1)]) rfl Tryd.underlying57 rfl (by kernel_rfl) (cellsAt_blk hk6)) rfl rfl rfl ?_; clear hf fa; intro fa hf
            refine sqn hf (d_storeK (T := 57) (v := (.agg #[(.int .i64 ((op : Nat) : Int)), (.string (wordP (gAt (n - 1)).2.1 (((op : Nat) : Int) - (gAt (n - 1)).1)).1), (.int .i64 ((gAt (n - 1)).2.2.1)), (.string (gAt (n - 1)).2.2.2.1), (.string (gAt (n - 1)).2.2.2.2.1), (.bool (gAt (n - 1)).2.2.2.2.2.1)])) (cs := #[(.int .i64 (0 : Int)), (.string ⟨#[]⟩), (.int .i64 (0 : Int)), (.string ⟨#[]⟩), (.string ⟨#[]⟩), (.bool false)]) (cs' := #[(.int .i64 ((op : Nat) : Int)), (.string (wordP (gAt (n - 1)).2.1 (((op : Nat) : Int) - (gAt (n - 1)).1)).1), (.int .i64 ((gAt (n - 1)).2.2.1)), (.string (gAt (n - 1)).2.2.2.1), (.string (gAt (n - 1)).2.2.2.2.1), (.bool (gAt (n - 1)).2.2.2.2.2.1)]) rfl rfl (by kernel_rfl) (by kernel_rfl) hkb1 (by kernel_rfl) (by kernel_rfl)) rfl rfl ?_; clear hf fa; rintro fa _ w10 ⟨hk7, hg5⟩ hf
            replace hk6 := blk_grown hk6 hg5 (by omega)
            replace hrg := Row.grown hrg hg5 (fun e => by have e : rb1 = b1 := Option.some.inj e; omega)
            replace hb := hb.trans (grown_below hg5 hb.size hBb1)
            refine sqv hf (r_assign rfl) rfl rfl rfl ?_; clear hf fa; intro fa hf
            apply wpList_nil
            (try simp only [Exit.then, Exit.inBlock, ↓reduceIte, Nat.reduceEqDiff])
            refine hK16 _ _ ?_
            refine wp_ret ?_
            (try simp only [Exit.then, Exit.inBlock])
            refine retCT hf rfl rfl hk7 Tryd.underlying57 rfl (by kernel_rfl) rfl ?_
            have hD : ofP op = ((((op : Nat) : Int), (wordP (gAt (n - 1)).2.1 (((op : Nat) : Int) - (gAt (n - 1)).1)).1, (gAt (n - 1)).2.2), true) := by rw [← hF, ofAux_step (n := n) (by omega), if_neg (by have h := hqt23_1; omega), if_pos (by have h := hqt41_1; simpa using h)]
            rw [hD]; exact ⟨rfl, hb⟩
    · have hqt14_1b := hqt14_1
      replace hqt14_1 := Bool.eq_false_iff.1 hqt14_1
      try simp only [ne_eq, decide_eq_true_eq, Bool.and_eq_true, Bool.or_eq_true, Bool.not_eq_true', decide_eq_false_iff_not] at hqt14_1
      refine wp_exit ?_
      (try simp only [Exit.then, Exit.inBlock, ↓reduceIte, Nat.reduceEqDiff])
      refine hK3 _ _ ?_
      refine wp_seq_k (fun K17 hK17 => ?_)
      refine wp_region_lit ?_
      refine sqv hf (r_build (vs := []) (cs := #[(.int .i64 (0 : Int)), (.string ⟨#[]⟩), (.int .i64 (0 : Int)), (.string ⟨#[]⟩), (.string ⟨#[]⟩), (.bool false)]) rfl (fun _ => by kernel_rfl)) rfl rfl rfl ?_; clear hf fa; intro fa hf
      refine sqn hf (d_storeK (T := 57) (v := (.agg #[(.int .i64 (0 : Int)), (.string ⟨#[]⟩), (.int .i64 (0 : Int)), (.string ⟨#[]⟩), (.string ⟨#[]⟩), (.bool false)])) (cs := #[(.int .i64 (0 : Int)), (.string ⟨#[]⟩), (.int .i64 (0 : Int)), (.string ⟨#[]⟩), (.string ⟨#[]⟩), (.bool false)]) (cs' := #[(.int .i64 (0 : Int)), (.string ⟨#[]⟩), (.int .i64 (0 : Int)), (.string ⟨#[]⟩), (.string ⟨#[]⟩), (.bool false)]) rfl rfl (by kernel_rfl) (by kernel_rfl) hkb1 (by kernel_rfl) (by kernel_rfl)) rfl rfl ?_; clear hf fa; rintro fa _ w11 ⟨hk8, hg6⟩ hf
      replace hrg := Row.grown hrg hg6 (Row.ne_base hrg (by omega))
      replace hb := hb.trans (grown_below hg6 hb.size hBb1)
      refine sqv hf (r_assign rfl) rfl rfl rfl ?_; clear hf fa; intro fa hf
      apply wpList_nil
      (try simp only [Exit.then, Exit.inBlock, ↓reduceIte, Nat.reduceEqDiff])
      refine hK17 _ _ ?_
      refine wp_ret ?_
      (try simp only [Exit.then, Exit.inBlock])
      refine retCT hf rfl rfl hk8 Tryd.underlying57 rfl (by kernel_rfl) rfl ?_
      have hD : ofP op = (zMGr, false) := by rw [← hF, show n = 0 by have h := hqt14_1; omega]; rfl
      rw [hD]; exact ⟨rfl, hb⟩

def fltL : List Int := [42, 43, 56, 57, 67, 68, 91, 102, 139, 166, 168, 171, 174, 191]
def fltO (j : Nat) : Int := fltL.getD j 0
theorem fltO_at {j : Nat} (h : j < 14) : fltL[j]? = some (fltO j) := by
  unfold fltO
  exact getD_at (l := fltL) (j := j) _ h
def fltR (op : Int) : Nat → Nat → Bool
  | 0, _ => false
  | f + 1, i => if fltO i ≤ op ∧ op ≤ fltO (i + 1) then true else fltR op f (i + 2)
def fltP (op : Int) : Bool := fltR op 7 0

set_option maxHeartbeats 1000000 in
set_option maxRecDepth 100000 in
theorem float_any (op : Nat) (w : World) (hop : op < 256) : Calls Tryd.prog 58 #[(.int .i64 ((op : Nat) : Int))] w fun e w' => e = .returned (.bool (fltP ((op : Nat) : Int))) ∧ Below w.heap.size w w' := by
  refine sx_enter (L := [(0, (.int .i64 ((op : Nat) : Int)))]) Tryd.func58 rfl rfl rfl rfl (fun fa hf => ?_)
  have hb : Below w.heap.size w w := Below.refl _ _
  refine wp_seq_k (fun K1 hK1 => ?_)
  refine wp_region_lit ?_
  refine sqv hf (r_assign rfl) rfl rfl rfl ?_; clear hf fa; intro fa hf
  apply wpList_nil
  (try simp only [Exit.then, Exit.inBlock, ↓reduceIte, Nat.reduceEqDiff])
  refine hK1 _ _ ?_
  refine wp_seq_k (fun K2 hK2 => ?_)
  refine wp_region_lit ?_
  refine sqdt hf (d_bslice (z := (.int .i64 (0 : Int))) (sz := 1) (vs := [(0, (.int .i64 (42 : Int))), (1, (.int .i64 (43 : Int))), (2, (.int .i64 (56 : Int))), (3, (.int .i64 (57 : Int))), (4, (.int .i64 (67 : Int))), (5, (.int .i64 (68 : Int))), (6, (.int .i64 (91 : Int))), (7, (.int .i64 (102 : Int))), (8, (.int .i64 (139 : Int))), (9, (.int .i64 (166 : Int))), (10, (.int .i64 (168 : Int))), (11, (.int .i64 (171 : Int))), (12, (.int .i64 (174 : Int))), (13, (.int .i64 (191 : Int)))]) (cs := #[(.int .i64 (42 : Int)), (.int .i64 (43 : Int)), (.int .i64 (56 : Int)), (.int .i64 (57 : Int)), (.int .i64 (67 : Int)), (.int .i64 (68 : Int)), (.int .i64 (91 : Int)), (.int .i64 (102 : Int)), (.int .i64 (139 : Int)), (.int .i64 (166 : Int)), (.int .i64 (168 : Int)), (.int .i64 (171 : Int)), (.int .i64 (174 : Int)), (.int .i64 (191 : Int))]) rfl Tryd.underlying76 (by kernel_rfl) rfl (by kernel_rfl)) rfl rfl rfl ?_; clear hf fa; rintro fa _ w1 ⟨b1, rfl, hle1, hk1, he1⟩ hf
  have hBb1 : w.heap.size ≤ b1 := Nat.le_trans hb.size hle1
  replace hb := hb.trans (Below.mono he1 hb.size)
  have hr1 := Row.of_new (k := 1) (V := (vInt .i64)) (l := [(42 : Int), (43 : Int), (56 : Int), (57 : Int), (67 : Int), (68 : Int), (91 : Int), (102 : Int), (139 : Int), (166 : Int), (168 : Int), (171 : Int), (174 : Int), (191 : Int)]) (base := w.heap.size) hk1 (by omega) rfl rfl (Nat.le_of_ble_eq_true rfl)
  refine sqv hf (r_assign rfl) rfl rfl rfl ?_; clear hf fa; intro fa hf
  apply wpList_nil
  (try simp only [Exit.then, Exit.inBlock, ↓reduceIte, Nat.reduceEqDiff])
  refine hK2 _ _ ?_
  refine wp_seq_k (fun K3 hK3 => ?_)
  refine wp_seq_k (fun K4 hK4 => ?_)
  refine wp_region_lit ?_
  refine sqv hf (r_assign rfl) rfl rfl rfl ?_; clear hf fa; intro fa hf
  apply wpList_nil
  (try simp only [Exit.then, Exit.inBlock, ↓reduceIte, Nat.reduceEqDiff])
  refine hK4 _ _ ?_
  refine wp_block ?_
  refine wp_loop_k (fun mq fa wr => ∃ (n : Nat), mq = 7 - n ∧ Fr 27 fa [(0, (.int .i64 ((op : Nat) : Int))), (4, (.int .i64 (((2 * n) : Nat) : Int))), (3, (.slice (some ⟨b1, 0, none⟩) 14 14))] ∧ Below w.heap.size w wr ∧ Row 1 (vInt .i64) 3 (w.heap.size) wr (.slice (some ⟨b1, 0, none⟩) (14) 14) [(42 : Int), (43 : Int), (56 : Int), (57 : Int), (67 : Int), (68 : Int), (91 : Int), (102 : Int), (139 : Int), (166 : Int), (168 : Int), (171 : Int), (174 : Int), (191 : Int)] ∧ (n ≤ 7) ∧ (fltP ((op : Nat) : Int) = fltR ((op : Nat) : Int) (7 - n) (2 * n))) ?_ ?_
  · skip
    exact ⟨_, 0, rfl, hf.sub ⟨rfl, (some_int (by first | rfl | omega)), rfl, trivial⟩, hb, hr1, by omega, rfl⟩
  · skip
    clear hf fa; intro mq1 fa w2 hI KL1 hKL1
    clear hb
    clear hr1
    obtain ⟨n, hmq1, hf, hb, hrhr1, hn, hF⟩ := hI
    have hcrhr1 := Row.caps hrhr1
    refine wp_seq_k (fun K5 hK5 => ?_)
    refine wp_seq_k (fun K6 hK6 => ?_)
    refine wp_region_lit ?_
    refine sqv hf (r_move rfl) rfl rfl rfl ?_; clear hf fa; intro fa hf
    refine sqv hf (r_move rfl) rfl rfl rfl ?_; clear hf fa; intro fa hf
    refine sqv hf (r_lensl rfl Tryd.underlying76) rfl rfl rfl ?_; clear hf fa; intro fa hf
    refine sqv hf (r_lt rfl rfl) rfl rfl rfl ?_; clear hf fa; intro fa hf
    apply wpList_nil
    (try simp only [Exit.then, Exit.inBlock, ↓reduceIte, Nat.reduceEqDiff])
    refine hK6 _ _ ?_
    refine wp_cond_split (t := (decide ((((2 * n) : Nat) : Int) < ((14 : Nat) : Int)))) (hf.ev rfl) (fun hqt9_1 => ?_) (fun hqt9_1 => ?_)
    · have hqt9_1b := hqt9_1
      try simp only [decide_eq_true_eq, Bool.and_eq_true, Bool.or_eq_true, Bool.not_eq_true', decide_eq_false_iff_not, ne_eq, Bool.not_eq_true] at hqt9_1
      refine wp_skip ?_
      (try simp only [Exit.then, Exit.inBlock, ↓reduceIte, Nat.reduceEqDiff])
      refine hK5 _ _ ?_
      refine wp_seq_k (fun K7 hK7 => ?_)
      refine wp_block ?_
      refine wp_seq_k (fun K8 hK8 => ?_)
      refine wp_region_lit ?_
      refine sqv hf (r_move rfl) rfl rfl rfl ?_; clear hf fa; intro fa hf
      refine sqv hf (r_move rfl) rfl rfl rfl ?_; clear hf fa; intro fa hf
      refine sqv hf (r_move rfl) rfl rfl rfl ?_; clear hf fa; intro fa hf
      have hy1 : ([(42 : Int), (43 : Int), (56 : Int), (57 : Int), (67 : Int), (68 : Int), (91 : Int), (102 : Int), (139 : Int), (166 : Int), (168 : Int), (171 : Int), (174 : Int), (191 : Int)])[((2 * n))]? = some (fltO ((2 * n))) := (fltO_at (by omega))
      have hel1 := RdS.at (Row.rd (by intros; rfl) hrhr1) hy1
      obtain ⟨_, _, hab, hlr1, hel1⟩ := hel1
      cases hab
      refine sqv hf (r_ixa (sz := 1) (j := ((2 * n))) rfl rfl Tryd.underlying76 (by kernel_rfl) rfl (by omega) rfl) rfl rfl rfl ?_; clear hf fa; intro fa hf
      refine sqv hf (r_load (v := (.int .i64 ((fltO ((2 * n)))))) rfl Tryd.underlying3 rfl (cellsAt_cell hel1 (i := 0) rfl rfl)) rfl rfl rfl ?_; clear hf fa; intro fa hf
      refine sqv hf (r_ge rfl rfl) rfl rfl rfl ?_; clear hf fa; intro fa hf
      refine sqv hf (r_move rfl) rfl rfl rfl ?_; clear hf fa; intro fa hf
      refine sqgT (act := (decide (((fltO ((2 * n)))) ≤ ((op : Nat) : Int)))) (ag := true) (c := (decide (((fltO ((2 * n)))) ≤ ((op : Nat) : Int)))) (v := (.int .i64 ((op : Nat) : Int))) hf rfl rfl rfl (fun hact => (r_move rfl)) rfl rfl ?_; clear hf fa; intro fa hf
      refine sqgT (act := (decide (((fltO ((2 * n)))) ≤ ((op : Nat) : Int)))) (ag := true) (c := (decide (((fltO ((2 * n)))) ≤ ((op : Nat) : Int)))) (v := (.slice (some ⟨b1, 0, none⟩) 14 14)) hf rfl rfl rfl (fun hact => (r_move rfl)) rfl rfl ?_; clear hf fa; intro fa hf
      refine sqgT (act := (decide (((fltO ((2 * n)))) ≤ ((op : Nat) : Int)))) (ag := true) (c := (decide (((fltO ((2 * n)))) ≤ ((op : Nat) : Int)))) (v := (.int .i64 (((2 * n) : Nat) : Int))) hf rfl rfl rfl (fun hact => (r_move rfl)) rfl rfl ?_; clear hf fa; intro fa hf
      refine sqgT (act := (decide (((fltO ((2 * n)))) ≤ ((op : Nat) : Int)))) (ag := true) (c := (decide (((fltO ((2 * n)))) ≤ ((op : Nat) : Int)))) (v := (.int .i64 ((((2 * n) : Nat) : Int) + (1 : Int)))) hf rfl rfl rfl (fun hact => (by have hact0 := hact; (try simp only [Bool.and_eq_true, Bool.not_eq_true', Bool.or_eq_false_iff, Bool.or_eq_true, Bool.and_eq_false_iff, ne_eq, decide_eq_true_eq, decide_eq_false_iff_not] at hact0); exact (r_add (C := ((((2 * n) : Nat) : Int) + (1 : Int))) (gb_ev hact rfl) rfl (by rw [IntKind.wrap_i64]; omega)))) rfl rfl ?_; clear hf fa; intro fa hf
      have hy2 : ([(42 : Int), (43 : Int), (56 : Int), (57 : Int), (67 : Int), (68 : Int), (91 : Int), (102 : Int), (139 : Int), (166 : Int), (168 : Int), (171 : Int), (174 : Int), (191 : Int)])[(((2 * n)) + 1)]? = some (fltO (((2 * n)) + 1)) := (fltO_at (by omega))
      have hel2 := RdS.at (Row.rd (by intros; rfl) hrhr1) hy2
      obtain ⟨_, _, hab, hlr2, hel2⟩ := hel2
      cases hab
      refine sqgT (act := (decide (((fltO ((2 * n)))) ≤ ((op : Nat) : Int)))) (ag := true) (c := (decide (((fltO ((2 * n)))) ≤ ((op : Nat) : Int)))) (v := (.pointer (some ⟨b1, (0 + (((2 * n)) + 1) * 1), none⟩))) hf rfl rfl rfl (fun hact => (by have hact0 := hact; (try simp only [Bool.and_eq_true, Bool.not_eq_true', Bool.or_eq_false_iff, Bool.or_eq_true, Bool.and_eq_false_iff, ne_eq, decide_eq_true_eq, decide_eq_false_iff_not] at hact0); exact (r_ixa (sz := 1) (j := (((2 * n)) + 1)) (gb_ev hact rfl) (gb_ev hact rfl) Tryd.underlying76 (by kernel_rfl) rfl (by omega) rfl))) rfl rfl ?_; clear hf fa; intro fa hf
      refine sqgT (act := (decide (((fltO ((2 * n)))) ≤ ((op : Nat) : Int)))) (ag := true) (c := (decide (((fltO ((2 * n)))) ≤ ((op : Nat) : Int)))) (v := (.int .i64 ((fltO (((2 * n)) + 1))))) hf rfl rfl rfl (fun hact => (r_load (v := (.int .i64 ((fltO (((2 * n)) + 1))))) (gb_ev hact rfl) Tryd.underlying3 rfl (cellsAt_cell hel2 (i := 0) rfl rfl))) rfl rfl ?_; clear hf fa; intro fa hf
      refine sqgT (act := (decide (((fltO ((2 * n)))) ≤ ((op : Nat) : Int)))) (ag := true) (c := (decide (((fltO ((2 * n)))) ≤ ((op : Nat) : Int)))) (v := (.bool (decide (((op : Nat) : Int) ≤ ((fltO (((2 * n)) + 1))))))) hf rfl rfl rfl (fun hact => (r_le (gb_ev hact rfl) (gb_ev hact rfl))) rfl rfl ?_; clear hf fa; intro fa hf
      refine sqv hf (r_pickA (b := (decide (((fltO ((2 * n)))) ≤ ((op : Nat) : Int)))) (e := (decide (((op : Nat) : Int) ≤ ((fltO (((2 * n)) + 1)))))) rfl rfl rfl) rfl rfl rfl ?_; clear hf fa; intro fa hf
      apply wpList_nil
      (try simp only [Exit.then, Exit.inBlock, ↓reduceIte, Nat.reduceEqDiff])
      refine hK8 _ _ ?_
      refine wp_cond_split (t := ((decide (((fltO ((2 * n)))) ≤ ((op : Nat) : Int))) && (decide (((op : Nat) : Int) ≤ ((fltO (((2 * n)) + 1))))))) (hf.ev rfl) (fun hqt26_1 => ?_) (fun hqt26_1 => ?_)
      · have hqt26_1b := hqt26_1
        try simp only [decide_eq_true_eq, Bool.and_eq_true, Bool.or_eq_true, Bool.not_eq_true', decide_eq_false_iff_not, ne_eq, Bool.not_eq_true] at hqt26_1
        refine wp_seq_k (fun K9 hK9 => ?_)
        refine wp_region_lit ?_
        refine sqv hf (r_assign rfl) rfl rfl rfl ?_; clear hf fa; intro fa hf
        apply wpList_nil
        (try simp only [Exit.then, Exit.inBlock, ↓reduceIte, Nat.reduceEqDiff])
        refine hK9 _ _ ?_
        refine wp_ret ?_
        (try simp only [Exit.then, Exit.inBlock])
        refine ret1 hf rfl rfl ?_
        refine ⟨?_, hb⟩; rw [hF, show 7 - n = (7 - (n + 1)) + 1 by omega, fltR, if_pos (by have h := hqt26_1; omega)]
      · have hqt26_1b := hqt26_1
        replace hqt26_1 := Bool.eq_false_iff.1 hqt26_1
        try simp only [ne_eq, decide_eq_true_eq, Bool.and_eq_true, Bool.or_eq_true, Bool.not_eq_true', decide_eq_false_iff_not] at hqt26_1
        refine wp_skip ?_
        (try simp only [Exit.then, Exit.inBlock, ↓reduceIte, Nat.reduceEqDiff])
        refine hK7 _ _ ?_
        refine wp_region_lit ?_
        refine sqv hf (r_move rfl) rfl rfl rfl ?_; clear hf fa; intro fa hf
        refine sqv hf (r_add (C := ((((2 * n) : Nat) : Int) + (2 : Int))) rfl rfl (by rw [IntKind.wrap_i64]; omega)) rfl rfl rfl ?_; clear hf fa; intro fa hf
        refine sqv hf (r_assign rfl) rfl rfl rfl ?_; clear hf fa; intro fa hf
        apply wpList_nil
        (try simp only [Exit.then, Exit.inBlock, ↓reduceIte, Nat.reduceEqDiff])
        refine hKL1 _ _ _ (by omega) ⟨(n + 1), rfl, hf.sub ⟨rfl, (some_int (by first | rfl | omega)), rfl, trivial⟩, hb, hrhr1, by omega, (by rw [hF, show 7 - n = (7 - (n + 1)) + 1 by omega, fltR, if_neg (by have h := hqt26_1; omega)]; rfl)⟩
    · have hqt9_1b := hqt9_1
      replace hqt9_1 := Bool.eq_false_iff.1 hqt9_1
      try simp only [ne_eq, decide_eq_true_eq, Bool.and_eq_true, Bool.or_eq_true, Bool.not_eq_true', decide_eq_false_iff_not] at hqt9_1
      refine wp_exit ?_
      (try simp only [Exit.then, Exit.inBlock, ↓reduceIte, Nat.reduceEqDiff])
      refine hK3 _ _ ?_
      refine wp_seq_k (fun K10 hK10 => ?_)
      refine wp_region_lit ?_
      refine sqv hf (r_assign rfl) rfl rfl rfl ?_; clear hf fa; intro fa hf
      apply wpList_nil
      (try simp only [Exit.then, Exit.inBlock, ↓reduceIte, Nat.reduceEqDiff])
      refine hK10 _ _ ?_
      refine wp_ret ?_
      (try simp only [Exit.then, Exit.inBlock])
      refine ret1 hf rfl rfl ?_
      refine ⟨?_, hb⟩; rw [hF, show 7 - n = 0 by omega, fltR]

def rchkP (op : Nat) : Int :=
  bif (fltP ((op : Nat) : Int)) then (8 : Int)
  else bif (!(ofP op).2) then (9 : Int)
  else (0 : Int)

set_option maxHeartbeats 1000000 in
set_option maxRecDepth 100000 in
theorem rchk_any (op : Nat) (w : World) (hop : op < 256) : Calls Tryd.prog 29 #[(.int .i64 ((op : Nat) : Int))] w fun e w' => e = .returned (.int .i64 ((rchkP op))) ∧ Below w.heap.size w w' := by
  refine sx_enter (L := [(0, (.int .i64 ((op : Nat) : Int)))]) Tryd.func29 rfl rfl rfl rfl (fun fa hf => ?_)
  have hb : Below w.heap.size w w := Below.refl _ _
  refine wp_seq_k (fun K1 hK1 => ?_)
  refine wp_region_lit ?_
  refine sqv hf (r_assign rfl) rfl rfl rfl ?_; clear hf fa; intro fa hf
  apply wpList_nil
  (try simp only [Exit.then, Exit.inBlock, ↓reduceIte, Nat.reduceEqDiff])
  refine hK1 _ _ ?_
  refine wp_seq_k (fun K2 hK2 => ?_)
  refine wp_seq_k (fun K3 hK3 => ?_)
  refine wp_region_lit ?_
  refine sqv hf (r_move rfl) rfl rfl rfl ?_; clear hf fa; intro fa hf
  refine sqdt hf (d_callB (vs := [(.int .i64 ((op : Nat) : Int))]) rfl Tryd.func58 (by kernel_rfl) (by kernel_rfl) (float_any op _ hop)) rfl rfl rfl ?_; clear hf fa; rintro fa _ w1 ⟨rfl, he1⟩ hf
  replace hb := hb.trans (Below.mono he1 hb.size)
  apply wpList_nil
  (try simp only [Exit.then, Exit.inBlock, ↓reduceIte, Nat.reduceEqDiff])
  refine hK3 _ _ ?_
  refine wp_cond_split (t := (fltP ((op : Nat) : Int))) (hf.ev rfl) (fun hqt6_1 => ?_) (fun hqt6_1 => ?_)
  · have hqt6_1b := hqt6_1
    try simp only [decide_eq_true_eq, Bool.and_eq_true, Bool.or_eq_true, Bool.not_eq_true', decide_eq_false_iff_not, ne_eq, Bool.not_eq_true] at hqt6_1
    refine wp_seq_k (fun K4 hK4 => ?_)
    refine wp_region_lit ?_
    refine sqv hf (r_assign rfl) rfl rfl rfl ?_; clear hf fa; intro fa hf
    apply wpList_nil
    (try simp only [Exit.then, Exit.inBlock, ↓reduceIte, Nat.reduceEqDiff])
    refine hK4 _ _ ?_
    refine wp_ret ?_
    (try simp only [Exit.then, Exit.inBlock])
    refine ret1 hf rfl rfl ?_
    refine ⟨?_, hb⟩; unfold rchkP; rw [hqt6_1b]; (try rfl)
  · have hqt6_1b := hqt6_1
    replace hqt6_1 := Bool.eq_false_iff.1 hqt6_1
    try simp only [ne_eq, decide_eq_true_eq, Bool.and_eq_true, Bool.or_eq_true, Bool.not_eq_true', decide_eq_false_iff_not] at hqt6_1
    refine wp_skip ?_
    (try simp only [Exit.then, Exit.inBlock, ↓reduceIte, Nat.reduceEqDiff])
    refine hK2 _ _ ?_
    refine wp_seq_k (fun K5 hK5 => ?_)
    refine wp_seq_k (fun K6 hK6 => ?_)
    refine wp_region_lit ?_
    refine sqv hf (r_move rfl) rfl rfl rfl ?_; clear hf fa; intro fa hf
    refine sqdt hf (d_callB (vs := [(.int .i64 ((op : Nat) : Int))]) rfl Tryd.func22 (by kernel_rfl) (by kernel_rfl) (of_any op _ (by omega))) rfl rfl rfl ?_; clear hf fa; rintro fa _ w2 ⟨rfl, he2⟩ hf
    replace hb := hb.trans (Below.mono he2 hb.size)
    refine sqv hf (r_move rfl) rfl rfl rfl ?_; clear hf fa; intro fa hf
    refine sqv hf (r_extract rfl (i := 0) rfl) rfl rfl rfl ?_; clear hf fa; intro fa hf
    refine sqv hf (r_extract rfl (i := 1) rfl) rfl rfl rfl ?_; clear hf fa; intro fa hf
    refine sqdt hf (d_alloc (z := (.agg #[(.int .i64 (0 : Int)), (.string ⟨#[]⟩), (.int .i64 (0 : Int)), (.string ⟨#[]⟩), (.string ⟨#[]⟩), (.bool false)])) (cs := #[(.int .i64 (0 : Int)), (.string ⟨#[]⟩), (.int .i64 (0 : Int)), (.string ⟨#[]⟩), (.string ⟨#[]⟩), (.bool false)]) (by kernel_rfl) rfl) rfl rfl rfl ?_; clear hf fa; rintro fa _ w3 ⟨b1, rfl, hle1, hk1, he3⟩ hf
    have hBb1 : w.heap.size ≤ b1 := Nat.le_trans hb.size hle1
    replace hb := hb.trans (Below.mono he3 hb.size)
    refine sqn hf (d_storeK (T := 57) (v := (.agg #[(.int .i64 ((ofP op).1.1)), (.string (ofP op).1.2.1), (.int .i64 ((ofP op).1.2.2.1)), (.string (ofP op).1.2.2.2.1), (.string (ofP op).1.2.2.2.2.1), (.bool (ofP op).1.2.2.2.2.2.1)])) (cs := #[(.int .i64 (0 : Int)), (.string ⟨#[]⟩), (.int .i64 (0 : Int)), (.string ⟨#[]⟩), (.string ⟨#[]⟩), (.bool false)]) (cs' := #[(.int .i64 ((ofP op).1.1)), (.string (ofP op).1.2.1), (.int .i64 ((ofP op).1.2.2.1)), (.string (ofP op).1.2.2.2.1), (.string (ofP op).1.2.2.2.2.1), (.bool (ofP op).1.2.2.2.2.2.1)]) rfl rfl (by kernel_rfl) (by kernel_rfl) hk1 (by kernel_rfl) (by kernel_rfl)) rfl rfl ?_; clear hf fa; rintro fa _ w4 ⟨hk2, hg1⟩ hf
    replace hb := hb.trans (grown_below hg1 hb.size hBb1)
    refine sqv hf (r_assign rfl) rfl rfl rfl ?_; clear hf fa; intro fa hf
    apply wpList_nil
    (try simp only [Exit.then, Exit.inBlock, ↓reduceIte, Nat.reduceEqDiff])
    refine hK6 _ _ ?_
    refine wp_seq_k (fun K7 hK7 => ?_)
    refine wp_region_lit ?_
    refine sqv hf (r_move rfl) rfl rfl rfl ?_; clear hf fa; intro fa hf
    refine sqv hf (r_not rfl) rfl rfl rfl ?_; clear hf fa; intro fa hf
    apply wpList_nil
    (try simp only [Exit.then, Exit.inBlock, ↓reduceIte, Nat.reduceEqDiff])
    refine hK7 _ _ ?_
    refine wp_cond_split (t := (!(ofP op).2)) (hf.ev rfl) (fun hqt13_1 => ?_) (fun hqt13_1 => ?_)
    · have hqt13_1b := hqt13_1
      try simp only [decide_eq_true_eq, Bool.and_eq_true, Bool.or_eq_true, Bool.not_eq_true', decide_eq_false_iff_not, ne_eq, Bool.not_eq_true] at hqt13_1
      refine wp_seq_k (fun K8 hK8 => ?_)
      refine wp_region_lit ?_
      refine sqv hf (r_assign rfl) rfl rfl rfl ?_; clear hf fa; intro fa hf
      apply wpList_nil
      (try simp only [Exit.then, Exit.inBlock, ↓reduceIte, Nat.reduceEqDiff])
      refine hK8 _ _ ?_
      refine wp_ret ?_
      (try simp only [Exit.then, Exit.inBlock])
      refine ret1 hf rfl rfl ?_
      refine ⟨?_, hb⟩; unfold rchkP; rw [hqt6_1b, hqt13_1b]; (try rfl)
    · have hqt13_1b := hqt13_1
      replace hqt13_1 := Bool.eq_false_iff.1 hqt13_1
      try simp only [ne_eq, decide_eq_true_eq, Bool.and_eq_true, Bool.or_eq_true, Bool.not_eq_true', decide_eq_false_iff_not] at hqt13_1
      refine wp_skip ?_
      (try simp only [Exit.then, Exit.inBlock, ↓reduceIte, Nat.reduceEqDiff])
      refine hK5 _ _ ?_
      refine wp_seq_k (fun K9 hK9 => ?_)
      refine wp_region_lit ?_
      refine sqv hf (r_assign rfl) rfl rfl rfl ?_; clear hf fa; intro fa hf
      apply wpList_nil
      (try simp only [Exit.then, Exit.inBlock, ↓reduceIte, Nat.reduceEqDiff])
      refine hK9 _ _ ?_
      refine wp_ret ?_
      (try simp only [Exit.then, Exit.inBlock])
      refine ret1 hf rfl rfl ?_
      refine ⟨?_, hb⟩; unfold rchkP; rw [hqt6_1b, hqt13_1b]; (try rfl)

theorem rowTo6 {α : Type} {k e base n c : Nat} {V : α → List Value} {w : World} {a : Option Addr} {l l' : List α} (h : Row k V e base w (.slice a n c) l) (he : l = l') : Row k V e base w (.slice a l'.length c) l' := he ▸ h.relen
end Go.Proofs.YtpalmpfkliepfaaDoor

namespace Go.Proofs.YtpalmpfkliepfaaDoor
open Go.RowKit Ut
set_option linter.unusedVariables false
set_option linter.unusedSimpArgs false
def codeB (l : List Nat) : Nat := l.foldl (fun a c => a * 256 + c) 0
def nmO (op : Nat) : ByteArray := (infP op).1
def codesL : List Nat := [141965891442081047836257381, 7237488, 422726034283, 1819242352, 26982, 1701606245, 0, 0, 0, 0, 0, 6647396, 25202, 422825650534, 7093837316516637797, 125780071117422, 1667329132, 7873739210628976230327587791732, 0, 0, 0, 0, 0, 0, 0, 0, 1685221232, 126879447475060, 0, 0, 0, 0, 2000274726038798820724, 2000274726038799607156, 2000274726038799672677, 488404022180137279120756, 488404022180137279907188, 0, 0, 0, 7580457772763799908, 7581304396717187428, 0, 0, 127178977432537188040990579, 127178977432537188040990581, 32557818222729520138373455731, 32557818222729520138373455733, 127193181425473944395734899, 127193181425473944395734901, 32561454444921329765188001651, 32561454444921329765188001653, 32561454444921329765221293939, 32561454444921329765221293941, 1940597189857682354789, 1940813925589749559909, 0, 0, 496792880603566682826040, 127178977434513070803464502, 496848364950975887336760, 127193181427449827158208822, 127193181427449827158209330, 132251892078482774517447269, 132251892078482774316707703, 1940597189788878926708, 1940813925520946131828, 0, 0, 29611163174400378, 115668606150001, 115668606152293, 7580457772764127091, 7580457772764127093, 7580457772680241011, 7580457772680241013, 7580457772763144051, 7580457772763144053, 7580457772679257971, 7580457772679257973, 29614470299218298, 115681524606321, 115681524608613, 7581304396717514611, 7581304396717514613, 7581304396633628531, 7581304396633628533, 7581304396716531571, 7581304396716531573, 7581304396632645491, 7581304396632645493, 0, 0, 0, 0, 0, 0, 0, 0, 0, 0, 0, 0, 29611163174268026, 29611163174270074, 496792880600246688902772, 29611163174134884, 29611163175318882, 29611163174925676, 1940597189793073749875, 1940597189793073749877, 1940597189853135593331, 1940597189853135593333, 29611163174137444, 115668606152562, 29611163175645042, 29611163175315564, 1940597189857481219955, 1940597189857481219957, 7580457772864468076, 7580457772864468082, 29614470299085946, 29614470299087994, 496848364947655893413492, 29614470298952804, 29614470300136802, 29614470299743596, 1940813925525140954995, 1940813925525140954997, 1940813925585202798451, 1940813925585202798453, 29614470298955364, 115681524608882, 29614470300462962, 29614470300133484, 1940813925589548425075, 1940813925589548425077, 7581304396817855596, 7581304396817855602, 0, 0, 0, 0, 0, 0, 0, 0, 0, 0, 0, 0, 0, 0, 0, 0, 0, 0, 0, 0, 0, 0, 0, 0, 0, 0, 0, 0, 32557818223522998150035486260, 0, 0, 0, 0, 139850381948975519645759322204258066291, 139850381948975519645759322204258066293, 0, 0, 0, 0, 0, 0, 0, 0, 0, 0, 0, 0, 0, 0, 0, 0, 0, 0, 0, 0, 0, 0, 0, 0, 0, 0, 0, 0, 0, 0, 0, 0, 0, 0, 0, 0, 0, 0, 0, 0, 0, 0, 0, 0, 0, 0, 0, 0, 0, 0, 0, 0, 0, 0, 0, 0, 0, 0, 0, 0, 0, 0, 0, 0, 0, 0, 0, 0, 0, 0, 0, 0, 0, 0, 0, 0, 0, 0, 0, 0, 0, 0]
set_option maxRecDepth 100000 in
theorem codes_tab : ∀ j : Fin 256, codeB (bl (nmO j.val)) = codesL.getD j.val 0 := by decide +kernel
set_option maxRecDepth 100000 in
theorem codes_one : ((List.range 256).all fun i => (List.range i).all fun j => codesL.getD i 0 == 0 || codesL.getD i 0 != codesL.getD j 0) = true := by decide +kernel
def NmT (j : Nat) : Prop := ((bl (nmO j)).all (fun c => c != 32)) = true ∧ (bl (nmO j)).length ≤ 24 ∧ ((bl (nmO j)).length = 0 → chkP j ≠ 0)
instance (j : Nat) : Decidable (NmT j) := by unfold NmT; infer_instance
set_option maxRecDepth 100000 in
theorem name_tab0 : ∀ j : Fin 256, NmT j.val := by decide +kernel
theorem name_tab {i : Nat} (hi : i < 256) : NmT i := name_tab0 ⟨i, hi⟩
def OfT (j : Nat) : Prop := (ofP j).2 = decide ((bl (nmO j)).length ≠ 0) ∧ (ofP j).1.1 = (if (ofP j).2 then ((j : Nat) : Int) else 0) ∧ bl (ofP j).1.2.1 = bl (nmO j) ∧ (ofP j).1.2.2.1 = (infP j).2.1 ∧ 0 ≤ (infP j).2.1 ∧ (infP j).2.1 ≤ 11
instance (j : Nat) : Decidable (OfT j) := by unfold OfT; infer_instance
set_option maxRecDepth 100000 in
theorem of_tab0 : ∀ j : Fin 256, OfT j.val := by decide +kernel
theorem of_tab {i : Nat} (hi : i < 256) : OfT i := of_tab0 ⟨i, hi⟩
def ChT (j : Nat) : Prop := rchkP j = chkP j
instance (j : Nat) : Decidable (ChT j) := by unfold ChT; infer_instance
set_option maxRecDepth 100000 in
theorem chk_tab0 : ∀ j : Fin 256, ChT j.val := by decide +kernel
theorem chk_tab {i : Nat} (hi : i < 256) : ChT i := chk_tab0 ⟨i, hi⟩

set_option maxRecDepth 100000 in
theorem nz_tab : ∀ j : Fin 256, ((bl (nmO j.val)).all (fun c => c != 0)) = true := by decide +kernel
theorem name_nz (i : Nat) (hi : i < 256) : ∀ c ∈ bl (nmO i), c ≠ 0 := by
  intro c hc
  have := List.all_eq_true.1 (nz_tab ⟨i, hi⟩) c hc
  simpa using this
theorem zero_name (l : List Nat) (h : l.foldl (fun a c => a * 256 + c) 0 = 0) (hz : ∀ c ∈ l, c ≠ 0) : l = [] := by
  cases l with
  | nil => rfl
  | cons c l =>
    exfalso
    have hp : ∀ (l : List Nat) (a : Nat), 0 < a → 0 < l.foldl (fun a c => a * 256 + c) a := by
      intro l
      induction l with
      | nil => intro a ha; exact ha
      | cons c l ih => intro a ha; exact ih _ (by show 0 < a * 256 + c; omega)
    have hc := hz c (List.mem_cons_self ..)
    have := hp l (0 * 256 + c) (by omega)
    rw [List.foldl_cons] at h
    omega

theorem nmO_inj {i j : Nat} (hi : i < 256) (hj : j < 256) (h0 : bl (nmO i) ≠ []) (h : nmO i = nmO j) : i = j := by
  have e1 := codes_tab ⟨i, hi⟩
  have e2 := codes_tab ⟨j, hj⟩
  simp only at e1 e2
  have hc : codesL.getD i 0 = codesL.getD j 0 := by rw [← e1, ← e2, h]
  have hn : codesL.getD i 0 ≠ 0 := by
    rw [← e1]
    intro he
    have : ∀ (l : List Nat) (a : Nat), 0 < a → 0 < l.foldl (fun a c => a * 256 + c) a := by
      intro l
      induction l with
      | nil => intro a ha; exact ha
      | cons c l ih => intro a ha; exact ih _ (by show 0 < a * 256 + c; omega)
    unfold codeB at he
    have hz := zero_name (bl (nmO i)) he (name_nz i hi)
    exact h0 hz
  have hall := codes_one
  rw [List.all_eq_true] at hall
  rcases Nat.lt_trichotomy i j with hlt | he | hlt
  · have h1 := hall j (List.mem_range.2 hj)
    rw [List.all_eq_true] at h1
    have h2 := h1 i (List.mem_range.2 hlt)
    rw [← hc] at h2
    simp at h2
    exact absurd h2 hn
  · exact he
  · have h1 := hall i (List.mem_range.2 hi)
    rw [List.all_eq_true] at h1
    have h2 := h1 j (List.mem_range.2 hlt)
    rw [← hc] at h2
    simp at h2
    exact absurd h2 hn

theorem nmO_sp {i : Nat} (hi : i < 256) : ∀ c ∈ bl (nmO i), c ≠ 32 := by
  intro c hc
  have := List.all_eq_true.1 (name_tab hi).1 c hc
  simpa using this
theorem nmO_len {i : Nat} (hi : i < 256) : (nmO i).size ≤ 24 := by have := (name_tab hi).2.1; rw [bl_length] at this; exact this
theorem nmO_ok {i : Nat} (hi : i < 256) (h : chkP i = 0) : bl (nmO i) ≠ [] := fun e => (name_tab hi).2.2 (by show (bl (nmO i)).length = 0; rw [e]; rfl) h
theorem of_name {i : Nat} (hi : i < 256) : (ofP i).1.2.1 = nmO i := by
  have h := of_tab hi
  unfold OfT at h
  exact bl_inj h.2.2.1
theorem of_imm {i : Nat} (hi : i < 256) : (ofP i).1.2.2.1 = (infP i).2.1 := (of_tab hi).2.2.2.1
theorem chk_eq {i : Nat} (hi : i < 256) : rchkP i = chkP i := chk_tab hi
def findR (nm : ByteArray) : Nat → Nat → Int × Bool
  | 0, _ => (0, false)
  | f + 1, k => if nmO k = nm then (((k : Nat) : Int), true) else findR nm f (k + 1)
def findP (nm : ByteArray) : Int × Bool := if nm = ⟨#[]⟩ then (0, false) else findR nm 256 0
theorem findR_hit (nm : ByteArray) {i : Nat} (hi : i < 256) (h0 : bl nm ≠ []) (h : nmO i = nm) : ∀ f k, f + k = 256 → k ≤ i → findR nm f k = (((i : Nat) : Int), true) := by
  intro f
  induction f with
  | zero => intro k h1 h2; omega
  | succ f ih =>
    intro k h1 h2
    rw [findR]
    by_cases hk : nmO k = nm
    · rw [if_pos hk, nmO_inj (i := k) (j := i) (by omega) hi (by rw [hk]; exact h0) (by rw [hk, h])]
    · rw [if_neg hk]
      exact ih (k + 1) (by omega) (by rcases Nat.lt_or_ge k i with h3 | h3; exact h3; exact absurd (by rw [show k = i by omega]; exact h) hk)
theorem findP_hit {i : Nat} (hi : i < 256) (h0 : bl (nmO i) ≠ []) : findP (nmO i) = (((i : Nat) : Int), true) := by
  unfold findP
  rw [if_neg (fun e => h0 (by rw [e]; rfl))]
  exact findR_hit _ hi h0 rfl 256 0 rfl (Nat.zero_le _)
theorem findR_out (nm : ByteArray) : ∀ f k, f + k = 256 → ((findR nm f k).2 = true → ∃ i, i < 256 ∧ (findR nm f k).1 = ((i : Nat) : Int) ∧ nmO i = nm) ∧ 0 ≤ (findR nm f k).1 ∧ (findR nm f k).1 < 256 := by
  intro f
  induction f with
  | zero => intro k h1; exact ⟨fun h => (by cases h), Int.le_refl 0, by show (0 : Int) < 256; decide⟩
  | succ f ih =>
    intro k h1
    rw [findR]
    by_cases hk : nmO k = nm
    · rw [if_pos hk]; exact ⟨fun _ => ⟨k, by omega, rfl, hk⟩, by show (0 : Int) ≤ ((k : Nat) : Int); omega, by show ((k : Nat) : Int) < 256; omega⟩
    · rw [if_neg hk]; exact ih (k + 1) (by omega)
theorem findP_out (nm : ByteArray) : ((findP nm).2 = true → ∃ i, i < 256 ∧ (findP nm).1 = ((i : Nat) : Int) ∧ nmO i = nm ∧ bl nm ≠ []) ∧ 0 ≤ (findP nm).1 ∧ (findP nm).1 < 256 := by
  unfold findP
  by_cases h : nm = ⟨#[]⟩
  · rw [if_pos h]; exact ⟨fun h => (by cases h), by decide, by decide⟩
  · rw [if_neg h]
    obtain ⟨h1, h2⟩ := findR_out nm 256 0 rfl
    exact ⟨fun h3 => by obtain ⟨i, a, b, c⟩ := h1 h3; exact ⟨i, a, b, c, fun e => h (bl_inj e)⟩, h2⟩
-- the rows
end Go.Proofs.YtpalmpfkliepfaaDoor

namespace Go.Proofs.YtpalmpfkliepfaaDoor
open Go.RowKit Ut
set_option linter.unusedVariables false
set_option linter.unusedSimpArgs false
attribute [local irreducible] infP ofP chkP rchkP
theorem inI_u32 {n : Int} (h : 0 ≤ n ∧ n < 9223372036854775808) : inI n := by unfold inI; omega
def blkP (A : Int) : Int := if A = 64 then 0 else if 255 < A then 7 else if A = 127 ∨ A = 126 then 0 else if A = 125 ∨ A = 124 then 8 else 7
def rightP (op : Nat) (A B : Int) (n : Nat) : Int :=
  if chkP op ≠ 0 then chkP op else if 0 < n ∧ (infP op).2.1 ≠ 3 then 1 else if 10000 < n then 29 else if B ≠ 0 ∧ (infP op).2.1 ≠ 8 then 1
  else if (infP op).2.1 = 0 ∨ (infP op).2.1 = 9 then (if A = 0 then 0 else 1) else if (infP op).2.1 = 1 then blkP A else if (infP op).2.1 = 11 then 0 else if A < 4294967296 ∧ B < 4294967296 then 0 else 1

def tnameP (b : Int) : ByteArray :=
  bif (decide (b = (127 : Int))) then ⟨#[105, 51, 50]⟩
  else bif (decide (b = (126 : Int))) then ⟨#[105, 54, 52]⟩
  else bif (decide (b = (125 : Int))) then ⟨#[102, 51, 50]⟩
  else bif (decide (b = (124 : Int))) then ⟨#[102, 54, 52]⟩
  else bif (decide (b = (112 : Int))) then ⟨#[102, 117, 110, 99, 114, 101, 102]⟩
  else ⟨#[63]⟩

set_option maxHeartbeats 1000000 in
set_option maxRecDepth 100000 in
theorem tname_any (b : Int) (w : World)  : Calls Tryd.prog 74 #[(.int .u8 b)] w fun e w' => e = .returned (.string (tnameP b)) ∧ Below w.heap.size w w' := by
  refine sx_enter (L := [(0, (.int .u8 b))]) Tryd.func74 rfl rfl rfl rfl (fun fa hf => ?_)
  have hb : Below w.heap.size w w := Below.refl _ _
  refine wp_seq_k (fun K1 hK1 => ?_)
  refine wp_region_lit ?_
  refine sqv hf (r_assign rfl) rfl rfl rfl ?_; clear hf fa; intro fa hf
  apply wpList_nil
  (try simp only [Exit.then, Exit.inBlock, ↓reduceIte, Nat.reduceEqDiff])
  refine hK1 _ _ ?_
  refine wp_seq_k (fun K2 hK2 => ?_)
  refine wp_seq_k (fun K3 hK3 => ?_)
  refine wp_region_lit ?_
  refine sqv hf (r_move rfl) rfl rfl rfl ?_; clear hf fa; intro fa hf
  apply wpList_nil
  (try simp only [Exit.then, Exit.inBlock, ↓reduceIte, Nat.reduceEqDiff])
  refine hK3 _ _ ?_
  refine wp_block ?_
  refine wp_seq_k (fun K4 hK4 => ?_)
  refine wp_region_lit ?_
  refine sqv hf (r_eq rfl rfl) rfl rfl rfl ?_; clear hf fa; intro fa hf
  refine sqv hf (r_assign rfl) rfl rfl rfl ?_; clear hf fa; intro fa hf
  apply wpList_nil
  (try simp only [Exit.then, Exit.inBlock, ↓reduceIte, Nat.reduceEqDiff])
  refine hK4 _ _ ?_
  refine wp_cond_split (t := (decide (b = (127 : Int)))) (hf.ev rfl) (fun hqt4_1 => ?_) (fun hqt4_1 => ?_)
  · have hqt4_1b := hqt4_1
    try simp only [decide_eq_true_eq, Bool.and_eq_true, Bool.or_eq_true, Bool.not_eq_true', decide_eq_false_iff_not, ne_eq, Bool.not_eq_true] at hqt4_1
    refine wp_seq_k (fun K5 hK5 => ?_)
    refine wp_region_lit ?_
    refine sqv hf (r_assign rfl) rfl rfl rfl ?_; clear hf fa; intro fa hf
    apply wpList_nil
    (try simp only [Exit.then, Exit.inBlock, ↓reduceIte, Nat.reduceEqDiff])
    refine hK5 _ _ ?_
    refine wp_ret ?_
    (try simp only [Exit.then, Exit.inBlock])
    refine ret1 hf rfl rfl ?_
    refine ⟨?_, hb⟩; unfold tnameP; rw [hqt4_1b]; (try rfl)
  · have hqt4_1b := hqt4_1
    replace hqt4_1 := Bool.eq_false_iff.1 hqt4_1
    try simp only [ne_eq, decide_eq_true_eq, Bool.and_eq_true, Bool.or_eq_true, Bool.not_eq_true', decide_eq_false_iff_not] at hqt4_1
    refine wp_seq_k (fun K6 hK6 => ?_)
    refine wp_region_lit ?_
    refine sqv hf (r_eq rfl rfl) rfl rfl rfl ?_; clear hf fa; intro fa hf
    refine sqv hf (r_assign rfl) rfl rfl rfl ?_; clear hf fa; intro fa hf
    apply wpList_nil
    (try simp only [Exit.then, Exit.inBlock, ↓reduceIte, Nat.reduceEqDiff])
    refine hK6 _ _ ?_
    refine wp_cond_split (t := (decide (b = (126 : Int)))) (hf.ev rfl) (fun hqt6_1 => ?_) (fun hqt6_1 => ?_)
    · have hqt6_1b := hqt6_1
      try simp only [decide_eq_true_eq, Bool.and_eq_true, Bool.or_eq_true, Bool.not_eq_true', decide_eq_false_iff_not, ne_eq, Bool.not_eq_true] at hqt6_1
      refine wp_seq_k (fun K7 hK7 => ?_)
      refine wp_region_lit ?_
      refine sqv hf (r_assign rfl) rfl rfl rfl ?_; clear hf fa; intro fa hf
      apply wpList_nil
      (try simp only [Exit.then, Exit.inBlock, ↓reduceIte, Nat.reduceEqDiff])
      refine hK7 _ _ ?_
      refine wp_ret ?_
      (try simp only [Exit.then, Exit.inBlock])
      refine ret1 hf rfl rfl ?_
      refine ⟨?_, hb⟩; unfold tnameP; rw [hqt4_1b, hqt6_1b]; (try rfl)
    · have hqt6_1b := hqt6_1
      replace hqt6_1 := Bool.eq_false_iff.1 hqt6_1
      try simp only [ne_eq, decide_eq_true_eq, Bool.and_eq_true, Bool.or_eq_true, Bool.not_eq_true', decide_eq_false_iff_not] at hqt6_1
      refine wp_seq_k (fun K8 hK8 => ?_)
      refine wp_region_lit ?_
      refine sqv hf (r_eq rfl rfl) rfl rfl rfl ?_; clear hf fa; intro fa hf
      refine sqv hf (r_assign rfl) rfl rfl rfl ?_; clear hf fa; intro fa hf
      apply wpList_nil
      (try simp only [Exit.then, Exit.inBlock, ↓reduceIte, Nat.reduceEqDiff])
      refine hK8 _ _ ?_
      refine wp_cond_split (t := (decide (b = (125 : Int)))) (hf.ev rfl) (fun hqt8_1 => ?_) (fun hqt8_1 => ?_)
      · have hqt8_1b := hqt8_1
        try simp only [decide_eq_true_eq, Bool.and_eq_true, Bool.or_eq_true, Bool.not_eq_true', decide_eq_false_iff_not, ne_eq, Bool.not_eq_true] at hqt8_1
        refine wp_seq_k (fun K9 hK9 => ?_)
        refine wp_region_lit ?_
        refine sqv hf (r_assign rfl) rfl rfl rfl ?_; clear hf fa; intro fa hf
        apply wpList_nil
        (try simp only [Exit.then, Exit.inBlock, ↓reduceIte, Nat.reduceEqDiff])
        refine hK9 _ _ ?_
        refine wp_ret ?_
        (try simp only [Exit.then, Exit.inBlock])
        refine ret1 hf rfl rfl ?_
        refine ⟨?_, hb⟩; unfold tnameP; rw [hqt4_1b, hqt6_1b, hqt8_1b]; (try rfl)
      · have hqt8_1b := hqt8_1
        replace hqt8_1 := Bool.eq_false_iff.1 hqt8_1
        try simp only [ne_eq, decide_eq_true_eq, Bool.and_eq_true, Bool.or_eq_true, Bool.not_eq_true', decide_eq_false_iff_not] at hqt8_1
        refine wp_seq_k (fun K10 hK10 => ?_)
        refine wp_region_lit ?_
        refine sqv hf (r_eq rfl rfl) rfl rfl rfl ?_; clear hf fa; intro fa hf
        refine sqv hf (r_assign rfl) rfl rfl rfl ?_; clear hf fa; intro fa hf
        apply wpList_nil
        (try simp only [Exit.then, Exit.inBlock, ↓reduceIte, Nat.reduceEqDiff])
        refine hK10 _ _ ?_
        refine wp_cond_split (t := (decide (b = (124 : Int)))) (hf.ev rfl) (fun hqt10_1 => ?_) (fun hqt10_1 => ?_)
        · have hqt10_1b := hqt10_1
          try simp only [decide_eq_true_eq, Bool.and_eq_true, Bool.or_eq_true, Bool.not_eq_true', decide_eq_false_iff_not, ne_eq, Bool.not_eq_true] at hqt10_1
          refine wp_seq_k (fun K11 hK11 => ?_)
          refine wp_region_lit ?_
          refine sqv hf (r_assign rfl) rfl rfl rfl ?_; clear hf fa; intro fa hf
          apply wpList_nil
          (try simp only [Exit.then, Exit.inBlock, ↓reduceIte, Nat.reduceEqDiff])
          refine hK11 _ _ ?_
          refine wp_ret ?_
          (try simp only [Exit.then, Exit.inBlock])
          refine ret1 hf rfl rfl ?_
          refine ⟨?_, hb⟩; unfold tnameP; rw [hqt4_1b, hqt6_1b, hqt8_1b, hqt10_1b]; (try rfl)
        · have hqt10_1b := hqt10_1
          replace hqt10_1 := Bool.eq_false_iff.1 hqt10_1
          try simp only [ne_eq, decide_eq_true_eq, Bool.and_eq_true, Bool.or_eq_true, Bool.not_eq_true', decide_eq_false_iff_not] at hqt10_1
          refine wp_seq_k (fun K12 hK12 => ?_)
          refine wp_region_lit ?_
          refine sqv hf (r_eq rfl rfl) rfl rfl rfl ?_; clear hf fa; intro fa hf
          refine sqv hf (r_assign rfl) rfl rfl rfl ?_; clear hf fa; intro fa hf
          apply wpList_nil
          (try simp only [Exit.then, Exit.inBlock, ↓reduceIte, Nat.reduceEqDiff])
          refine hK12 _ _ ?_
          refine wp_cond_split (t := (decide (b = (112 : Int)))) (hf.ev rfl) (fun hqt12_1 => ?_) (fun hqt12_1 => ?_)
          · have hqt12_1b := hqt12_1
            try simp only [decide_eq_true_eq, Bool.and_eq_true, Bool.or_eq_true, Bool.not_eq_true', decide_eq_false_iff_not, ne_eq, Bool.not_eq_true] at hqt12_1
            refine wp_seq_k (fun K13 hK13 => ?_)
            refine wp_region_lit ?_
            refine sqv hf (r_assign rfl) rfl rfl rfl ?_; clear hf fa; intro fa hf
            apply wpList_nil
            (try simp only [Exit.then, Exit.inBlock, ↓reduceIte, Nat.reduceEqDiff])
            refine hK13 _ _ ?_
            refine wp_ret ?_
            (try simp only [Exit.then, Exit.inBlock])
            refine ret1 hf rfl rfl ?_
            refine ⟨?_, hb⟩; unfold tnameP; rw [hqt4_1b, hqt6_1b, hqt8_1b, hqt10_1b, hqt12_1b]; (try rfl)
          · have hqt12_1b := hqt12_1
            replace hqt12_1 := Bool.eq_false_iff.1 hqt12_1
            try simp only [ne_eq, decide_eq_true_eq, Bool.and_eq_true, Bool.or_eq_true, Bool.not_eq_true', decide_eq_false_iff_not] at hqt12_1
            refine wp_skip ?_
            (try simp only [Exit.then, Exit.inBlock, ↓reduceIte, Nat.reduceEqDiff])
            refine hK2 _ _ ?_
            refine wp_seq_k (fun K14 hK14 => ?_)
            refine wp_region_lit ?_
            refine sqv hf (r_assign rfl) rfl rfl rfl ?_; clear hf fa; intro fa hf
            apply wpList_nil
            (try simp only [Exit.then, Exit.inBlock, ↓reduceIte, Nat.reduceEqDiff])
            refine hK14 _ _ ?_
            refine wp_ret ?_
            (try simp only [Exit.then, Exit.inBlock])
            refine ret1 hf rfl rfl ?_
            refine ⟨?_, hb⟩; unfold tnameP; rw [hqt4_1b, hqt6_1b, hqt8_1b, hqt10_1b, hqt12_1b]; (try rfl)

theorem tnL_at (b : Int) (h : 124 ≤ b ∧ b ≤ 127) : ([(⟨#[105, 51, 50]⟩ : ByteArray), (⟨#[105, 54, 52]⟩ : ByteArray), (⟨#[102, 51, 50]⟩ : ByteArray), (⟨#[102, 54, 52]⟩ : ByteArray)] : List ByteArray)[127 - b.toNat]? = some (tnameP b) := by
  rcases (show b = 124 ∨ b = 125 ∨ b = 126 ∨ b = 127 by omega) with rfl | rfl | rfl | rfl <;> rfl
theorem tname_le (b : Int) : (tnameP b).size ≤ 7 := by
  unfold tnameP
  generalize decide (b = 127) = a1
  generalize decide (b = 126) = a2
  generalize decide (b = 125) = a3
  generalize decide (b = 124) = a4
  generalize decide (b = 112) = a5
  cases a1 <;> cases a2 <;> cases a3 <;> cases a4 <;> cases a5 <;> decide
theorem tname_no (b : Int) (h : ¬ (124 ≤ b ∧ b ≤ 127)) (h2 : b ≠ 112) : tnameP b = (⟨#[63]⟩ : ByteArray) := by
  unfold tnameP
  rw [decide_eq_false (by omega), decide_eq_false (by omega), decide_eq_false (by omega), decide_eq_false (by omega), decide_eq_false (by omega)]; rfl
set_option maxHeartbeats 1000000 in
set_option maxRecDepth 100000 in
theorem rname_any (b : Int) (w : World) (hb0 : -1000 ≤ b ∧ b ≤ 1000) : Calls Tryd.prog 23 #[(.int .i64 b)] w fun e w' => e = .returned (.string (tnameP b)) ∧ Below w.heap.size w w' := by
  refine sx_enter (L := [(0, (.int .i64 b))]) Tryd.func23 rfl rfl rfl rfl (fun fa hf => ?_)
  have hb : Below w.heap.size w w := Below.refl _ _
  refine wp_seq_k (fun K1 hK1 => ?_)
  refine wp_region_lit ?_
  refine sqv hf (r_assign rfl) rfl rfl rfl ?_; clear hf fa; intro fa hf
  apply wpList_nil
  (try simp only [Exit.then, Exit.inBlock, ↓reduceIte, Nat.reduceEqDiff])
  refine hK1 _ _ ?_
  refine wp_seq_k (fun K2 hK2 => ?_)
  refine wp_region_lit ?_
  refine sqdt hf (d_bslice (z := (.string ⟨#[]⟩)) (sz := 1) (vs := [(0, (.string ⟨#[105, 51, 50]⟩)), (1, (.string ⟨#[105, 54, 52]⟩)), (2, (.string ⟨#[102, 51, 50]⟩)), (3, (.string ⟨#[102, 54, 52]⟩))]) (cs := #[(.string ⟨#[105, 51, 50]⟩), (.string ⟨#[105, 54, 52]⟩), (.string ⟨#[102, 51, 50]⟩), (.string ⟨#[102, 54, 52]⟩)]) rfl Tryd.underlying43 (by kernel_rfl) rfl (by kernel_rfl)) rfl rfl rfl ?_; clear hf fa; rintro fa _ w1 ⟨b1, rfl, hle1, hk1, he1⟩ hf
  have hBb1 : w.heap.size ≤ b1 := Nat.le_trans hb.size hle1
  replace hb := hb.trans (Below.mono he1 hb.size)
  refine sqv hf (r_assign rfl) rfl rfl rfl ?_; clear hf fa; intro fa hf
  apply wpList_nil
  (try simp only [Exit.then, Exit.inBlock, ↓reduceIte, Nat.reduceEqDiff])
  refine hK2 _ _ ?_
  refine wp_seq_k (fun K3 hK3 => ?_)
  refine wp_seq_k (fun K4 hK4 => ?_)
  refine wp_region_lit ?_
  refine sqv hf (r_move rfl) rfl rfl rfl ?_; clear hf fa; intro fa hf
  refine sqv hf (r_ge rfl rfl) rfl rfl rfl ?_; clear hf fa; intro fa hf
  refine sqv hf (r_move rfl) rfl rfl rfl ?_; clear hf fa; intro fa hf
  refine sqgT (act := (decide ((124 : Int) ≤ b))) (ag := true) (c := (decide ((124 : Int) ≤ b))) (v := (.int .i64 b)) hf rfl rfl rfl (fun hact => (r_move rfl)) rfl rfl ?_; clear hf fa; intro fa hf
  refine sqgT (act := (decide ((124 : Int) ≤ b))) (ag := true) (c := (decide ((124 : Int) ≤ b))) (v := (.bool (decide (b ≤ (127 : Int))))) hf rfl rfl rfl (fun hact => (r_le (gb_ev hact rfl) rfl)) rfl rfl ?_; clear hf fa; intro fa hf
  refine sqv hf (r_pickA (b := (decide ((124 : Int) ≤ b))) (e := (decide (b ≤ (127 : Int)))) rfl rfl rfl) rfl rfl rfl ?_; clear hf fa; intro fa hf
  apply wpList_nil
  (try simp only [Exit.then, Exit.inBlock, ↓reduceIte, Nat.reduceEqDiff])
  refine hK4 _ _ ?_
  refine wp_cond_split (t := ((decide ((124 : Int) ≤ b)) && (decide (b ≤ (127 : Int))))) (hf.ev rfl) (fun hqt10_1 => ?_) (fun hqt10_1 => ?_)
  · have hqt10_1b := hqt10_1
    try simp only [decide_eq_true_eq, Bool.and_eq_true, Bool.or_eq_true, Bool.not_eq_true', decide_eq_false_iff_not, ne_eq, Bool.not_eq_true] at hqt10_1
    refine wp_seq_k (fun K5 hK5 => ?_)
    have hkk : 124 ≤ b ∧ b ≤ 127 := by have h := hqt10_1; omega
    have hr1 := Row.of_new (k := 1) (V := vStr) (l := [(⟨#[105, 51, 50]⟩ : ByteArray), (⟨#[105, 54, 52]⟩ : ByteArray), (⟨#[102, 51, 50]⟩ : ByteArray), (⟨#[102, 54, 52]⟩ : ByteArray)]) (base := w.heap.size) hk1 (by omega) rfl rfl (Nat.le_of_ble_eq_true rfl)
    skip
    refine wp_region_lit ?_
    refine sqv hf (r_move rfl) rfl rfl rfl ?_; clear hf fa; intro fa hf
    refine sqv hf (r_move rfl) rfl rfl rfl ?_; clear hf fa; intro fa hf
    refine sqv hf (r_sub (C := ((127 : Int) - b)) rfl rfl (by rw [IntKind.wrap_i64]; omega)) rfl rfl rfl ?_; clear hf fa; intro fa hf
    have hy1 : ([(⟨#[105, 51, 50]⟩ : ByteArray), (⟨#[105, 54, 52]⟩ : ByteArray), (⟨#[102, 51, 50]⟩ : ByteArray), (⟨#[102, 54, 52]⟩ : ByteArray)])[(127 - (b).toNat)]? = some (tnameP b) := (tnL_at b hkk)
    have hel1 := RdS.at (Row.rd (by intros; rfl) hr1) hy1
    obtain ⟨_, _, hab, hlr1, hel1⟩ := hel1
    cases hab
    refine sqv hf (r_ixa (sz := 1) (j := (127 - (b).toNat)) rfl rfl Tryd.underlying43 (by kernel_rfl) (by omega) (by omega) rfl) rfl rfl rfl ?_; clear hf fa; intro fa hf
    refine sqv hf (r_load (v := (.string (tnameP b))) rfl Tryd.underlying9 rfl (cellsAt_cell hel1 (i := 0) rfl rfl)) rfl rfl rfl ?_; clear hf fa; intro fa hf
    refine sqv hf (r_assign rfl) rfl rfl rfl ?_; clear hf fa; intro fa hf
    apply wpList_nil
    (try simp only [Exit.then, Exit.inBlock, ↓reduceIte, Nat.reduceEqDiff])
    refine hK5 _ _ ?_
    refine wp_ret ?_
    (try simp only [Exit.then, Exit.inBlock])
    refine ret1 hf rfl rfl ?_
    refine ⟨congrArg (fun s => Ending.returned (.string s)) ?_, hb⟩; rfl
  · have hqt10_1b := hqt10_1
    replace hqt10_1 := Bool.eq_false_iff.1 hqt10_1
    try simp only [ne_eq, decide_eq_true_eq, Bool.and_eq_true, Bool.or_eq_true, Bool.not_eq_true', decide_eq_false_iff_not] at hqt10_1
    refine wp_skip ?_
    (try simp only [Exit.then, Exit.inBlock, ↓reduceIte, Nat.reduceEqDiff])
    refine hK3 _ _ ?_
    refine wp_seq_k (fun K6 hK6 => ?_)
    refine wp_seq_k (fun K7 hK7 => ?_)
    refine wp_region_lit ?_
    refine sqv hf (r_move rfl) rfl rfl rfl ?_; clear hf fa; intro fa hf
    refine sqv hf (r_eq rfl rfl) rfl rfl rfl ?_; clear hf fa; intro fa hf
    apply wpList_nil
    (try simp only [Exit.then, Exit.inBlock, ↓reduceIte, Nat.reduceEqDiff])
    refine hK7 _ _ ?_
    refine wp_cond_split (t := (decide (b = (112 : Int)))) (hf.ev rfl) (fun hqt17_1 => ?_) (fun hqt17_1 => ?_)
    · have hqt17_1b := hqt17_1
      try simp only [decide_eq_true_eq, Bool.and_eq_true, Bool.or_eq_true, Bool.not_eq_true', decide_eq_false_iff_not, ne_eq, Bool.not_eq_true] at hqt17_1
      refine wp_seq_k (fun K8 hK8 => ?_)
      refine wp_region_lit ?_
      refine sqv hf (r_assign rfl) rfl rfl rfl ?_; clear hf fa; intro fa hf
      apply wpList_nil
      (try simp only [Exit.then, Exit.inBlock, ↓reduceIte, Nat.reduceEqDiff])
      refine hK8 _ _ ?_
      refine wp_ret ?_
      (try simp only [Exit.then, Exit.inBlock])
      refine ret1 hf rfl rfl ?_
      refine ⟨congrArg (fun s => Ending.returned (.string s)) ?_, hb⟩; rw [hqt17_1]; rfl
    · have hqt17_1b := hqt17_1
      replace hqt17_1 := Bool.eq_false_iff.1 hqt17_1
      try simp only [ne_eq, decide_eq_true_eq, Bool.and_eq_true, Bool.or_eq_true, Bool.not_eq_true', decide_eq_false_iff_not] at hqt17_1
      refine wp_skip ?_
      (try simp only [Exit.then, Exit.inBlock, ↓reduceIte, Nat.reduceEqDiff])
      refine hK6 _ _ ?_
      refine wp_seq_k (fun K9 hK9 => ?_)
      refine wp_region_lit ?_
      refine sqv hf (r_assign rfl) rfl rfl rfl ?_; clear hf fa; intro fa hf
      apply wpList_nil
      (try simp only [Exit.then, Exit.inBlock, ↓reduceIte, Nat.reduceEqDiff])
      refine hK9 _ _ ?_
      refine wp_ret ?_
      (try simp only [Exit.then, Exit.inBlock])
      refine ret1 hf rfl rfl ?_
      refine ⟨congrArg (fun s => Ending.returned (.string s)) ?_, hb⟩; exact (tname_no b (by have h := hqt10_1; omega) hqt17_1).symm

def valP (b : Int) : Int := if b = 127 ∨ b = 126 then 0 else if b = 125 ∨ b = 124 then 8 else 7

set_option maxHeartbeats 1000000 in
set_option maxRecDepth 100000 in
theorem tval_any (b : Int) (w : World) : Calls Tryd.prog 72 #[(.int .u8 b)] w fun e w' => e = .returned (.int .i64 (valP b)) ∧ Below w.heap.size w w' := by
  refine sx_enter (L := [(0, (.int .u8 b))]) Tryd.func72 rfl rfl rfl rfl (fun fa hf => ?_)
  have hb : Below w.heap.size w w := Below.refl _ _
  refine wp_seq_k (fun K1 hK1 => ?_)
  refine wp_region_lit ?_
  refine sqv hf (r_assign rfl) rfl rfl rfl ?_; clear hf fa; intro fa hf
  apply wpList_nil
  (try simp only [Exit.then, Exit.inBlock, ↓reduceIte, Nat.reduceEqDiff])
  refine hK1 _ _ ?_
  refine wp_seq_k (fun K2 hK2 => ?_)
  refine wp_seq_k (fun K3 hK3 => ?_)
  refine wp_region_lit ?_
  refine sqv hf (r_move rfl) rfl rfl rfl ?_; clear hf fa; intro fa hf
  apply wpList_nil
  (try simp only [Exit.then, Exit.inBlock, ↓reduceIte, Nat.reduceEqDiff])
  refine hK3 _ _ ?_
  refine wp_block ?_
  refine wp_seq_k (fun K4 hK4 => ?_)
  refine wp_seq_k (fun K5 hK5 => ?_)
  refine wp_region_lit ?_
  refine sqv hf (r_eq rfl rfl) rfl rfl rfl ?_; clear hf fa; intro fa hf
  refine sqv hf (r_assign rfl) rfl rfl rfl ?_; clear hf fa; intro fa hf
  apply wpList_nil
  (try simp only [Exit.then, Exit.inBlock, ↓reduceIte, Nat.reduceEqDiff])
  refine hK5 _ _ ?_
  refine wp_cond_split (t := (decide (b = (127 : Int)))) (hf.ev rfl) (fun hqt4_1 => ?_) (fun hqt4_1 => ?_)
  · have hqt4_1b := hqt4_1
    try simp only [decide_eq_true_eq, Bool.and_eq_true, Bool.or_eq_true, Bool.not_eq_true', decide_eq_false_iff_not, ne_eq, Bool.not_eq_true] at hqt4_1
    refine wp_skip ?_
    (try simp only [Exit.then, Exit.inBlock, ↓reduceIte, Nat.reduceEqDiff])
    refine hK4 _ _ ?_
    refine wp_cond_true ((hf.ev rfl).trans (congrArg Value.bool (show (decide (b = (127 : Int))) = true from hqt4_1b))) ?_
    refine wp_seq_k (fun K6 hK6 => ?_)
    refine wp_region_lit ?_
    refine sqv hf (r_assign rfl) rfl rfl rfl ?_; clear hf fa; intro fa hf
    apply wpList_nil
    (try simp only [Exit.then, Exit.inBlock, ↓reduceIte, Nat.reduceEqDiff])
    refine hK6 _ _ ?_
    refine wp_ret ?_
    (try simp only [Exit.then, Exit.inBlock])
    refine ret1 hf rfl rfl ?_
    refine ⟨congrArg (fun n => Ending.returned (.int .i64 n)) ?_, hb⟩; unfold valP; (repeat' split) <;> omega
  · have hqt4_1b := hqt4_1
    replace hqt4_1 := Bool.eq_false_iff.1 hqt4_1
    try simp only [ne_eq, decide_eq_true_eq, Bool.and_eq_true, Bool.or_eq_true, Bool.not_eq_true', decide_eq_false_iff_not] at hqt4_1
    refine wp_region_lit ?_
    refine sqv hf (r_eq rfl rfl) rfl rfl rfl ?_; clear hf fa; intro fa hf
    refine sqv hf (r_assign rfl) rfl rfl rfl ?_; clear hf fa; intro fa hf
    apply wpList_nil
    (try simp only [Exit.then, Exit.inBlock, ↓reduceIte, Nat.reduceEqDiff])
    refine hK4 _ _ ?_
    refine wp_cond_split (t := (decide (b = (126 : Int)))) (hf.ev rfl) (fun hqt4_3 => ?_) (fun hqt4_3 => ?_)
    · have hqt4_3b := hqt4_3
      try simp only [decide_eq_true_eq, Bool.and_eq_true, Bool.or_eq_true, Bool.not_eq_true', decide_eq_false_iff_not, ne_eq, Bool.not_eq_true] at hqt4_3
      refine wp_seq_k (fun K7 hK7 => ?_)
      refine wp_region_lit ?_
      refine sqv hf (r_assign rfl) rfl rfl rfl ?_; clear hf fa; intro fa hf
      apply wpList_nil
      (try simp only [Exit.then, Exit.inBlock, ↓reduceIte, Nat.reduceEqDiff])
      refine hK7 _ _ ?_
      refine wp_ret ?_
      (try simp only [Exit.then, Exit.inBlock])
      refine ret1 hf rfl rfl ?_
      refine ⟨congrArg (fun n => Ending.returned (.int .i64 n)) ?_, hb⟩; unfold valP; (repeat' split) <;> omega
    · have hqt4_3b := hqt4_3
      replace hqt4_3 := Bool.eq_false_iff.1 hqt4_3
      try simp only [ne_eq, decide_eq_true_eq, Bool.and_eq_true, Bool.or_eq_true, Bool.not_eq_true', decide_eq_false_iff_not] at hqt4_3
      refine wp_seq_k (fun K8 hK8 => ?_)
      refine wp_seq_k (fun K9 hK9 => ?_)
      refine wp_region_lit ?_
      refine sqv hf (r_eq rfl rfl) rfl rfl rfl ?_; clear hf fa; intro fa hf
      refine sqv hf (r_assign rfl) rfl rfl rfl ?_; clear hf fa; intro fa hf
      apply wpList_nil
      (try simp only [Exit.then, Exit.inBlock, ↓reduceIte, Nat.reduceEqDiff])
      refine hK9 _ _ ?_
      refine wp_cond_split (t := (decide (b = (125 : Int)))) (hf.ev rfl) (fun hqt7_1 => ?_) (fun hqt7_1 => ?_)
      · have hqt7_1b := hqt7_1
        try simp only [decide_eq_true_eq, Bool.and_eq_true, Bool.or_eq_true, Bool.not_eq_true', decide_eq_false_iff_not, ne_eq, Bool.not_eq_true] at hqt7_1
        refine wp_skip ?_
        (try simp only [Exit.then, Exit.inBlock, ↓reduceIte, Nat.reduceEqDiff])
        refine hK8 _ _ ?_
        refine wp_cond_true ((hf.ev rfl).trans (congrArg Value.bool (show (decide (b = (125 : Int))) = true from hqt7_1b))) ?_
        refine wp_seq_k (fun K10 hK10 => ?_)
        refine wp_region_lit ?_
        refine sqv hf (r_assign rfl) rfl rfl rfl ?_; clear hf fa; intro fa hf
        apply wpList_nil
        (try simp only [Exit.then, Exit.inBlock, ↓reduceIte, Nat.reduceEqDiff])
        refine hK10 _ _ ?_
        refine wp_ret ?_
        (try simp only [Exit.then, Exit.inBlock])
        refine ret1 hf rfl rfl ?_
        refine ⟨congrArg (fun n => Ending.returned (.int .i64 n)) ?_, hb⟩; unfold valP; (repeat' split) <;> omega
      · have hqt7_1b := hqt7_1
        replace hqt7_1 := Bool.eq_false_iff.1 hqt7_1
        try simp only [ne_eq, decide_eq_true_eq, Bool.and_eq_true, Bool.or_eq_true, Bool.not_eq_true', decide_eq_false_iff_not] at hqt7_1
        refine wp_region_lit ?_
        refine sqv hf (r_eq rfl rfl) rfl rfl rfl ?_; clear hf fa; intro fa hf
        refine sqv hf (r_assign rfl) rfl rfl rfl ?_; clear hf fa; intro fa hf
        apply wpList_nil
        (try simp only [Exit.then, Exit.inBlock, ↓reduceIte, Nat.reduceEqDiff])
        refine hK8 _ _ ?_
        refine wp_cond_split (t := (decide (b = (124 : Int)))) (hf.ev rfl) (fun hqt7_3 => ?_) (fun hqt7_3 => ?_)
        · have hqt7_3b := hqt7_3
          try simp only [decide_eq_true_eq, Bool.and_eq_true, Bool.or_eq_true, Bool.not_eq_true', decide_eq_false_iff_not, ne_eq, Bool.not_eq_true] at hqt7_3
          refine wp_seq_k (fun K11 hK11 => ?_)
          refine wp_region_lit ?_
          refine sqv hf (r_assign rfl) rfl rfl rfl ?_; clear hf fa; intro fa hf
          apply wpList_nil
          (try simp only [Exit.then, Exit.inBlock, ↓reduceIte, Nat.reduceEqDiff])
          refine hK11 _ _ ?_
          refine wp_ret ?_
          (try simp only [Exit.then, Exit.inBlock])
          refine ret1 hf rfl rfl ?_
          refine ⟨congrArg (fun n => Ending.returned (.int .i64 n)) ?_, hb⟩; unfold valP; (repeat' split) <;> omega
        · have hqt7_3b := hqt7_3
          replace hqt7_3 := Bool.eq_false_iff.1 hqt7_3
          try simp only [ne_eq, decide_eq_true_eq, Bool.and_eq_true, Bool.or_eq_true, Bool.not_eq_true', decide_eq_false_iff_not] at hqt7_3
          refine wp_skip ?_
          (try simp only [Exit.then, Exit.inBlock, ↓reduceIte, Nat.reduceEqDiff])
          refine hK2 _ _ ?_
          refine wp_seq_k (fun K12 hK12 => ?_)
          refine wp_region_lit ?_
          refine sqv hf (r_assign rfl) rfl rfl rfl ?_; clear hf fa; intro fa hf
          apply wpList_nil
          (try simp only [Exit.then, Exit.inBlock, ↓reduceIte, Nat.reduceEqDiff])
          refine hK12 _ _ ?_
          refine wp_ret ?_
          (try simp only [Exit.then, Exit.inBlock])
          refine ret1 hf rfl rfl ?_
          refine ⟨congrArg (fun n => Ending.returned (.int .i64 n)) ?_, hb⟩; unfold valP; (repeat' split) <;> omega

set_option maxHeartbeats 1000000 in
set_option maxRecDepth 100000 in
theorem rval_any (b : Int) (w : World) : Calls Tryd.prog 30 #[(.int .i64 b)] w fun e w' => e = .returned (.int .i64 (valP b)) ∧ Below w.heap.size w w' := by
  refine sx_enter (L := [(0, (.int .i64 b))]) Tryd.func30 rfl rfl rfl rfl (fun fa hf => ?_)
  have hb : Below w.heap.size w w := Below.refl _ _
  refine wp_seq_k (fun K1 hK1 => ?_)
  refine wp_region_lit ?_
  refine sqv hf (r_assign rfl) rfl rfl rfl ?_; clear hf fa; intro fa hf
  apply wpList_nil
  (try simp only [Exit.then, Exit.inBlock, ↓reduceIte, Nat.reduceEqDiff])
  refine hK1 _ _ ?_
  refine wp_seq_k (fun K2 hK2 => ?_)
  refine wp_seq_k (fun K3 hK3 => ?_)
  refine wp_region_lit ?_
  refine sqv hf (r_move rfl) rfl rfl rfl ?_; clear hf fa; intro fa hf
  refine sqv hf (r_eq rfl rfl) rfl rfl rfl ?_; clear hf fa; intro fa hf
  refine sqv hf (r_move rfl) rfl rfl rfl ?_; clear hf fa; intro fa hf
  refine sqgF (act := (!(decide (b = (127 : Int))))) (ag := true) (c := (decide (b = (127 : Int)))) (v := (.int .i64 b)) hf rfl rfl rfl (fun hact => (r_move rfl)) rfl rfl ?_; clear hf fa; intro fa hf
  refine sqgF (act := (!(decide (b = (127 : Int))))) (ag := true) (c := (decide (b = (127 : Int)))) (v := (.bool (decide (b = (126 : Int))))) hf rfl rfl rfl (fun hact => (r_eq (gb_ev hact rfl) rfl)) rfl rfl ?_; clear hf fa; intro fa hf
  refine sqv hf (r_pickO (b := (decide (b = (127 : Int)))) (e := (decide (b = (126 : Int)))) rfl rfl rfl) rfl rfl rfl ?_; clear hf fa; intro fa hf
  apply wpList_nil
  (try simp only [Exit.then, Exit.inBlock, ↓reduceIte, Nat.reduceEqDiff])
  refine hK3 _ _ ?_
  refine wp_cond_split (t := ((decide (b = (127 : Int))) || (decide (b = (126 : Int))))) (hf.ev rfl) (fun hqt8_1 => ?_) (fun hqt8_1 => ?_)
  · have hqt8_1b := hqt8_1
    try simp only [decide_eq_true_eq, Bool.and_eq_true, Bool.or_eq_true, Bool.not_eq_true', decide_eq_false_iff_not, ne_eq, Bool.not_eq_true] at hqt8_1
    refine wp_seq_k (fun K4 hK4 => ?_)
    refine wp_region_lit ?_
    refine sqv hf (r_assign rfl) rfl rfl rfl ?_; clear hf fa; intro fa hf
    apply wpList_nil
    (try simp only [Exit.then, Exit.inBlock, ↓reduceIte, Nat.reduceEqDiff])
    refine hK4 _ _ ?_
    refine wp_ret ?_
    (try simp only [Exit.then, Exit.inBlock])
    refine ret1 hf rfl rfl ?_
    refine ⟨congrArg (fun n => Ending.returned (.int .i64 n)) ?_, hb⟩; unfold valP; (repeat' split) <;> omega
  · have hqt8_1b := hqt8_1
    replace hqt8_1 := Bool.eq_false_iff.1 hqt8_1
    try simp only [ne_eq, decide_eq_true_eq, Bool.and_eq_true, Bool.or_eq_true, Bool.not_eq_true', decide_eq_false_iff_not] at hqt8_1
    refine wp_skip ?_
    (try simp only [Exit.then, Exit.inBlock, ↓reduceIte, Nat.reduceEqDiff])
    refine hK2 _ _ ?_
    refine wp_seq_k (fun K5 hK5 => ?_)
    refine wp_seq_k (fun K6 hK6 => ?_)
    refine wp_region_lit ?_
    refine sqv hf (r_move rfl) rfl rfl rfl ?_; clear hf fa; intro fa hf
    refine sqv hf (r_eq rfl rfl) rfl rfl rfl ?_; clear hf fa; intro fa hf
    refine sqv hf (r_move rfl) rfl rfl rfl ?_; clear hf fa; intro fa hf
    refine sqgF (act := (!(decide (b = (125 : Int))))) (ag := true) (c := (decide (b = (125 : Int)))) (v := (.int .i64 b)) hf rfl rfl rfl (fun hact => (r_move rfl)) rfl rfl ?_; clear hf fa; intro fa hf
    refine sqgF (act := (!(decide (b = (125 : Int))))) (ag := true) (c := (decide (b = (125 : Int)))) (v := (.bool (decide (b = (124 : Int))))) hf rfl rfl rfl (fun hact => (r_eq (gb_ev hact rfl) rfl)) rfl rfl ?_; clear hf fa; intro fa hf
    refine sqv hf (r_pickO (b := (decide (b = (125 : Int)))) (e := (decide (b = (124 : Int)))) rfl rfl rfl) rfl rfl rfl ?_; clear hf fa; intro fa hf
    apply wpList_nil
    (try simp only [Exit.then, Exit.inBlock, ↓reduceIte, Nat.reduceEqDiff])
    refine hK6 _ _ ?_
    refine wp_cond_split (t := ((decide (b = (125 : Int))) || (decide (b = (124 : Int))))) (hf.ev rfl) (fun hqt14_1 => ?_) (fun hqt14_1 => ?_)
    · have hqt14_1b := hqt14_1
      try simp only [decide_eq_true_eq, Bool.and_eq_true, Bool.or_eq_true, Bool.not_eq_true', decide_eq_false_iff_not, ne_eq, Bool.not_eq_true] at hqt14_1
      refine wp_seq_k (fun K7 hK7 => ?_)
      refine wp_region_lit ?_
      refine sqv hf (r_assign rfl) rfl rfl rfl ?_; clear hf fa; intro fa hf
      apply wpList_nil
      (try simp only [Exit.then, Exit.inBlock, ↓reduceIte, Nat.reduceEqDiff])
      refine hK7 _ _ ?_
      refine wp_ret ?_
      (try simp only [Exit.then, Exit.inBlock])
      refine ret1 hf rfl rfl ?_
      refine ⟨congrArg (fun n => Ending.returned (.int .i64 n)) ?_, hb⟩; unfold valP; (repeat' split) <;> omega
    · have hqt14_1b := hqt14_1
      replace hqt14_1 := Bool.eq_false_iff.1 hqt14_1
      try simp only [ne_eq, decide_eq_true_eq, Bool.and_eq_true, Bool.or_eq_true, Bool.not_eq_true', decide_eq_false_iff_not] at hqt14_1
      refine wp_skip ?_
      (try simp only [Exit.then, Exit.inBlock, ↓reduceIte, Nat.reduceEqDiff])
      refine hK5 _ _ ?_
      refine wp_seq_k (fun K8 hK8 => ?_)
      refine wp_region_lit ?_
      refine sqv hf (r_assign rfl) rfl rfl rfl ?_; clear hf fa; intro fa hf
      apply wpList_nil
      (try simp only [Exit.then, Exit.inBlock, ↓reduceIte, Nat.reduceEqDiff])
      refine hK8 _ _ ?_
      refine wp_ret ?_
      (try simp only [Exit.then, Exit.inBlock])
      refine ret1 hf rfl rfl ?_
      refine ⟨congrArg (fun n => Ending.returned (.int .i64 n)) ?_, hb⟩; unfold valP; (repeat' split) <;> omega

set_option maxHeartbeats 1000000 in
set_option maxRecDepth 100000 in
theorem iblk_any (A : Int) (w : World) (hA : 0 ≤ A ∧ A < 18446744073709551616) : Calls Tryd.prog 44 #[(.int .u64 A)] w fun e w' => e = .returned (.int .i64 (blkP A)) ∧ Below w.heap.size w w' := by
  refine sx_enter (L := [(0, (.int .u64 A))]) Tryd.func44 rfl rfl rfl rfl (fun fa hf => ?_)
  have hb : Below w.heap.size w w := Below.refl _ _
  refine wp_seq_k (fun K1 hK1 => ?_)
  refine wp_region_lit ?_
  refine sqv hf (r_assign rfl) rfl rfl rfl ?_; clear hf fa; intro fa hf
  apply wpList_nil
  (try simp only [Exit.then, Exit.inBlock, ↓reduceIte, Nat.reduceEqDiff])
  refine hK1 _ _ ?_
  refine wp_seq_k (fun K2 hK2 => ?_)
  refine wp_block ?_
  refine wp_seq_k (fun K3 hK3 => ?_)
  refine wp_region_lit ?_
  refine sqv hf (r_move rfl) rfl rfl rfl ?_; clear hf fa; intro fa hf
  refine sqv hf (r_eq rfl rfl) rfl rfl rfl ?_; clear hf fa; intro fa hf
  refine sqv hf (r_assign rfl) rfl rfl rfl ?_; clear hf fa; intro fa hf
  apply wpList_nil
  (try simp only [Exit.then, Exit.inBlock, ↓reduceIte, Nat.reduceEqDiff])
  refine hK3 _ _ ?_
  refine wp_cond_split (t := (decide (A = (64 : Int)))) (hf.ev rfl) (fun hqt3_1 => ?_) (fun hqt3_1 => ?_)
  · have hqt3_1b := hqt3_1
    try simp only [decide_eq_true_eq, Bool.and_eq_true, Bool.or_eq_true, Bool.not_eq_true', decide_eq_false_iff_not, ne_eq, Bool.not_eq_true] at hqt3_1
    refine wp_seq_k (fun K4 hK4 => ?_)
    refine wp_region_lit ?_
    refine sqv hf (r_assign rfl) rfl rfl rfl ?_; clear hf fa; intro fa hf
    apply wpList_nil
    (try simp only [Exit.then, Exit.inBlock, ↓reduceIte, Nat.reduceEqDiff])
    refine hK4 _ _ ?_
    refine wp_ret ?_
    (try simp only [Exit.then, Exit.inBlock])
    refine ret1 hf rfl rfl ?_
    refine ⟨congrArg (fun n => Ending.returned (.int .i64 n)) ?_, hb⟩; unfold blkP; (repeat' split) <;> omega
  · have hqt3_1b := hqt3_1
    replace hqt3_1 := Bool.eq_false_iff.1 hqt3_1
    try simp only [ne_eq, decide_eq_true_eq, Bool.and_eq_true, Bool.or_eq_true, Bool.not_eq_true', decide_eq_false_iff_not] at hqt3_1
    refine wp_seq_k (fun K5 hK5 => ?_)
    refine wp_region_lit ?_
    refine sqv hf (r_move rfl) rfl rfl rfl ?_; clear hf fa; intro fa hf
    refine sqv hf (r_gt rfl rfl) rfl rfl rfl ?_; clear hf fa; intro fa hf
    refine sqv hf (r_assign rfl) rfl rfl rfl ?_; clear hf fa; intro fa hf
    apply wpList_nil
    (try simp only [Exit.then, Exit.inBlock, ↓reduceIte, Nat.reduceEqDiff])
    refine hK5 _ _ ?_
    refine wp_cond_split (t := (decide ((255 : Int) < A))) (hf.ev rfl) (fun hqt6_1 => ?_) (fun hqt6_1 => ?_)
    · have hqt6_1b := hqt6_1
      try simp only [decide_eq_true_eq, Bool.and_eq_true, Bool.or_eq_true, Bool.not_eq_true', decide_eq_false_iff_not, ne_eq, Bool.not_eq_true] at hqt6_1
      refine wp_seq_k (fun K6 hK6 => ?_)
      refine wp_region_lit ?_
      refine sqv hf (r_assign rfl) rfl rfl rfl ?_; clear hf fa; intro fa hf
      apply wpList_nil
      (try simp only [Exit.then, Exit.inBlock, ↓reduceIte, Nat.reduceEqDiff])
      refine hK6 _ _ ?_
      refine wp_ret ?_
      (try simp only [Exit.then, Exit.inBlock])
      refine ret1 hf rfl rfl ?_
      refine ⟨congrArg (fun n => Ending.returned (.int .i64 n)) ?_, hb⟩; unfold blkP; (repeat' split) <;> omega
    · have hqt6_1b := hqt6_1
      replace hqt6_1 := Bool.eq_false_iff.1 hqt6_1
      try simp only [ne_eq, decide_eq_true_eq, Bool.and_eq_true, Bool.or_eq_true, Bool.not_eq_true', decide_eq_false_iff_not] at hqt6_1
      refine wp_skip ?_
      (try simp only [Exit.then, Exit.inBlock, ↓reduceIte, Nat.reduceEqDiff])
      refine hK2 _ _ ?_
      refine wp_seq_k (fun K7 hK7 => ?_)
      refine wp_region_lit ?_
      refine sqv hf (r_move rfl) rfl rfl rfl ?_; clear hf fa; intro fa hf
      refine sqv hf (r_conv (C := A) rfl Tryd.underlying22 Tryd.underlying5 (by rw [IntKind.wrap_u8]; omega)) rfl rfl rfl ?_; clear hf fa; intro fa hf
      refine sqdt hf (d_callB (vs := [(.int .u8 A)]) rfl Tryd.func72 (by kernel_rfl) (by kernel_rfl) (tval_any A _)) rfl rfl rfl ?_; clear hf fa; rintro fa _ w1 ⟨rfl, he1⟩ hf
      replace hb := hb.trans (Below.mono he1 hb.size)
      refine sqv hf (r_assign rfl) rfl rfl rfl ?_; clear hf fa; intro fa hf
      apply wpList_nil
      (try simp only [Exit.then, Exit.inBlock, ↓reduceIte, Nat.reduceEqDiff])
      refine hK7 _ _ ?_
      refine wp_ret ?_
      (try simp only [Exit.then, Exit.inBlock])
      refine ret1 hf rfl rfl ?_
      refine ⟨congrArg (fun n => Ending.returned (.int .i64 n)) ?_, hb⟩; unfold blkP; unfold valP; (repeat' split) <;> omega

def unlP (b : Bool) : Int := if b = true then 0 else 1

set_option maxHeartbeats 1000000 in
set_option maxRecDepth 100000 in
theorem unl_any (b : Bool) (w : World) : Calls Tryd.prog 43 #[(.bool b)] w fun e w' => e = .returned (.int .i64 (unlP b)) ∧ Below w.heap.size w w' := by
  refine sx_enter (L := [(0, (.bool b))]) Tryd.func43 rfl rfl rfl rfl (fun fa hf => ?_)
  have hb : Below w.heap.size w w := Below.refl _ _
  refine wp_seq_k (fun K1 hK1 => ?_)
  refine wp_region_lit ?_
  refine sqv hf (r_assign rfl) rfl rfl rfl ?_; clear hf fa; intro fa hf
  apply wpList_nil
  (try simp only [Exit.then, Exit.inBlock, ↓reduceIte, Nat.reduceEqDiff])
  refine hK1 _ _ ?_
  refine wp_seq_k (fun K2 hK2 => ?_)
  refine wp_seq_k (fun K3 hK3 => ?_)
  refine wp_region_lit ?_
  refine sqv hf (r_move rfl) rfl rfl rfl ?_; clear hf fa; intro fa hf
  apply wpList_nil
  (try simp only [Exit.then, Exit.inBlock, ↓reduceIte, Nat.reduceEqDiff])
  refine hK3 _ _ ?_
  refine wp_cond_split (t := b) (hf.ev rfl) (fun hqt3_1 => ?_) (fun hqt3_1 => ?_)
  · have hqt3_1b := hqt3_1
    try simp only [decide_eq_true_eq, Bool.and_eq_true, Bool.or_eq_true, Bool.not_eq_true', decide_eq_false_iff_not, ne_eq, Bool.not_eq_true] at hqt3_1
    refine wp_seq_k (fun K4 hK4 => ?_)
    refine wp_region_lit ?_
    refine sqv hf (r_assign rfl) rfl rfl rfl ?_; clear hf fa; intro fa hf
    apply wpList_nil
    (try simp only [Exit.then, Exit.inBlock, ↓reduceIte, Nat.reduceEqDiff])
    refine hK4 _ _ ?_
    refine wp_ret ?_
    (try simp only [Exit.then, Exit.inBlock])
    refine ret1 hf rfl rfl ?_
    refine ⟨congrArg (fun n => Ending.returned (.int .i64 n)) ?_, hb⟩; unfold unlP; rw [if_pos hqt3_1]
  · have hqt3_1b := hqt3_1
    replace hqt3_1 := Bool.eq_false_iff.1 hqt3_1
    try simp only [ne_eq, decide_eq_true_eq, Bool.and_eq_true, Bool.or_eq_true, Bool.not_eq_true', decide_eq_false_iff_not] at hqt3_1
    refine wp_skip ?_
    (try simp only [Exit.then, Exit.inBlock, ↓reduceIte, Nat.reduceEqDiff])
    refine hK2 _ _ ?_
    refine wp_seq_k (fun K5 hK5 => ?_)
    refine wp_region_lit ?_
    refine sqv hf (r_assign rfl) rfl rfl rfl ?_; clear hf fa; intro fa hf
    apply wpList_nil
    (try simp only [Exit.then, Exit.inBlock, ↓reduceIte, Nat.reduceEqDiff])
    refine hK5 _ _ ?_
    refine wp_ret ?_
    (try simp only [Exit.then, Exit.inBlock])
    refine ret1 hf rfl rfl ?_
    refine ⟨congrArg (fun n => Ending.returned (.int .i64 n)) ?_, hb⟩; unfold unlP; rw [if_neg hqt3_1]

def mnyP (b : Int) : Int := if b = 3 then 29 else 1

set_option maxHeartbeats 1000000 in
set_option maxRecDepth 100000 in
theorem mny_any (b : Int) (w : World) : Calls Tryd.prog 42 #[(.int .i64 b)] w fun e w' => e = .returned (.int .i64 (mnyP b)) ∧ Below w.heap.size w w' := by
  refine sx_enter (L := [(0, (.int .i64 b))]) Tryd.func42 rfl rfl rfl rfl (fun fa hf => ?_)
  have hb : Below w.heap.size w w := Below.refl _ _
  refine wp_seq_k (fun K1 hK1 => ?_)
  refine wp_region_lit ?_
  refine sqv hf (r_assign rfl) rfl rfl rfl ?_; clear hf fa; intro fa hf
  apply wpList_nil
  (try simp only [Exit.then, Exit.inBlock, ↓reduceIte, Nat.reduceEqDiff])
  refine hK1 _ _ ?_
  refine wp_seq_k (fun K2 hK2 => ?_)
  refine wp_seq_k (fun K3 hK3 => ?_)
  refine wp_region_lit ?_
  refine sqv hf (r_move rfl) rfl rfl rfl ?_; clear hf fa; intro fa hf
  refine sqv hf (r_eq rfl rfl) rfl rfl rfl ?_; clear hf fa; intro fa hf
  apply wpList_nil
  (try simp only [Exit.then, Exit.inBlock, ↓reduceIte, Nat.reduceEqDiff])
  refine hK3 _ _ ?_
  refine wp_cond_split (t := (decide (b = (3 : Int)))) (hf.ev rfl) (fun hqt4_1 => ?_) (fun hqt4_1 => ?_)
  · have hqt4_1b := hqt4_1
    try simp only [decide_eq_true_eq, Bool.and_eq_true, Bool.or_eq_true, Bool.not_eq_true', decide_eq_false_iff_not, ne_eq, Bool.not_eq_true] at hqt4_1
    refine wp_seq_k (fun K4 hK4 => ?_)
    refine wp_region_lit ?_
    refine sqv hf (r_assign rfl) rfl rfl rfl ?_; clear hf fa; intro fa hf
    apply wpList_nil
    (try simp only [Exit.then, Exit.inBlock, ↓reduceIte, Nat.reduceEqDiff])
    refine hK4 _ _ ?_
    refine wp_ret ?_
    (try simp only [Exit.then, Exit.inBlock])
    refine ret1 hf rfl rfl ?_
    refine ⟨congrArg (fun n => Ending.returned (.int .i64 n)) ?_, hb⟩; unfold mnyP; (repeat' split) <;> omega
  · have hqt4_1b := hqt4_1
    replace hqt4_1 := Bool.eq_false_iff.1 hqt4_1
    try simp only [ne_eq, decide_eq_true_eq, Bool.and_eq_true, Bool.or_eq_true, Bool.not_eq_true', decide_eq_false_iff_not] at hqt4_1
    refine wp_skip ?_
    (try simp only [Exit.then, Exit.inBlock, ↓reduceIte, Nat.reduceEqDiff])
    refine hK2 _ _ ?_
    refine wp_seq_k (fun K5 hK5 => ?_)
    refine wp_region_lit ?_
    refine sqv hf (r_assign rfl) rfl rfl rfl ?_; clear hf fa; intro fa hf
    apply wpList_nil
    (try simp only [Exit.then, Exit.inBlock, ↓reduceIte, Nat.reduceEqDiff])
    refine hK5 _ _ ?_
    refine wp_ret ?_
    (try simp only [Exit.then, Exit.inBlock])
    refine ret1 hf rfl rfl ?_
    refine ⟨congrArg (fun n => Ending.returned (.int .i64 n)) ?_, hb⟩; unfold mnyP; (repeat' split) <;> omega

set_option maxHeartbeats 1000000 in
set_option maxRecDepth 100000 in
theorem iright_any (op : Nat) (A B : Int) (L : List Int) (a : Option Addr) (c : Nat) (w : World) (hop : op < 256) (hA : 0 ≤ A ∧ A < 18446744073709551616) (hB : 0 ≤ B ∧ B < 18446744073709551616) (hc : L.length ≤ c) (hn : L.length ≤ 100000) : Calls Tryd.prog 19 #[(.agg #[(.int .u8 ((op : Nat) : Int)), (.int .u64 A), (.int .u64 B), (.slice a L.length c)])] w fun e w' => e = .returned (.int .i64 (rightP op A B L.length)) ∧ Below w.heap.size w w' := by
  refine sx_enter (L := [(0, (.agg #[(.int .u8 ((op : Nat) : Int)), (.int .u64 A), (.int .u64 B), (.slice a L.length c)]))]) Tryd.func19 rfl rfl rfl rfl (fun fa hf => ?_)
  have hb : Below w.heap.size w w := Below.refl _ _
  refine wp_seq_k (fun K1 hK1 => ?_)
  refine wp_region_lit ?_
  refine sqdt hf (d_box (cs := #[(.int .u8 ((op : Nat) : Int)), (.int .u64 A), (.int .u64 B), (.slice a L.length c)]) rfl rfl) rfl rfl rfl ?_; clear hf fa; rintro fa _ w1 ⟨b1, rfl, hle1, hk1, he1⟩ hf
  have hBb1 : w.heap.size ≤ b1 := Nat.le_trans hb.size hle1
  replace hb := hb.trans (Below.mono he1 hb.size)
  refine sqv hf (r_assign rfl) rfl rfl rfl ?_; clear hf fa; intro fa hf
  apply wpList_nil
  (try simp only [Exit.then, Exit.inBlock, ↓reduceIte, Nat.reduceEqDiff])
  refine hK1 _ _ ?_
  refine wp_seq_k (fun K2 hK2 => ?_)
  refine wp_seq_k (fun K3 hK3 => ?_)
  refine wp_region_lit ?_
  refine sqv hf (r_fa rfl Tryd.underlying25 (f := 0) (q := 0) rfl (by kernel_rfl) rfl) rfl rfl rfl ?_; clear hf fa; intro fa hf
  refine sqv hf (r_load (v := (.int .u8 ((op : Nat) : Int))) rfl Tryd.underlying5 rfl (cell_blk hk1 rfl)) rfl rfl rfl ?_; clear hf fa; intro fa hf
  refine sqdt hf (d_callB (vs := [(.int .u8 ((op : Nat) : Int))]) rfl Tryd.func41 (by kernel_rfl) (by kernel_rfl) (chk_any op _ hop)) rfl rfl rfl ?_; clear hf fa; rintro fa _ w2 ⟨rfl, he2⟩ hf
  replace hk1 := blk_ext hk1 he2
  replace hb := hb.trans (Below.mono he2 hb.size)
  refine sqv hf (r_assign rfl) rfl rfl rfl ?_; clear hf fa; intro fa hf
  apply wpList_nil
  (try simp only [Exit.then, Exit.inBlock, ↓reduceIte, Nat.reduceEqDiff])
  refine hK3 _ _ ?_
  refine wp_seq_k (fun K4 hK4 => ?_)
  refine wp_region_lit ?_
  refine sqv hf (r_move rfl) rfl rfl rfl ?_; clear hf fa; intro fa hf
  refine sqv hf (r_ne rfl rfl) rfl rfl rfl ?_; clear hf fa; intro fa hf
  apply wpList_nil
  (try simp only [Exit.then, Exit.inBlock, ↓reduceIte, Nat.reduceEqDiff])
  refine hK4 _ _ ?_
  refine wp_cond_split (t := (decide (((chkP op)) ≠ (0 : Int)))) (hf.ev rfl) (fun hqt9_1 => ?_) (fun hqt9_1 => ?_)
  · have hqt9_1b := hqt9_1
    try simp only [decide_eq_true_eq, Bool.and_eq_true, Bool.or_eq_true, Bool.not_eq_true', decide_eq_false_iff_not, ne_eq, Bool.not_eq_true] at hqt9_1
    refine wp_seq_k (fun K5 hK5 => ?_)
    refine wp_region_lit ?_
    refine sqv hf (r_move rfl) rfl rfl rfl ?_; clear hf fa; intro fa hf
    refine sqv hf (r_assign rfl) rfl rfl rfl ?_; clear hf fa; intro fa hf
    apply wpList_nil
    (try simp only [Exit.then, Exit.inBlock, ↓reduceIte, Nat.reduceEqDiff])
    refine hK5 _ _ ?_
    refine wp_ret ?_
    (try simp only [Exit.then, Exit.inBlock])
    refine ret1 hf rfl rfl ?_
    refine ⟨congrArg (fun n => Ending.returned (.int .i64 n)) ?_, hb⟩; unfold rightP; (repeat' split) <;> first | rfl | omega
  · have hqt9_1b := hqt9_1
    replace hqt9_1 := Bool.eq_false_iff.1 hqt9_1
    try simp only [ne_eq, decide_eq_true_eq, Bool.and_eq_true, Bool.or_eq_true, Bool.not_eq_true', decide_eq_false_iff_not] at hqt9_1
    refine wp_skip ?_
    (try simp only [Exit.then, Exit.inBlock, ↓reduceIte, Nat.reduceEqDiff])
    refine hK2 _ _ ?_
    refine wp_seq_k (fun K6 hK6 => ?_)
    refine wp_region_lit ?_
    refine sqv hf (r_fa rfl Tryd.underlying25 (f := 0) (q := 0) rfl (by kernel_rfl) rfl) rfl rfl rfl ?_; clear hf fa; intro fa hf
    refine sqv hf (r_load (v := (.int .u8 ((op : Nat) : Int))) rfl Tryd.underlying5 rfl (cell_blk hk1 rfl)) rfl rfl rfl ?_; clear hf fa; intro fa hf
    refine sqdt hf (d_callB (vs := [(.int .u8 ((op : Nat) : Int))]) rfl Tryd.func20 (by kernel_rfl) (by kernel_rfl) (inf_any op _ hop)) rfl rfl rfl ?_; clear hf fa; rintro fa _ w3 ⟨rfl, he3⟩ hf
    replace hk1 := blk_ext hk1 he3
    replace hb := hb.trans (Below.mono he3 hb.size)
    refine sqv hf (r_field (cs := #[(.string (infP op).1), (.int .i64 ((infP op).2.1)), (.string (infP op).2.2.1), (.string (infP op).2.2.2.1), (.bool (infP op).2.2.2.2.1)]) (v := (.int .i64 ((infP op).2.1))) rfl (fun _ => by kernel_rfl)) rfl rfl rfl ?_; clear hf fa; intro fa hf
    refine sqv hf (r_assign rfl) rfl rfl rfl ?_; clear hf fa; intro fa hf
    apply wpList_nil
    (try simp only [Exit.then, Exit.inBlock, ↓reduceIte, Nat.reduceEqDiff])
    refine hK6 _ _ ?_
    refine wp_seq_k (fun K7 hK7 => ?_)
    refine wp_seq_k (fun K8 hK8 => ?_)
    refine wp_region_lit ?_
    refine sqv hf (r_fa rfl Tryd.underlying25 (f := 3) (q := 3) rfl (by kernel_rfl) rfl) rfl rfl rfl ?_; clear hf fa; intro fa hf
    refine sqv hf (r_load (v := (.slice a L.length c)) rfl Tryd.underlying23 rfl (cell_blk hk1 rfl)) rfl rfl rfl ?_; clear hf fa; intro fa hf
    refine sqv hf (r_lensl rfl Tryd.underlying23) rfl rfl rfl ?_; clear hf fa; intro fa hf
    refine sqv hf (r_gt rfl rfl) rfl rfl rfl ?_; clear hf fa; intro fa hf
    refine sqv hf (r_move rfl) rfl rfl rfl ?_; clear hf fa; intro fa hf
    refine sqgT (act := (decide ((0 : Int) < ((L.length : Nat) : Int)))) (ag := true) (c := (decide ((0 : Int) < ((L.length : Nat) : Int)))) (v := (.int .i64 ((infP op).2.1))) hf rfl rfl rfl (fun hact => (r_move rfl)) rfl rfl ?_; clear hf fa; intro fa hf
    refine sqgT (act := (decide ((0 : Int) < ((L.length : Nat) : Int)))) (ag := true) (c := (decide ((0 : Int) < ((L.length : Nat) : Int)))) (v := (.bool (decide (((infP op).2.1) ≠ (3 : Int))))) hf rfl rfl rfl (fun hact => (r_ne (gb_ev hact rfl) rfl)) rfl rfl ?_; clear hf fa; intro fa hf
    refine sqv hf (r_pickA (b := (decide ((0 : Int) < ((L.length : Nat) : Int)))) (e := (decide (((infP op).2.1) ≠ (3 : Int)))) rfl rfl rfl) rfl rfl rfl ?_; clear hf fa; intro fa hf
    refine sqv hf (r_move rfl) rfl rfl rfl ?_; clear hf fa; intro fa hf
    refine sqgF (act := (!((decide ((0 : Int) < ((L.length : Nat) : Int))) && (decide (((infP op).2.1) ≠ (3 : Int)))))) (ag := true) (c := ((decide ((0 : Int) < ((L.length : Nat) : Int))) && (decide (((infP op).2.1) ≠ (3 : Int))))) (v := (.pointer (some ⟨b1, 3, none⟩))) hf rfl rfl rfl (fun hact => (r_fa rfl Tryd.underlying25 (f := 3) (q := 3) rfl (by kernel_rfl) rfl)) rfl rfl ?_; clear hf fa; intro fa hf
    refine sqgF (act := (!((decide ((0 : Int) < ((L.length : Nat) : Int))) && (decide (((infP op).2.1) ≠ (3 : Int)))))) (ag := true) (c := ((decide ((0 : Int) < ((L.length : Nat) : Int))) && (decide (((infP op).2.1) ≠ (3 : Int))))) (v := (.slice a L.length c)) hf rfl rfl rfl (fun hact => (r_load (v := (.slice a L.length c)) (gb_ev hact rfl) Tryd.underlying23 rfl (cell_blk hk1 rfl))) rfl rfl ?_; clear hf fa; intro fa hf
    refine sqgF (act := (!((decide ((0 : Int) < ((L.length : Nat) : Int))) && (decide (((infP op).2.1) ≠ (3 : Int)))))) (ag := true) (c := ((decide ((0 : Int) < ((L.length : Nat) : Int))) && (decide (((infP op).2.1) ≠ (3 : Int))))) (v := (.int .i64 ((L.length : Nat) : Int))) hf rfl rfl rfl (fun hact => (r_lensl (gb_ev hact rfl) Tryd.underlying23)) rfl rfl ?_; clear hf fa; intro fa hf
    refine sqgF (act := (!((decide ((0 : Int) < ((L.length : Nat) : Int))) && (decide (((infP op).2.1) ≠ (3 : Int)))))) (ag := true) (c := ((decide ((0 : Int) < ((L.length : Nat) : Int))) && (decide (((infP op).2.1) ≠ (3 : Int))))) (v := (.bool (decide ((10000 : Int) < ((L.length : Nat) : Int))))) hf rfl rfl rfl (fun hact => (r_gt (gb_ev hact rfl) rfl)) rfl rfl ?_; clear hf fa; intro fa hf
    refine sqv hf (r_pickO (b := ((decide ((0 : Int) < ((L.length : Nat) : Int))) && (decide (((infP op).2.1) ≠ (3 : Int))))) (e := (decide ((10000 : Int) < ((L.length : Nat) : Int)))) rfl rfl rfl) rfl rfl rfl ?_; clear hf fa; intro fa hf
    apply wpList_nil
    (try simp only [Exit.then, Exit.inBlock, ↓reduceIte, Nat.reduceEqDiff])
    refine hK8 _ _ ?_
    refine wp_cond_split (t := (((decide ((0 : Int) < ((L.length : Nat) : Int))) && (decide (((infP op).2.1) ≠ (3 : Int)))) || (decide ((10000 : Int) < ((L.length : Nat) : Int))))) (hf.ev rfl) (fun hqt28_1 => ?_) (fun hqt28_1 => ?_)
    · have hqt28_1b := hqt28_1
      try simp only [decide_eq_true_eq, Bool.and_eq_true, Bool.or_eq_true, Bool.not_eq_true', decide_eq_false_iff_not, ne_eq, Bool.not_eq_true] at hqt28_1
      refine wp_seq_k (fun K9 hK9 => ?_)
      refine wp_region_lit ?_
      refine sqv hf (r_move rfl) rfl rfl rfl ?_; clear hf fa; intro fa hf
      refine sqdt hf (d_callB (vs := [(.int .i64 ((infP op).2.1))]) rfl Tryd.func42 (by kernel_rfl) (by kernel_rfl) (mny_any ((infP op).2.1) _)) rfl rfl rfl ?_; clear hf fa; rintro fa _ w4 ⟨rfl, he4⟩ hf
      replace hk1 := blk_ext hk1 he4
      replace hb := hb.trans (Below.mono he4 hb.size)
      refine sqv hf (r_assign rfl) rfl rfl rfl ?_; clear hf fa; intro fa hf
      apply wpList_nil
      (try simp only [Exit.then, Exit.inBlock, ↓reduceIte, Nat.reduceEqDiff])
      refine hK9 _ _ ?_
      refine wp_ret ?_
      (try simp only [Exit.then, Exit.inBlock])
      refine ret1 hf rfl rfl ?_
      refine ⟨congrArg (fun n => Ending.returned (.int .i64 n)) ?_, hb⟩; unfold rightP; unfold mnyP; (repeat' split) <;> first | rfl | omega
    · have hqt28_1b := hqt28_1
      replace hqt28_1 := Bool.eq_false_iff.1 hqt28_1
      try simp only [ne_eq, decide_eq_true_eq, Bool.and_eq_true, Bool.or_eq_true, Bool.not_eq_true', decide_eq_false_iff_not] at hqt28_1
      refine wp_skip ?_
      (try simp only [Exit.then, Exit.inBlock, ↓reduceIte, Nat.reduceEqDiff])
      refine hK7 _ _ ?_
      refine wp_seq_k (fun K10 hK10 => ?_)
      refine wp_seq_k (fun K11 hK11 => ?_)
      refine wp_region_lit ?_
      refine sqv hf (r_fa rfl Tryd.underlying25 (f := 2) (q := 2) rfl (by kernel_rfl) rfl) rfl rfl rfl ?_; clear hf fa; intro fa hf
      refine sqv hf (r_load (v := (.int .u64 B)) rfl Tryd.underlying22 rfl (cell_blk hk1 rfl)) rfl rfl rfl ?_; clear hf fa; intro fa hf
      refine sqv hf (r_ne rfl rfl) rfl rfl rfl ?_; clear hf fa; intro fa hf
      refine sqv hf (r_move rfl) rfl rfl rfl ?_; clear hf fa; intro fa hf
      refine sqgT (act := (decide (B ≠ (0 : Int)))) (ag := true) (c := (decide (B ≠ (0 : Int)))) (v := (.int .i64 ((infP op).2.1))) hf rfl rfl rfl (fun hact => (r_move rfl)) rfl rfl ?_; clear hf fa; intro fa hf
      refine sqgT (act := (decide (B ≠ (0 : Int)))) (ag := true) (c := (decide (B ≠ (0 : Int)))) (v := (.bool (decide (((infP op).2.1) ≠ (8 : Int))))) hf rfl rfl rfl (fun hact => (r_ne (gb_ev hact rfl) rfl)) rfl rfl ?_; clear hf fa; intro fa hf
      refine sqv hf (r_pickA (b := (decide (B ≠ (0 : Int)))) (e := (decide (((infP op).2.1) ≠ (8 : Int)))) rfl rfl rfl) rfl rfl rfl ?_; clear hf fa; intro fa hf
      apply wpList_nil
      (try simp only [Exit.then, Exit.inBlock, ↓reduceIte, Nat.reduceEqDiff])
      refine hK11 _ _ ?_
      refine wp_cond_split (t := ((decide (B ≠ (0 : Int))) && (decide (((infP op).2.1) ≠ (8 : Int))))) (hf.ev rfl) (fun hqt37_1 => ?_) (fun hqt37_1 => ?_)
      · have hqt37_1b := hqt37_1
        try simp only [decide_eq_true_eq, Bool.and_eq_true, Bool.or_eq_true, Bool.not_eq_true', decide_eq_false_iff_not, ne_eq, Bool.not_eq_true] at hqt37_1
        refine wp_seq_k (fun K12 hK12 => ?_)
        refine wp_region_lit ?_
        refine sqv hf (r_assign rfl) rfl rfl rfl ?_; clear hf fa; intro fa hf
        apply wpList_nil
        (try simp only [Exit.then, Exit.inBlock, ↓reduceIte, Nat.reduceEqDiff])
        refine hK12 _ _ ?_
        refine wp_ret ?_
        (try simp only [Exit.then, Exit.inBlock])
        refine ret1 hf rfl rfl ?_
        refine ⟨congrArg (fun n => Ending.returned (.int .i64 n)) ?_, hb⟩; unfold rightP; (repeat' split) <;> first | rfl | omega
      · have hqt37_1b := hqt37_1
        replace hqt37_1 := Bool.eq_false_iff.1 hqt37_1
        try simp only [ne_eq, decide_eq_true_eq, Bool.and_eq_true, Bool.or_eq_true, Bool.not_eq_true', decide_eq_false_iff_not] at hqt37_1
        refine wp_skip ?_
        (try simp only [Exit.then, Exit.inBlock, ↓reduceIte, Nat.reduceEqDiff])
        refine hK10 _ _ ?_
        refine wp_seq_k (fun K13 hK13 => ?_)
        refine wp_seq_k (fun K14 hK14 => ?_)
        refine wp_region_lit ?_
        refine sqv hf (r_move rfl) rfl rfl rfl ?_; clear hf fa; intro fa hf
        apply wpList_nil
        (try simp only [Exit.then, Exit.inBlock, ↓reduceIte, Nat.reduceEqDiff])
        refine hK14 _ _ ?_
        refine wp_block ?_
        refine wp_seq_k (fun K15 hK15 => ?_)
        refine wp_seq_k (fun K16 hK16 => ?_)
        refine wp_region_lit ?_
        refine sqv hf (r_eq rfl rfl) rfl rfl rfl ?_; clear hf fa; intro fa hf
        refine sqv hf (r_assign rfl) rfl rfl rfl ?_; clear hf fa; intro fa hf
        apply wpList_nil
        (try simp only [Exit.then, Exit.inBlock, ↓reduceIte, Nat.reduceEqDiff])
        refine hK16 _ _ ?_
        refine wp_cond_split (t := (decide (((infP op).2.1) = (0 : Int)))) (hf.ev rfl) (fun hqt39_1 => ?_) (fun hqt39_1 => ?_)
        · have hqt39_1b := hqt39_1
          try simp only [decide_eq_true_eq, Bool.and_eq_true, Bool.or_eq_true, Bool.not_eq_true', decide_eq_false_iff_not, ne_eq, Bool.not_eq_true] at hqt39_1
          refine wp_skip ?_
          (try simp only [Exit.then, Exit.inBlock, ↓reduceIte, Nat.reduceEqDiff])
          refine hK15 _ _ ?_
          refine wp_cond_true ((hf.ev rfl).trans (congrArg Value.bool (show (decide (((infP op).2.1) = (0 : Int))) = true from hqt39_1b))) ?_
          refine wp_seq_k (fun K17 hK17 => ?_)
          refine wp_region_lit ?_
          refine sqv hf (r_fa rfl Tryd.underlying25 (f := 1) (q := 1) rfl (by kernel_rfl) rfl) rfl rfl rfl ?_; clear hf fa; intro fa hf
          refine sqv hf (r_load (v := (.int .u64 A)) rfl Tryd.underlying22 rfl (cell_blk hk1 rfl)) rfl rfl rfl ?_; clear hf fa; intro fa hf
          refine sqv hf (r_eq rfl rfl) rfl rfl rfl ?_; clear hf fa; intro fa hf
          refine sqdt hf (d_callB (vs := [(.bool (decide (A = (0 : Int))))]) rfl Tryd.func43 (by kernel_rfl) (by kernel_rfl) (unl_any (decide (A = (0 : Int))) _)) rfl rfl rfl ?_; clear hf fa; rintro fa _ w5 ⟨rfl, he5⟩ hf
          replace hk1 := blk_ext hk1 he5
          replace hb := hb.trans (Below.mono he5 hb.size)
          refine sqv hf (r_assign rfl) rfl rfl rfl ?_; clear hf fa; intro fa hf
          apply wpList_nil
          (try simp only [Exit.then, Exit.inBlock, ↓reduceIte, Nat.reduceEqDiff])
          refine hK17 _ _ ?_
          refine wp_ret ?_
          (try simp only [Exit.then, Exit.inBlock])
          refine ret1 hf rfl rfl ?_
          refine ⟨congrArg (fun n => Ending.returned (.int .i64 n)) ?_, hb⟩; unfold rightP; unfold unlP; simp only [Bool.and_eq_true, decide_eq_true_eq]; (repeat' split) <;> first | rfl | omega
        · have hqt39_1b := hqt39_1
          replace hqt39_1 := Bool.eq_false_iff.1 hqt39_1
          try simp only [ne_eq, decide_eq_true_eq, Bool.and_eq_true, Bool.or_eq_true, Bool.not_eq_true', decide_eq_false_iff_not] at hqt39_1
          refine wp_region_lit ?_
          refine sqv hf (r_eq rfl rfl) rfl rfl rfl ?_; clear hf fa; intro fa hf
          refine sqv hf (r_assign rfl) rfl rfl rfl ?_; clear hf fa; intro fa hf
          apply wpList_nil
          (try simp only [Exit.then, Exit.inBlock, ↓reduceIte, Nat.reduceEqDiff])
          refine hK15 _ _ ?_
          refine wp_cond_split (t := (decide (((infP op).2.1) = (9 : Int)))) (hf.ev rfl) (fun hqt39_3 => ?_) (fun hqt39_3 => ?_)
          · have hqt39_3b := hqt39_3
            try simp only [decide_eq_true_eq, Bool.and_eq_true, Bool.or_eq_true, Bool.not_eq_true', decide_eq_false_iff_not, ne_eq, Bool.not_eq_true] at hqt39_3
            refine wp_seq_k (fun K18 hK18 => ?_)
            refine wp_region_lit ?_
            refine sqv hf (r_fa rfl Tryd.underlying25 (f := 1) (q := 1) rfl (by kernel_rfl) rfl) rfl rfl rfl ?_; clear hf fa; intro fa hf
            refine sqv hf (r_load (v := (.int .u64 A)) rfl Tryd.underlying22 rfl (cell_blk hk1 rfl)) rfl rfl rfl ?_; clear hf fa; intro fa hf
            refine sqv hf (r_eq rfl rfl) rfl rfl rfl ?_; clear hf fa; intro fa hf
            refine sqdt hf (d_callB (vs := [(.bool (decide (A = (0 : Int))))]) rfl Tryd.func43 (by kernel_rfl) (by kernel_rfl) (unl_any (decide (A = (0 : Int))) _)) rfl rfl rfl ?_; clear hf fa; rintro fa _ w6 ⟨rfl, he6⟩ hf
            replace hk1 := blk_ext hk1 he6
            replace hb := hb.trans (Below.mono he6 hb.size)
            refine sqv hf (r_assign rfl) rfl rfl rfl ?_; clear hf fa; intro fa hf
            apply wpList_nil
            (try simp only [Exit.then, Exit.inBlock, ↓reduceIte, Nat.reduceEqDiff])
            refine hK18 _ _ ?_
            refine wp_ret ?_
            (try simp only [Exit.then, Exit.inBlock])
            refine ret1 hf rfl rfl ?_
            refine ⟨congrArg (fun n => Ending.returned (.int .i64 n)) ?_, hb⟩; unfold rightP; unfold unlP; simp only [Bool.and_eq_true, decide_eq_true_eq]; (repeat' split) <;> first | rfl | omega
          · have hqt39_3b := hqt39_3
            replace hqt39_3 := Bool.eq_false_iff.1 hqt39_3
            try simp only [ne_eq, decide_eq_true_eq, Bool.and_eq_true, Bool.or_eq_true, Bool.not_eq_true', decide_eq_false_iff_not] at hqt39_3
            refine wp_seq_k (fun K19 hK19 => ?_)
            refine wp_region_lit ?_
            refine sqv hf (r_eq rfl rfl) rfl rfl rfl ?_; clear hf fa; intro fa hf
            refine sqv hf (r_assign rfl) rfl rfl rfl ?_; clear hf fa; intro fa hf
            apply wpList_nil
            (try simp only [Exit.then, Exit.inBlock, ↓reduceIte, Nat.reduceEqDiff])
            refine hK19 _ _ ?_
            refine wp_cond_split (t := (decide (((infP op).2.1) = (1 : Int)))) (hf.ev rfl) (fun hqt46_1 => ?_) (fun hqt46_1 => ?_)
            · have hqt46_1b := hqt46_1
              try simp only [decide_eq_true_eq, Bool.and_eq_true, Bool.or_eq_true, Bool.not_eq_true', decide_eq_false_iff_not, ne_eq, Bool.not_eq_true] at hqt46_1
              refine wp_seq_k (fun K20 hK20 => ?_)
              refine wp_region_lit ?_
              refine sqv hf (r_fa rfl Tryd.underlying25 (f := 1) (q := 1) rfl (by kernel_rfl) rfl) rfl rfl rfl ?_; clear hf fa; intro fa hf
              refine sqv hf (r_load (v := (.int .u64 A)) rfl Tryd.underlying22 rfl (cell_blk hk1 rfl)) rfl rfl rfl ?_; clear hf fa; intro fa hf
              refine sqdt hf (d_callB (vs := [(.int .u64 A)]) rfl Tryd.func44 (by kernel_rfl) (by kernel_rfl) (iblk_any A _ hA)) rfl rfl rfl ?_; clear hf fa; rintro fa _ w7 ⟨rfl, he7⟩ hf
              replace hk1 := blk_ext hk1 he7
              replace hb := hb.trans (Below.mono he7 hb.size)
              refine sqv hf (r_assign rfl) rfl rfl rfl ?_; clear hf fa; intro fa hf
              apply wpList_nil
              (try simp only [Exit.then, Exit.inBlock, ↓reduceIte, Nat.reduceEqDiff])
              refine hK20 _ _ ?_
              refine wp_ret ?_
              (try simp only [Exit.then, Exit.inBlock])
              refine ret1 hf rfl rfl ?_
              refine ⟨congrArg (fun n => Ending.returned (.int .i64 n)) ?_, hb⟩; unfold rightP; (repeat' split) <;> first | rfl | omega
            · have hqt46_1b := hqt46_1
              replace hqt46_1 := Bool.eq_false_iff.1 hqt46_1
              try simp only [ne_eq, decide_eq_true_eq, Bool.and_eq_true, Bool.or_eq_true, Bool.not_eq_true', decide_eq_false_iff_not] at hqt46_1
              refine wp_seq_k (fun K21 hK21 => ?_)
              refine wp_region_lit ?_
              refine sqv hf (r_eq rfl rfl) rfl rfl rfl ?_; clear hf fa; intro fa hf
              refine sqv hf (r_assign rfl) rfl rfl rfl ?_; clear hf fa; intro fa hf
              apply wpList_nil
              (try simp only [Exit.then, Exit.inBlock, ↓reduceIte, Nat.reduceEqDiff])
              refine hK21 _ _ ?_
              refine wp_cond_split (t := (decide (((infP op).2.1) = (11 : Int)))) (hf.ev rfl) (fun hqt51_1 => ?_) (fun hqt51_1 => ?_)
              · have hqt51_1b := hqt51_1
                try simp only [decide_eq_true_eq, Bool.and_eq_true, Bool.or_eq_true, Bool.not_eq_true', decide_eq_false_iff_not, ne_eq, Bool.not_eq_true] at hqt51_1
                refine wp_seq_k (fun K22 hK22 => ?_)
                refine wp_region_lit ?_
                refine sqv hf (r_assign rfl) rfl rfl rfl ?_; clear hf fa; intro fa hf
                apply wpList_nil
                (try simp only [Exit.then, Exit.inBlock, ↓reduceIte, Nat.reduceEqDiff])
                refine hK22 _ _ ?_
                refine wp_ret ?_
                (try simp only [Exit.then, Exit.inBlock])
                refine ret1 hf rfl rfl ?_
                refine ⟨congrArg (fun n => Ending.returned (.int .i64 n)) ?_, hb⟩; unfold rightP; (repeat' split) <;> first | rfl | omega
              · have hqt51_1b := hqt51_1
                replace hqt51_1 := Bool.eq_false_iff.1 hqt51_1
                try simp only [ne_eq, decide_eq_true_eq, Bool.and_eq_true, Bool.or_eq_true, Bool.not_eq_true', decide_eq_false_iff_not] at hqt51_1
                refine wp_skip ?_
                (try simp only [Exit.then, Exit.inBlock, ↓reduceIte, Nat.reduceEqDiff])
                refine hK13 _ _ ?_
                refine wp_seq_k (fun K23 hK23 => ?_)
                refine wp_region_lit ?_
                refine sqv hf (r_fa rfl Tryd.underlying25 (f := 1) (q := 1) rfl (by kernel_rfl) rfl) rfl rfl rfl ?_; clear hf fa; intro fa hf
                refine sqv hf (r_load (v := (.int .u64 A)) rfl Tryd.underlying22 rfl (cell_blk hk1 rfl)) rfl rfl rfl ?_; clear hf fa; intro fa hf
                refine sqv hf (r_lt rfl rfl) rfl rfl rfl ?_; clear hf fa; intro fa hf
                refine sqv hf (r_move rfl) rfl rfl rfl ?_; clear hf fa; intro fa hf
                refine sqgT (act := (decide (A < (4294967296 : Int)))) (ag := true) (c := (decide (A < (4294967296 : Int)))) (v := (.pointer (some ⟨b1, 2, none⟩))) hf rfl rfl rfl (fun hact => (r_fa rfl Tryd.underlying25 (f := 2) (q := 2) rfl (by kernel_rfl) rfl)) rfl rfl ?_; clear hf fa; intro fa hf
                refine sqgT (act := (decide (A < (4294967296 : Int)))) (ag := true) (c := (decide (A < (4294967296 : Int)))) (v := (.int .u64 B)) hf rfl rfl rfl (fun hact => (r_load (v := (.int .u64 B)) (gb_ev hact rfl) Tryd.underlying22 rfl (cell_blk hk1 rfl))) rfl rfl ?_; clear hf fa; intro fa hf
                refine sqgT (act := (decide (A < (4294967296 : Int)))) (ag := true) (c := (decide (A < (4294967296 : Int)))) (v := (.bool (decide (B < (4294967296 : Int))))) hf rfl rfl rfl (fun hact => (r_lt (gb_ev hact rfl) rfl)) rfl rfl ?_; clear hf fa; intro fa hf
                refine sqv hf (r_pickA (b := (decide (A < (4294967296 : Int)))) (e := (decide (B < (4294967296 : Int)))) rfl rfl rfl) rfl rfl rfl ?_; clear hf fa; intro fa hf
                refine sqdt hf (d_callB (vs := [(.bool ((decide (A < (4294967296 : Int))) && (decide (B < (4294967296 : Int)))))]) rfl Tryd.func43 (by kernel_rfl) (by kernel_rfl) (unl_any ((decide (A < (4294967296 : Int))) && (decide (B < (4294967296 : Int)))) _)) rfl rfl rfl ?_; clear hf fa; rintro fa _ w8 ⟨rfl, he8⟩ hf
                replace hk1 := blk_ext hk1 he8
                replace hb := hb.trans (Below.mono he8 hb.size)
                refine sqv hf (r_assign rfl) rfl rfl rfl ?_; clear hf fa; intro fa hf
                apply wpList_nil
                (try simp only [Exit.then, Exit.inBlock, ↓reduceIte, Nat.reduceEqDiff])
                refine hK23 _ _ ?_
                refine wp_ret ?_
                (try simp only [Exit.then, Exit.inBlock])
                refine ret1 hf rfl rfl ?_
                refine ⟨congrArg (fun n => Ending.returned (.int .i64 n)) ?_, hb⟩; unfold rightP; unfold unlP; simp only [Bool.and_eq_true, decide_eq_true_eq]; (repeat' split) <;> first | rfl | omega

theorem blk_val (A : Int) (h : A ≠ 64) : valP (if (256 : Int) < A then (256 : Int) else A) = blkP A := by
  by_cases h1 : (256 : Int) < A
  · rw [if_pos h1]; unfold blkP; rw [if_neg h, if_pos (by omega)]; rfl
  · rw [if_neg h1]
    unfold blkP valP
    rw [if_neg h]
    by_cases h2 : (255 : Int) < A
    · rw [if_pos h2, if_neg (by omega), if_neg (by omega)]
    · rw [if_neg h2]

theorem rp_chk {op : Nat} {A B : Int} {n : Nat} (h : chkP op ≠ 0) : rightP op A B n = chkP op := by unfold rightP; rw [if_pos h]
theorem rp_n1 {op : Nat} {A B : Int} {n : Nat} (h : chkP op = 0) (h1 : 0 < n ∧ (infP op).2.1 ≠ 3) : rightP op A B n = 1 := by unfold rightP; rw [if_neg (fun e => e h), if_pos h1]
theorem rp_n2 {op : Nat} {A B : Int} {n : Nat} (h : chkP op = 0) (h1 : ¬ (0 < n ∧ (infP op).2.1 ≠ 3)) (h2 : 10000 < n) : rightP op A B n = 29 := by unfold rightP; rw [if_neg (fun e => e h), if_neg h1, if_pos h2]
theorem rp_b {op : Nat} {A B : Int} {n : Nat} (h : chkP op = 0) (h1 : ¬ (0 < n ∧ (infP op).2.1 ≠ 3)) (h2 : ¬ 10000 < n) (h3 : B ≠ 0 ∧ (infP op).2.1 ≠ 8) : rightP op A B n = 1 := by unfold rightP; rw [if_neg (fun e => e h), if_neg h1, if_neg h2, if_pos h3]
theorem rp_c {op : Nat} {A B : Int} {n : Nat} (h : chkP op = 0) (h1 : ¬ (0 < n ∧ (infP op).2.1 ≠ 3)) (h2 : ¬ 10000 < n) (h3 : ¬ (B ≠ 0 ∧ (infP op).2.1 ≠ 8)) : rightP op A B n = if (infP op).2.1 = 0 ∨ (infP op).2.1 = 9 then (if A = 0 then 0 else 1) else if (infP op).2.1 = 1 then blkP A else if (infP op).2.1 = 11 then 0 else if A < 4294967296 ∧ B < 4294967296 then 0 else 1 := by unfold rightP; rw [if_neg (fun e => e h), if_neg h1, if_neg h2, if_neg h3]

set_option maxHeartbeats 1000000 in
set_option maxRecDepth 100000 in
theorem rright_any (op : Nat) (A B : Int) (L : List Int) (a : Option Addr) (c : Nat) (w : World) (hop : op < 256) (hA : 0 ≤ A ∧ A < 18446744073709551616) (hB : 0 ≤ B ∧ B < 18446744073709551616) (hc : L.length ≤ c) (hn : L.length ≤ 100000) : Calls Tryd.prog 10 #[(.agg #[(.int .u8 ((op : Nat) : Int)), (.int .u64 A), (.int .u64 B), (.slice a L.length c)])] w fun e w' => e = .returned (.int .i64 (rightP op A B L.length)) ∧ Below w.heap.size w w' := by
  have him := of_imm hop
  have hck := chk_eq hop
  refine sx_enter (L := [(0, (.agg #[(.int .u8 ((op : Nat) : Int)), (.int .u64 A), (.int .u64 B), (.slice a L.length c)]))]) Tryd.func10 rfl rfl rfl rfl (fun fa hf => ?_)
  have hb : Below w.heap.size w w := Below.refl _ _
  refine wp_seq_k (fun K1 hK1 => ?_)
  refine wp_region_lit ?_
  refine sqdt hf (d_box (cs := #[(.int .u8 ((op : Nat) : Int)), (.int .u64 A), (.int .u64 B), (.slice a L.length c)]) rfl rfl) rfl rfl rfl ?_; clear hf fa; rintro fa _ w1 ⟨b1, rfl, hle1, hk1, he1⟩ hf
  have hBb1 : w.heap.size ≤ b1 := Nat.le_trans hb.size hle1
  replace hb := hb.trans (Below.mono he1 hb.size)
  refine sqv hf (r_assign rfl) rfl rfl rfl ?_; clear hf fa; intro fa hf
  apply wpList_nil
  (try simp only [Exit.then, Exit.inBlock, ↓reduceIte, Nat.reduceEqDiff])
  refine hK1 _ _ ?_
  refine wp_seq_k (fun K2 hK2 => ?_)
  refine wp_seq_k (fun K3 hK3 => ?_)
  refine wp_region_lit ?_
  refine sqv hf (r_fa rfl Tryd.underlying25 (f := 0) (q := 0) rfl (by kernel_rfl) rfl) rfl rfl rfl ?_; clear hf fa; intro fa hf
  refine sqv hf (r_load (v := (.int .u8 ((op : Nat) : Int))) rfl Tryd.underlying5 rfl (cell_blk hk1 rfl)) rfl rfl rfl ?_; clear hf fa; intro fa hf
  refine sqv hf (r_conv (C := ((op : Nat) : Int)) rfl Tryd.underlying5 Tryd.underlying3 (by rw [IntKind.wrap_i64]; omega)) rfl rfl rfl ?_; clear hf fa; intro fa hf
  refine sqdt hf (d_callB (vs := [(.int .i64 ((op : Nat) : Int))]) rfl Tryd.func29 (by kernel_rfl) (by kernel_rfl) (rchk_any op _ hop)) rfl rfl rfl ?_; clear hf fa; rintro fa _ w2 ⟨rfl, he2⟩ hf
  replace hk1 := blk_ext hk1 he2
  replace hb := hb.trans (Below.mono he2 hb.size)
  refine sqv hf (r_assign rfl) rfl rfl rfl ?_; clear hf fa; intro fa hf
  apply wpList_nil
  (try simp only [Exit.then, Exit.inBlock, ↓reduceIte, Nat.reduceEqDiff])
  refine hK3 _ _ ?_
  refine wp_seq_k (fun K4 hK4 => ?_)
  refine wp_region_lit ?_
  refine sqv hf (r_move rfl) rfl rfl rfl ?_; clear hf fa; intro fa hf
  refine sqv hf (r_ne rfl rfl) rfl rfl rfl ?_; clear hf fa; intro fa hf
  apply wpList_nil
  (try simp only [Exit.then, Exit.inBlock, ↓reduceIte, Nat.reduceEqDiff])
  refine hK4 _ _ ?_
  refine wp_cond_split (t := (decide (((rchkP op)) ≠ (0 : Int)))) (hf.ev rfl) (fun hqt12_1 => ?_) (fun hqt12_1 => ?_)
  · have hqt12_1b := hqt12_1
    try simp only [decide_eq_true_eq, Bool.and_eq_true, Bool.or_eq_true, Bool.not_eq_true', decide_eq_false_iff_not, ne_eq, Bool.not_eq_true] at hqt12_1
    refine wp_seq_k (fun K5 hK5 => ?_)
    refine wp_region_lit ?_
    refine sqv hf (r_move rfl) rfl rfl rfl ?_; clear hf fa; intro fa hf
    refine sqv hf (r_assign rfl) rfl rfl rfl ?_; clear hf fa; intro fa hf
    apply wpList_nil
    (try simp only [Exit.then, Exit.inBlock, ↓reduceIte, Nat.reduceEqDiff])
    refine hK5 _ _ ?_
    refine wp_ret ?_
    (try simp only [Exit.then, Exit.inBlock])
    refine ret1 hf rfl rfl ?_
    refine ⟨congrArg (fun n => Ending.returned (.int .i64 n)) ?_, hb⟩; rw [rp_chk (by have h := hqt12_1; omega)]; exact hck
  · have hqt12_1b := hqt12_1
    replace hqt12_1 := Bool.eq_false_iff.1 hqt12_1
    try simp only [ne_eq, decide_eq_true_eq, Bool.and_eq_true, Bool.or_eq_true, Bool.not_eq_true', decide_eq_false_iff_not] at hqt12_1
    refine wp_skip ?_
    (try simp only [Exit.then, Exit.inBlock, ↓reduceIte, Nat.reduceEqDiff])
    refine hK2 _ _ ?_
    refine wp_seq_k (fun K6 hK6 => ?_)
    refine wp_region_lit ?_
    refine sqv hf (r_fa rfl Tryd.underlying25 (f := 0) (q := 0) rfl (by kernel_rfl) rfl) rfl rfl rfl ?_; clear hf fa; intro fa hf
    refine sqv hf (r_load (v := (.int .u8 ((op : Nat) : Int))) rfl Tryd.underlying5 rfl (cell_blk hk1 rfl)) rfl rfl rfl ?_; clear hf fa; intro fa hf
    refine sqv hf (r_conv (C := ((op : Nat) : Int)) rfl Tryd.underlying5 Tryd.underlying3 (by rw [IntKind.wrap_i64]; omega)) rfl rfl rfl ?_; clear hf fa; intro fa hf
    refine sqdt hf (d_callB (vs := [(.int .i64 ((op : Nat) : Int))]) rfl Tryd.func22 (by kernel_rfl) (by kernel_rfl) (of_any op _ hop)) rfl rfl rfl ?_; clear hf fa; rintro fa _ w3 ⟨rfl, he3⟩ hf
    replace hk1 := blk_ext hk1 he3
    replace hb := hb.trans (Below.mono he3 hb.size)
    refine sqv hf (r_move rfl) rfl rfl rfl ?_; clear hf fa; intro fa hf
    refine sqv hf (r_extract rfl (i := 0) rfl) rfl rfl rfl ?_; clear hf fa; intro fa hf
    refine sqv hf (r_extract rfl (i := 1) rfl) rfl rfl rfl ?_; clear hf fa; intro fa hf
    refine sqdt hf (d_alloc (z := (.agg #[(.int .i64 (0 : Int)), (.string ⟨#[]⟩), (.int .i64 (0 : Int)), (.string ⟨#[]⟩), (.string ⟨#[]⟩), (.bool false)])) (cs := #[(.int .i64 (0 : Int)), (.string ⟨#[]⟩), (.int .i64 (0 : Int)), (.string ⟨#[]⟩), (.string ⟨#[]⟩), (.bool false)]) (by kernel_rfl) rfl) rfl rfl rfl ?_; clear hf fa; rintro fa _ w4 ⟨b2, rfl, hle2, hk2, he4⟩ hf
    have hBb2 : w.heap.size ≤ b2 := Nat.le_trans hb.size hle2
    have : b1 < b2 := Nat.lt_of_lt_of_le (blk_lt hk1) hle2
    replace hk1 := blk_ext hk1 he4
    replace hb := hb.trans (Below.mono he4 hb.size)
    refine sqn hf (d_storeK (T := 57) (v := (.agg #[(.int .i64 ((ofP op).1.1)), (.string (ofP op).1.2.1), (.int .i64 ((ofP op).1.2.2.1)), (.string (ofP op).1.2.2.2.1), (.string (ofP op).1.2.2.2.2.1), (.bool (ofP op).1.2.2.2.2.2.1)])) (cs := #[(.int .i64 (0 : Int)), (.string ⟨#[]⟩), (.int .i64 (0 : Int)), (.string ⟨#[]⟩), (.string ⟨#[]⟩), (.bool false)]) (cs' := #[(.int .i64 ((ofP op).1.1)), (.string (ofP op).1.2.1), (.int .i64 ((ofP op).1.2.2.1)), (.string (ofP op).1.2.2.2.1), (.string (ofP op).1.2.2.2.2.1), (.bool (ofP op).1.2.2.2.2.2.1)]) rfl rfl (by kernel_rfl) (by kernel_rfl) hk2 (by kernel_rfl) (by kernel_rfl)) rfl rfl ?_; clear hf fa; rintro fa _ w5 ⟨hk3, hg1⟩ hf
    replace hk1 := blk_grown hk1 hg1 (by omega)
    replace hb := hb.trans (grown_below hg1 hb.size hBb2)
    refine sqv hf (r_assign rfl) rfl rfl rfl ?_; clear hf fa; intro fa hf
    apply wpList_nil
    (try simp only [Exit.then, Exit.inBlock, ↓reduceIte, Nat.reduceEqDiff])
    refine hK6 _ _ ?_
    refine wp_seq_k (fun K7 hK7 => ?_)
    refine wp_seq_k (fun K8 hK8 => ?_)
    refine wp_region_lit ?_
    refine sqv hf (r_fa rfl Tryd.underlying25 (f := 3) (q := 3) rfl (by kernel_rfl) rfl) rfl rfl rfl ?_; clear hf fa; intro fa hf
    refine sqv hf (r_load (v := (.slice a L.length c)) rfl Tryd.underlying23 rfl (cell_blk hk1 rfl)) rfl rfl rfl ?_; clear hf fa; intro fa hf
    refine sqv hf (r_lensl rfl Tryd.underlying23) rfl rfl rfl ?_; clear hf fa; intro fa hf
    refine sqv hf (r_gt rfl rfl) rfl rfl rfl ?_; clear hf fa; intro fa hf
    refine sqv hf (r_move rfl) rfl rfl rfl ?_; clear hf fa; intro fa hf
    refine sqgT (act := (decide ((0 : Int) < ((L.length : Nat) : Int)))) (ag := true) (c := (decide ((0 : Int) < ((L.length : Nat) : Int)))) (v := (.pointer (some ⟨b2, 2, none⟩))) hf rfl rfl rfl (fun hact => (r_fa rfl Tryd.underlying57 (f := 2) (q := 2) rfl (by kernel_rfl) rfl)) rfl rfl ?_; clear hf fa; intro fa hf
    refine sqgT (act := (decide ((0 : Int) < ((L.length : Nat) : Int)))) (ag := true) (c := (decide ((0 : Int) < ((L.length : Nat) : Int)))) (v := (.int .i64 ((ofP op).1.2.2.1))) hf rfl rfl rfl (fun hact => (r_load (v := (.int .i64 ((ofP op).1.2.2.1))) (gb_ev hact rfl) Tryd.underlying3 rfl (cell_blk hk3 rfl))) rfl rfl ?_; clear hf fa; intro fa hf
    refine sqgT (act := (decide ((0 : Int) < ((L.length : Nat) : Int)))) (ag := true) (c := (decide ((0 : Int) < ((L.length : Nat) : Int)))) (v := (.bool (decide (((ofP op).1.2.2.1) ≠ (3 : Int))))) hf rfl rfl rfl (fun hact => (r_ne (gb_ev hact rfl) rfl)) rfl rfl ?_; clear hf fa; intro fa hf
    refine sqv hf (r_pickA (b := (decide ((0 : Int) < ((L.length : Nat) : Int)))) (e := (decide (((ofP op).1.2.2.1) ≠ (3 : Int)))) rfl rfl rfl) rfl rfl rfl ?_; clear hf fa; intro fa hf
    apply wpList_nil
    (try simp only [Exit.then, Exit.inBlock, ↓reduceIte, Nat.reduceEqDiff])
    refine hK8 _ _ ?_
    refine wp_cond_split (t := ((decide ((0 : Int) < ((L.length : Nat) : Int))) && (decide (((ofP op).1.2.2.1) ≠ (3 : Int))))) (hf.ev rfl) (fun hqt29_1 => ?_) (fun hqt29_1 => ?_)
    · have hqt29_1b := hqt29_1
      try simp only [decide_eq_true_eq, Bool.and_eq_true, Bool.or_eq_true, Bool.not_eq_true', decide_eq_false_iff_not, ne_eq, Bool.not_eq_true] at hqt29_1
      refine wp_seq_k (fun K9 hK9 => ?_)
      refine wp_region_lit ?_
      refine sqv hf (r_assign rfl) rfl rfl rfl ?_; clear hf fa; intro fa hf
      apply wpList_nil
      (try simp only [Exit.then, Exit.inBlock, ↓reduceIte, Nat.reduceEqDiff])
      refine hK9 _ _ ?_
      refine wp_ret ?_
      (try simp only [Exit.then, Exit.inBlock])
      refine ret1 hf rfl rfl ?_
      refine ⟨congrArg (fun n => Ending.returned (.int .i64 n)) ?_, hb⟩; rw [rp_n1 (by have h := hqt12_1; omega) (by have h := hqt29_1; omega)]
    · have hqt29_1b := hqt29_1
      replace hqt29_1 := Bool.eq_false_iff.1 hqt29_1
      try simp only [ne_eq, decide_eq_true_eq, Bool.and_eq_true, Bool.or_eq_true, Bool.not_eq_true', decide_eq_false_iff_not] at hqt29_1
      refine wp_skip ?_
      (try simp only [Exit.then, Exit.inBlock, ↓reduceIte, Nat.reduceEqDiff])
      refine hK7 _ _ ?_
      refine wp_seq_k (fun K10 hK10 => ?_)
      refine wp_seq_k (fun K11 hK11 => ?_)
      refine wp_region_lit ?_
      refine sqv hf (r_fa rfl Tryd.underlying25 (f := 3) (q := 3) rfl (by kernel_rfl) rfl) rfl rfl rfl ?_; clear hf fa; intro fa hf
      refine sqv hf (r_load (v := (.slice a L.length c)) rfl Tryd.underlying23 rfl (cell_blk hk1 rfl)) rfl rfl rfl ?_; clear hf fa; intro fa hf
      refine sqv hf (r_lensl rfl Tryd.underlying23) rfl rfl rfl ?_; clear hf fa; intro fa hf
      refine sqv hf (r_gt rfl rfl) rfl rfl rfl ?_; clear hf fa; intro fa hf
      apply wpList_nil
      (try simp only [Exit.then, Exit.inBlock, ↓reduceIte, Nat.reduceEqDiff])
      refine hK11 _ _ ?_
      refine wp_cond_split (t := (decide ((10000 : Int) < ((L.length : Nat) : Int)))) (hf.ev rfl) (fun hqt33_1 => ?_) (fun hqt33_1 => ?_)
      · have hqt33_1b := hqt33_1
        try simp only [decide_eq_true_eq, Bool.and_eq_true, Bool.or_eq_true, Bool.not_eq_true', decide_eq_false_iff_not, ne_eq, Bool.not_eq_true] at hqt33_1
        refine wp_seq_k (fun K12 hK12 => ?_)
        refine wp_region_lit ?_
        refine sqv hf (r_assign rfl) rfl rfl rfl ?_; clear hf fa; intro fa hf
        apply wpList_nil
        (try simp only [Exit.then, Exit.inBlock, ↓reduceIte, Nat.reduceEqDiff])
        refine hK12 _ _ ?_
        refine wp_ret ?_
        (try simp only [Exit.then, Exit.inBlock])
        refine ret1 hf rfl rfl ?_
        refine ⟨congrArg (fun n => Ending.returned (.int .i64 n)) ?_, hb⟩; rw [rp_n2 (by have h := hqt12_1; omega) (by have h := hqt29_1; omega) (by have h := hqt33_1; omega)]
      · have hqt33_1b := hqt33_1
        replace hqt33_1 := Bool.eq_false_iff.1 hqt33_1
        try simp only [ne_eq, decide_eq_true_eq, Bool.and_eq_true, Bool.or_eq_true, Bool.not_eq_true', decide_eq_false_iff_not] at hqt33_1
        refine wp_skip ?_
        (try simp only [Exit.then, Exit.inBlock, ↓reduceIte, Nat.reduceEqDiff])
        refine hK10 _ _ ?_
        refine wp_seq_k (fun K13 hK13 => ?_)
        refine wp_seq_k (fun K14 hK14 => ?_)
        refine wp_region_lit ?_
        refine sqv hf (r_fa rfl Tryd.underlying25 (f := 2) (q := 2) rfl (by kernel_rfl) rfl) rfl rfl rfl ?_; clear hf fa; intro fa hf
        refine sqv hf (r_load (v := (.int .u64 B)) rfl Tryd.underlying22 rfl (cell_blk hk1 rfl)) rfl rfl rfl ?_; clear hf fa; intro fa hf
        refine sqv hf (r_ne rfl rfl) rfl rfl rfl ?_; clear hf fa; intro fa hf
        refine sqv hf (r_move rfl) rfl rfl rfl ?_; clear hf fa; intro fa hf
        refine sqgT (act := (decide (B ≠ (0 : Int)))) (ag := true) (c := (decide (B ≠ (0 : Int)))) (v := (.pointer (some ⟨b2, 2, none⟩))) hf rfl rfl rfl (fun hact => (r_fa rfl Tryd.underlying57 (f := 2) (q := 2) rfl (by kernel_rfl) rfl)) rfl rfl ?_; clear hf fa; intro fa hf
        refine sqgT (act := (decide (B ≠ (0 : Int)))) (ag := true) (c := (decide (B ≠ (0 : Int)))) (v := (.int .i64 ((ofP op).1.2.2.1))) hf rfl rfl rfl (fun hact => (r_load (v := (.int .i64 ((ofP op).1.2.2.1))) (gb_ev hact rfl) Tryd.underlying3 rfl (cell_blk hk3 rfl))) rfl rfl ?_; clear hf fa; intro fa hf
        refine sqgT (act := (decide (B ≠ (0 : Int)))) (ag := true) (c := (decide (B ≠ (0 : Int)))) (v := (.bool (decide (((ofP op).1.2.2.1) ≠ (8 : Int))))) hf rfl rfl rfl (fun hact => (r_ne (gb_ev hact rfl) rfl)) rfl rfl ?_; clear hf fa; intro fa hf
        refine sqv hf (r_pickA (b := (decide (B ≠ (0 : Int)))) (e := (decide (((ofP op).1.2.2.1) ≠ (8 : Int)))) rfl rfl rfl) rfl rfl rfl ?_; clear hf fa; intro fa hf
        apply wpList_nil
        (try simp only [Exit.then, Exit.inBlock, ↓reduceIte, Nat.reduceEqDiff])
        refine hK14 _ _ ?_
        refine wp_cond_split (t := ((decide (B ≠ (0 : Int))) && (decide (((ofP op).1.2.2.1) ≠ (8 : Int))))) (hf.ev rfl) (fun hqt41_1 => ?_) (fun hqt41_1 => ?_)
        · have hqt41_1b := hqt41_1
          try simp only [decide_eq_true_eq, Bool.and_eq_true, Bool.or_eq_true, Bool.not_eq_true', decide_eq_false_iff_not, ne_eq, Bool.not_eq_true] at hqt41_1
          refine wp_seq_k (fun K15 hK15 => ?_)
          refine wp_region_lit ?_
          refine sqv hf (r_assign rfl) rfl rfl rfl ?_; clear hf fa; intro fa hf
          apply wpList_nil
          (try simp only [Exit.then, Exit.inBlock, ↓reduceIte, Nat.reduceEqDiff])
          refine hK15 _ _ ?_
          refine wp_ret ?_
          (try simp only [Exit.then, Exit.inBlock])
          refine ret1 hf rfl rfl ?_
          refine ⟨congrArg (fun n => Ending.returned (.int .i64 n)) ?_, hb⟩; rw [rp_b (by have h := hqt12_1; omega) (by have h := hqt29_1; omega) (by have h := hqt33_1; omega) (by have h := hqt41_1; omega)]
        · have hqt41_1b := hqt41_1
          replace hqt41_1 := Bool.eq_false_iff.1 hqt41_1
          try simp only [ne_eq, decide_eq_true_eq, Bool.and_eq_true, Bool.or_eq_true, Bool.not_eq_true', decide_eq_false_iff_not] at hqt41_1
          refine wp_skip ?_
          (try simp only [Exit.then, Exit.inBlock, ↓reduceIte, Nat.reduceEqDiff])
          refine hK13 _ _ ?_
          refine wp_seq_k (fun K16 hK16 => ?_)
          refine wp_region_lit ?_
          refine sqv hf (r_fa rfl Tryd.underlying25 (f := 1) (q := 1) rfl (by kernel_rfl) rfl) rfl rfl rfl ?_; clear hf fa; intro fa hf
          refine sqv hf (r_load (v := (.int .u64 A)) rfl Tryd.underlying22 rfl (cell_blk hk1 rfl)) rfl rfl rfl ?_; clear hf fa; intro fa hf
          refine sqv hf (r_lt rfl rfl) rfl rfl rfl ?_; clear hf fa; intro fa hf
          refine sqv hf (r_move rfl) rfl rfl rfl ?_; clear hf fa; intro fa hf
          refine sqgT (act := (decide (A < (4294967296 : Int)))) (ag := true) (c := (decide (A < (4294967296 : Int)))) (v := (.pointer (some ⟨b1, 2, none⟩))) hf rfl rfl rfl (fun hact => (r_fa rfl Tryd.underlying25 (f := 2) (q := 2) rfl (by kernel_rfl) rfl)) rfl rfl ?_; clear hf fa; intro fa hf
          refine sqgT (act := (decide (A < (4294967296 : Int)))) (ag := true) (c := (decide (A < (4294967296 : Int)))) (v := (.int .u64 B)) hf rfl rfl rfl (fun hact => (r_load (v := (.int .u64 B)) (gb_ev hact rfl) Tryd.underlying22 rfl (cell_blk hk1 rfl))) rfl rfl ?_; clear hf fa; intro fa hf
          refine sqgT (act := (decide (A < (4294967296 : Int)))) (ag := true) (c := (decide (A < (4294967296 : Int)))) (v := (.bool (decide (B < (4294967296 : Int))))) hf rfl rfl rfl (fun hact => (r_lt (gb_ev hact rfl) rfl)) rfl rfl ?_; clear hf fa; intro fa hf
          refine sqv hf (r_pickA (b := (decide (A < (4294967296 : Int)))) (e := (decide (B < (4294967296 : Int)))) rfl rfl rfl) rfl rfl rfl ?_; clear hf fa; intro fa hf
          refine sqv hf (r_assign rfl) rfl rfl rfl ?_; clear hf fa; intro fa hf
          apply wpList_nil
          (try simp only [Exit.then, Exit.inBlock, ↓reduceIte, Nat.reduceEqDiff])
          refine hK16 _ _ ?_
          refine wp_seq_k (fun K17 hK17 => ?_)
          refine wp_seq_k (fun K18 hK18 => ?_)
          refine wp_region_lit ?_
          refine sqv hf (r_fa rfl Tryd.underlying57 (f := 2) (q := 2) rfl (by kernel_rfl) rfl) rfl rfl rfl ?_; clear hf fa; intro fa hf
          refine sqv hf (r_load (v := (.int .i64 ((ofP op).1.2.2.1))) rfl Tryd.underlying3 rfl (cell_blk hk3 rfl)) rfl rfl rfl ?_; clear hf fa; intro fa hf
          apply wpList_nil
          (try simp only [Exit.then, Exit.inBlock, ↓reduceIte, Nat.reduceEqDiff])
          refine hK18 _ _ ?_
          refine wp_block ?_
          refine wp_seq_k (fun K19 hK19 => ?_)
          refine wp_seq_k (fun K20 hK20 => ?_)
          refine wp_region_lit ?_
          refine sqv hf (r_eq rfl rfl) rfl rfl rfl ?_; clear hf fa; intro fa hf
          refine sqv hf (r_assign rfl) rfl rfl rfl ?_; clear hf fa; intro fa hf
          apply wpList_nil
          (try simp only [Exit.then, Exit.inBlock, ↓reduceIte, Nat.reduceEqDiff])
          refine hK20 _ _ ?_
          refine wp_cond_split (t := (decide (((ofP op).1.2.2.1) = (0 : Int)))) (hf.ev rfl) (fun hqt52_1 => ?_) (fun hqt52_1 => ?_)
          · have hqt52_1b := hqt52_1
            try simp only [decide_eq_true_eq, Bool.and_eq_true, Bool.or_eq_true, Bool.not_eq_true', decide_eq_false_iff_not, ne_eq, Bool.not_eq_true] at hqt52_1
            refine wp_skip ?_
            (try simp only [Exit.then, Exit.inBlock, ↓reduceIte, Nat.reduceEqDiff])
            refine hK19 _ _ ?_
            refine wp_cond_true ((hf.ev rfl).trans (congrArg Value.bool (show (decide (((ofP op).1.2.2.1) = (0 : Int))) = true from hqt52_1b))) ?_
            refine wp_region_lit ?_
            refine sqv hf (r_fa rfl Tryd.underlying25 (f := 1) (q := 1) rfl (by kernel_rfl) rfl) rfl rfl rfl ?_; clear hf fa; intro fa hf
            refine sqv hf (r_load (v := (.int .u64 A)) rfl Tryd.underlying22 rfl (cell_blk hk1 rfl)) rfl rfl rfl ?_; clear hf fa; intro fa hf
            refine sqv hf (r_eq rfl rfl) rfl rfl rfl ?_; clear hf fa; intro fa hf
            refine sqv hf (r_assign rfl) rfl rfl rfl ?_; clear hf fa; intro fa hf
            apply wpList_nil
            (try simp only [Exit.then, Exit.inBlock, ↓reduceIte, Nat.reduceEqDiff])
            refine hK17 _ _ ?_
            refine wp_seq_k (fun K21 hK21 => ?_)
            refine wp_seq_k (fun K22 hK22 => ?_)
            refine wp_region_lit ?_
            refine sqv hf (r_move rfl) rfl rfl rfl ?_; clear hf fa; intro fa hf
            refine sqv hf (r_not rfl) rfl rfl rfl ?_; clear hf fa; intro fa hf
            apply wpList_nil
            (try simp only [Exit.then, Exit.inBlock, ↓reduceIte, Nat.reduceEqDiff])
            refine hK22 _ _ ?_
            refine wp_cond_split (t := (!(decide (A = (0 : Int))))) (hf.ev rfl) (fun hqt71_1 => ?_) (fun hqt71_1 => ?_)
            · have hqt71_1b := hqt71_1
              try simp only [decide_eq_true_eq, Bool.and_eq_true, Bool.or_eq_true, Bool.not_eq_true', decide_eq_false_iff_not, ne_eq, Bool.not_eq_true] at hqt71_1
              refine wp_seq_k (fun K23 hK23 => ?_)
              refine wp_region_lit ?_
              refine sqv hf (r_assign rfl) rfl rfl rfl ?_; clear hf fa; intro fa hf
              apply wpList_nil
              (try simp only [Exit.then, Exit.inBlock, ↓reduceIte, Nat.reduceEqDiff])
              refine hK23 _ _ ?_
              refine wp_ret ?_
              (try simp only [Exit.then, Exit.inBlock])
              refine ret1 hf rfl rfl ?_
              refine ⟨congrArg (fun n => Ending.returned (.int .i64 n)) ?_, hb⟩; rw [rp_c (by have h := hqt12_1; omega) (by have h := hqt29_1; omega) (by have h := hqt33_1; omega) (by have h := hqt41_1; omega)]; rw [if_pos (by have h0 := hqt52_1; omega), if_neg (by have h := hqt71_1; omega)]
            · have hqt71_1b := hqt71_1
              replace hqt71_1 := Bool.eq_false_iff.1 hqt71_1
              try simp only [ne_eq, decide_eq_true_eq, Bool.and_eq_true, Bool.or_eq_true, Bool.not_eq_true', decide_eq_false_iff_not] at hqt71_1
              refine wp_skip ?_
              (try simp only [Exit.then, Exit.inBlock, ↓reduceIte, Nat.reduceEqDiff])
              refine hK21 _ _ ?_
              refine wp_seq_k (fun K24 hK24 => ?_)
              refine wp_region_lit ?_
              refine sqv hf (r_assign rfl) rfl rfl rfl ?_; clear hf fa; intro fa hf
              apply wpList_nil
              (try simp only [Exit.then, Exit.inBlock, ↓reduceIte, Nat.reduceEqDiff])
              refine hK24 _ _ ?_
              refine wp_ret ?_
              (try simp only [Exit.then, Exit.inBlock])
              refine ret1 hf rfl rfl ?_
              refine ⟨congrArg (fun n => Ending.returned (.int .i64 n)) ?_, hb⟩; rw [rp_c (by have h := hqt12_1; omega) (by have h := hqt29_1; omega) (by have h := hqt33_1; omega) (by have h := hqt41_1; omega)]; rw [if_pos (by have h0 := hqt52_1; omega), if_pos (by have h := hqt71_1; omega)]
          · have hqt52_1b := hqt52_1
            replace hqt52_1 := Bool.eq_false_iff.1 hqt52_1
            try simp only [ne_eq, decide_eq_true_eq, Bool.and_eq_true, Bool.or_eq_true, Bool.not_eq_true', decide_eq_false_iff_not] at hqt52_1
            refine wp_region_lit ?_
            refine sqv hf (r_eq rfl rfl) rfl rfl rfl ?_; clear hf fa; intro fa hf
            refine sqv hf (r_assign rfl) rfl rfl rfl ?_; clear hf fa; intro fa hf
            apply wpList_nil
            (try simp only [Exit.then, Exit.inBlock, ↓reduceIte, Nat.reduceEqDiff])
            refine hK19 _ _ ?_
            refine wp_cond_split (t := (decide (((ofP op).1.2.2.1) = (9 : Int)))) (hf.ev rfl) (fun hqt52_3 => ?_) (fun hqt52_3 => ?_)
            · have hqt52_3b := hqt52_3
              try simp only [decide_eq_true_eq, Bool.and_eq_true, Bool.or_eq_true, Bool.not_eq_true', decide_eq_false_iff_not, ne_eq, Bool.not_eq_true] at hqt52_3
              refine wp_region_lit ?_
              refine sqv hf (r_fa rfl Tryd.underlying25 (f := 1) (q := 1) rfl (by kernel_rfl) rfl) rfl rfl rfl ?_; clear hf fa; intro fa hf
              refine sqv hf (r_load (v := (.int .u64 A)) rfl Tryd.underlying22 rfl (cell_blk hk1 rfl)) rfl rfl rfl ?_; clear hf fa; intro fa hf
              refine sqv hf (r_eq rfl rfl) rfl rfl rfl ?_; clear hf fa; intro fa hf
              refine sqv hf (r_assign rfl) rfl rfl rfl ?_; clear hf fa; intro fa hf
              apply wpList_nil
              (try simp only [Exit.then, Exit.inBlock, ↓reduceIte, Nat.reduceEqDiff])
              refine hK17 _ _ ?_
              refine wp_seq_k (fun K25 hK25 => ?_)
              refine wp_seq_k (fun K26 hK26 => ?_)
              refine wp_region_lit ?_
              refine sqv hf (r_move rfl) rfl rfl rfl ?_; clear hf fa; intro fa hf
              refine sqv hf (r_not rfl) rfl rfl rfl ?_; clear hf fa; intro fa hf
              apply wpList_nil
              (try simp only [Exit.then, Exit.inBlock, ↓reduceIte, Nat.reduceEqDiff])
              refine hK26 _ _ ?_
              refine wp_cond_split (t := (!(decide (A = (0 : Int))))) (hf.ev rfl) (fun hqt71_2 => ?_) (fun hqt71_2 => ?_)
              · have hqt71_2b := hqt71_2
                try simp only [decide_eq_true_eq, Bool.and_eq_true, Bool.or_eq_true, Bool.not_eq_true', decide_eq_false_iff_not, ne_eq, Bool.not_eq_true] at hqt71_2
                refine wp_seq_k (fun K27 hK27 => ?_)
                refine wp_region_lit ?_
                refine sqv hf (r_assign rfl) rfl rfl rfl ?_; clear hf fa; intro fa hf
                apply wpList_nil
                (try simp only [Exit.then, Exit.inBlock, ↓reduceIte, Nat.reduceEqDiff])
                refine hK27 _ _ ?_
                refine wp_ret ?_
                (try simp only [Exit.then, Exit.inBlock])
                refine ret1 hf rfl rfl ?_
                refine ⟨congrArg (fun n => Ending.returned (.int .i64 n)) ?_, hb⟩; rw [rp_c (by have h := hqt12_1; omega) (by have h := hqt29_1; omega) (by have h := hqt33_1; omega) (by have h := hqt41_1; omega)]; rw [if_pos (by have h0 := hqt52_1; have h1 := hqt52_3; omega), if_neg (by have h := hqt71_2; omega)]
              · have hqt71_2b := hqt71_2
                replace hqt71_2 := Bool.eq_false_iff.1 hqt71_2
                try simp only [ne_eq, decide_eq_true_eq, Bool.and_eq_true, Bool.or_eq_true, Bool.not_eq_true', decide_eq_false_iff_not] at hqt71_2
                refine wp_skip ?_
                (try simp only [Exit.then, Exit.inBlock, ↓reduceIte, Nat.reduceEqDiff])
                refine hK25 _ _ ?_
                refine wp_seq_k (fun K28 hK28 => ?_)
                refine wp_region_lit ?_
                refine sqv hf (r_assign rfl) rfl rfl rfl ?_; clear hf fa; intro fa hf
                apply wpList_nil
                (try simp only [Exit.then, Exit.inBlock, ↓reduceIte, Nat.reduceEqDiff])
                refine hK28 _ _ ?_
                refine wp_ret ?_
                (try simp only [Exit.then, Exit.inBlock])
                refine ret1 hf rfl rfl ?_
                refine ⟨congrArg (fun n => Ending.returned (.int .i64 n)) ?_, hb⟩; rw [rp_c (by have h := hqt12_1; omega) (by have h := hqt29_1; omega) (by have h := hqt33_1; omega) (by have h := hqt41_1; omega)]; rw [if_pos (by have h0 := hqt52_1; have h1 := hqt52_3; omega), if_pos (by have h := hqt71_2; omega)]
            · have hqt52_3b := hqt52_3
              replace hqt52_3 := Bool.eq_false_iff.1 hqt52_3
              try simp only [ne_eq, decide_eq_true_eq, Bool.and_eq_true, Bool.or_eq_true, Bool.not_eq_true', decide_eq_false_iff_not] at hqt52_3
              refine wp_seq_k (fun K29 hK29 => ?_)
              refine wp_region_lit ?_
              refine sqv hf (r_eq rfl rfl) rfl rfl rfl ?_; clear hf fa; intro fa hf
              refine sqv hf (r_assign rfl) rfl rfl rfl ?_; clear hf fa; intro fa hf
              apply wpList_nil
              (try simp only [Exit.then, Exit.inBlock, ↓reduceIte, Nat.reduceEqDiff])
              refine hK29 _ _ ?_
              refine wp_cond_split (t := (decide (((ofP op).1.2.2.1) = (1 : Int)))) (hf.ev rfl) (fun hqt58_1 => ?_) (fun hqt58_1 => ?_)
              · have hqt58_1b := hqt58_1
                try simp only [decide_eq_true_eq, Bool.and_eq_true, Bool.or_eq_true, Bool.not_eq_true', decide_eq_false_iff_not, ne_eq, Bool.not_eq_true] at hqt58_1
                refine wp_seq_k (fun K30 hK30 => ?_)
                refine wp_seq_k (fun K31 hK31 => ?_)
                refine wp_region_lit ?_
                refine sqv hf (r_fa rfl Tryd.underlying25 (f := 1) (q := 1) rfl (by kernel_rfl) rfl) rfl rfl rfl ?_; clear hf fa; intro fa hf
                refine sqv hf (r_load (v := (.int .u64 A)) rfl Tryd.underlying22 rfl (cell_blk hk1 rfl)) rfl rfl rfl ?_; clear hf fa; intro fa hf
                refine sqv hf (r_eq rfl rfl) rfl rfl rfl ?_; clear hf fa; intro fa hf
                apply wpList_nil
                (try simp only [Exit.then, Exit.inBlock, ↓reduceIte, Nat.reduceEqDiff])
                refine hK31 _ _ ?_
                refine wp_cond_split (t := (decide (A = (64 : Int)))) (hf.ev rfl) (fun hqt62_1 => ?_) (fun hqt62_1 => ?_)
                · have hqt62_1b := hqt62_1
                  try simp only [decide_eq_true_eq, Bool.and_eq_true, Bool.or_eq_true, Bool.not_eq_true', decide_eq_false_iff_not, ne_eq, Bool.not_eq_true] at hqt62_1
                  refine wp_seq_k (fun K32 hK32 => ?_)
                  refine wp_region_lit ?_
                  refine sqv hf (r_assign rfl) rfl rfl rfl ?_; clear hf fa; intro fa hf
                  apply wpList_nil
                  (try simp only [Exit.then, Exit.inBlock, ↓reduceIte, Nat.reduceEqDiff])
                  refine hK32 _ _ ?_
                  refine wp_ret ?_
                  (try simp only [Exit.then, Exit.inBlock])
                  refine ret1 hf rfl rfl ?_
                  refine ⟨congrArg (fun n => Ending.returned (.int .i64 n)) ?_, hb⟩; rw [rp_c (by have h := hqt12_1; omega) (by have h := hqt29_1; omega) (by have h := hqt33_1; omega) (by have h := hqt41_1; omega)]; rw [if_neg (by have h0 := hqt52_1; have h1 := hqt52_3; have h2 := hqt58_1; omega), if_pos (by have h0 := hqt52_1; have h1 := hqt52_3; have h2 := hqt58_1; omega)]; unfold blkP; rw [if_pos (by have h := hqt62_1; omega)]
                · have hqt62_1b := hqt62_1
                  replace hqt62_1 := Bool.eq_false_iff.1 hqt62_1
                  try simp only [ne_eq, decide_eq_true_eq, Bool.and_eq_true, Bool.or_eq_true, Bool.not_eq_true', decide_eq_false_iff_not] at hqt62_1
                  refine wp_skip ?_
                  (try simp only [Exit.then, Exit.inBlock, ↓reduceIte, Nat.reduceEqDiff])
                  refine hK30 _ _ ?_
                  refine wp_seq_k (fun K33 hK33 => ?_)
                  refine wp_region_lit ?_
                  refine sqv hf (r_fa rfl Tryd.underlying25 (f := 1) (q := 1) rfl (by kernel_rfl) rfl) rfl rfl rfl ?_; clear hf fa; intro fa hf
                  refine sqv hf (r_load (v := (.int .u64 A)) rfl Tryd.underlying22 rfl (cell_blk hk1 rfl)) rfl rfl rfl ?_; clear hf fa; intro fa hf
                  refine sqv hf (r_min rfl rfl) rfl rfl rfl ?_; clear hf fa; intro fa hf
                  refine sqv hf (r_conv (C := (if (256 : Int) < A then (256 : Int) else A)) rfl Tryd.underlying22 Tryd.underlying3 (by rw [IntKind.wrap_i64]; omega)) rfl rfl rfl ?_; clear hf fa; intro fa hf
                  refine sqdt hf (d_callB (vs := [(.int .i64 (if (256 : Int) < A then (256 : Int) else A))]) rfl Tryd.func30 (by kernel_rfl) (by kernel_rfl) (rval_any (if (256 : Int) < A then (256 : Int) else A) _)) rfl rfl rfl ?_; clear hf fa; rintro fa _ w6 ⟨rfl, he5⟩ hf
                  replace hk1 := blk_ext hk1 he5
                  replace hk3 := blk_ext hk3 he5
                  replace hb := hb.trans (Below.mono he5 hb.size)
                  refine sqv hf (r_assign rfl) rfl rfl rfl ?_; clear hf fa; intro fa hf
                  apply wpList_nil
                  (try simp only [Exit.then, Exit.inBlock, ↓reduceIte, Nat.reduceEqDiff])
                  refine hK33 _ _ ?_
                  refine wp_ret ?_
                  (try simp only [Exit.then, Exit.inBlock])
                  refine ret1 hf rfl rfl ?_
                  refine ⟨congrArg (fun n => Ending.returned (.int .i64 n)) ?_, hb⟩; rw [blk_val A (by have h := hqt62_1; omega)]; rw [rp_c (by have h := hqt12_1; omega) (by have h := hqt29_1; omega) (by have h := hqt33_1; omega) (by have h := hqt41_1; omega)]; rw [if_neg (by have h0 := hqt52_1; have h1 := hqt52_3; have h2 := hqt58_1; omega), if_pos (by have h0 := hqt52_1; have h1 := hqt52_3; have h2 := hqt58_1; omega)]
              · have hqt58_1b := hqt58_1
                replace hqt58_1 := Bool.eq_false_iff.1 hqt58_1
                try simp only [ne_eq, decide_eq_true_eq, Bool.and_eq_true, Bool.or_eq_true, Bool.not_eq_true', decide_eq_false_iff_not] at hqt58_1
                refine wp_seq_k (fun K34 hK34 => ?_)
                refine wp_region_lit ?_
                refine sqv hf (r_eq rfl rfl) rfl rfl rfl ?_; clear hf fa; intro fa hf
                refine sqv hf (r_assign rfl) rfl rfl rfl ?_; clear hf fa; intro fa hf
                apply wpList_nil
                (try simp only [Exit.then, Exit.inBlock, ↓reduceIte, Nat.reduceEqDiff])
                refine hK34 _ _ ?_
                refine wp_cond_split (t := (decide (((ofP op).1.2.2.1) = (11 : Int)))) (hf.ev rfl) (fun hqt68_1 => ?_) (fun hqt68_1 => ?_)
                · have hqt68_1b := hqt68_1
                  try simp only [decide_eq_true_eq, Bool.and_eq_true, Bool.or_eq_true, Bool.not_eq_true', decide_eq_false_iff_not, ne_eq, Bool.not_eq_true] at hqt68_1
                  refine wp_region_lit ?_
                  refine sqv hf (r_assign rfl) rfl rfl rfl ?_; clear hf fa; intro fa hf
                  apply wpList_nil
                  (try simp only [Exit.then, Exit.inBlock, ↓reduceIte, Nat.reduceEqDiff])
                  refine hK17 _ _ ?_
                  refine wp_seq_k (fun K35 hK35 => ?_)
                  refine wp_seq_k (fun K36 hK36 => ?_)
                  refine wp_region_lit ?_
                  refine sqv hf (r_move rfl) rfl rfl rfl ?_; clear hf fa; intro fa hf
                  refine sqv hf (Runs.veq (v' := (.bool false)) (r_not rfl) rfl) rfl rfl rfl ?_; clear hf fa; intro fa hf
                  apply wpList_nil
                  (try simp only [Exit.then, Exit.inBlock, ↓reduceIte, Nat.reduceEqDiff])
                  refine hK36 _ _ ?_
                  refine wp_cond_false (hf.ev rfl) ?_
                  refine wp_skip ?_
                  (try simp only [Exit.then, Exit.inBlock, ↓reduceIte, Nat.reduceEqDiff])
                  refine hK35 _ _ ?_
                  refine wp_seq_k (fun K37 hK37 => ?_)
                  refine wp_region_lit ?_
                  refine sqv hf (r_assign rfl) rfl rfl rfl ?_; clear hf fa; intro fa hf
                  apply wpList_nil
                  (try simp only [Exit.then, Exit.inBlock, ↓reduceIte, Nat.reduceEqDiff])
                  refine hK37 _ _ ?_
                  refine wp_ret ?_
                  (try simp only [Exit.then, Exit.inBlock])
                  refine ret1 hf rfl rfl ?_
                  refine ⟨congrArg (fun n => Ending.returned (.int .i64 n)) ?_, hb⟩; rw [rp_c (by have h := hqt12_1; omega) (by have h := hqt29_1; omega) (by have h := hqt33_1; omega) (by have h := hqt41_1; omega)]; rw [if_neg (by have h0 := hqt52_1; have h1 := hqt52_3; have h2 := hqt58_1; have h3 := hqt68_1; omega), if_neg (by have h0 := hqt52_1; have h1 := hqt52_3; have h2 := hqt58_1; have h3 := hqt68_1; omega), if_pos (by have h0 := hqt52_1; have h1 := hqt52_3; have h2 := hqt58_1; have h3 := hqt68_1; omega)]
                · have hqt68_1b := hqt68_1
                  replace hqt68_1 := Bool.eq_false_iff.1 hqt68_1
                  try simp only [ne_eq, decide_eq_true_eq, Bool.and_eq_true, Bool.or_eq_true, Bool.not_eq_true', decide_eq_false_iff_not] at hqt68_1
                  refine wp_skip ?_
                  (try simp only [Exit.then, Exit.inBlock, ↓reduceIte, Nat.reduceEqDiff])
                  refine hK17 _ _ ?_
                  refine wp_seq_k (fun K38 hK38 => ?_)
                  refine wp_seq_k (fun K39 hK39 => ?_)
                  refine wp_region_lit ?_
                  refine sqv hf (r_move rfl) rfl rfl rfl ?_; clear hf fa; intro fa hf
                  refine sqv hf (r_not rfl) rfl rfl rfl ?_; clear hf fa; intro fa hf
                  apply wpList_nil
                  (try simp only [Exit.then, Exit.inBlock, ↓reduceIte, Nat.reduceEqDiff])
                  refine hK39 _ _ ?_
                  refine wp_cond_split (t := (!((decide (A < (4294967296 : Int))) && (decide (B < (4294967296 : Int)))))) (hf.ev rfl) (fun hqt71_4 => ?_) (fun hqt71_4 => ?_)
                  · have hqt71_4b := hqt71_4
                    try simp only [decide_eq_true_eq, Bool.and_eq_true, Bool.or_eq_true, Bool.not_eq_true', decide_eq_false_iff_not, ne_eq, Bool.not_eq_true] at hqt71_4
                    refine wp_seq_k (fun K40 hK40 => ?_)
                    refine wp_region_lit ?_
                    refine sqv hf (r_assign rfl) rfl rfl rfl ?_; clear hf fa; intro fa hf
                    apply wpList_nil
                    (try simp only [Exit.then, Exit.inBlock, ↓reduceIte, Nat.reduceEqDiff])
                    refine hK40 _ _ ?_
                    refine wp_ret ?_
                    (try simp only [Exit.then, Exit.inBlock])
                    refine ret1 hf rfl rfl ?_
                    refine ⟨congrArg (fun n => Ending.returned (.int .i64 n)) ?_, hb⟩; rw [rp_c (by have h := hqt12_1; omega) (by have h := hqt29_1; omega) (by have h := hqt33_1; omega) (by have h := hqt41_1; omega)]; rw [if_neg (by have h0 := hqt52_1; have h1 := hqt52_3; have h2 := hqt58_1; have h3 := hqt68_1; omega), if_neg (by have h0 := hqt52_1; have h1 := hqt52_3; have h2 := hqt58_1; have h3 := hqt68_1; omega), if_neg (by have h0 := hqt52_1; have h1 := hqt52_3; have h2 := hqt58_1; have h3 := hqt68_1; omega), if_neg (by intro hh; have h := hqt71_4; simp [hh.1, hh.2] at h)]
                  · have hqt71_4b := hqt71_4
                    replace hqt71_4 := Bool.eq_false_iff.1 hqt71_4
                    try simp only [ne_eq, decide_eq_true_eq, Bool.and_eq_true, Bool.or_eq_true, Bool.not_eq_true', decide_eq_false_iff_not] at hqt71_4
                    refine wp_skip ?_
                    (try simp only [Exit.then, Exit.inBlock, ↓reduceIte, Nat.reduceEqDiff])
                    refine hK38 _ _ ?_
                    refine wp_seq_k (fun K41 hK41 => ?_)
                    refine wp_region_lit ?_
                    refine sqv hf (r_assign rfl) rfl rfl rfl ?_; clear hf fa; intro fa hf
                    apply wpList_nil
                    (try simp only [Exit.then, Exit.inBlock, ↓reduceIte, Nat.reduceEqDiff])
                    refine hK41 _ _ ?_
                    refine wp_ret ?_
                    (try simp only [Exit.then, Exit.inBlock])
                    refine ret1 hf rfl rfl ?_
                    refine ⟨congrArg (fun n => Ending.returned (.int .i64 n)) ?_, hb⟩; rw [rp_c (by have h := hqt12_1; omega) (by have h := hqt29_1; omega) (by have h := hqt33_1; omega) (by have h := hqt41_1; omega)]; rw [if_neg (by have h0 := hqt52_1; have h1 := hqt52_3; have h2 := hqt58_1; have h3 := hqt68_1; omega), if_neg (by have h0 := hqt52_1; have h1 := hqt52_3; have h2 := hqt58_1; have h3 := hqt68_1; omega), if_neg (by have h0 := hqt52_1; have h1 := hqt52_3; have h2 := hqt58_1; have h3 := hqt68_1; omega), if_pos (by have h := hqt71_4; simpa using h)]
end Go.Proofs.YtpalmpfkliepfaaDoor
