/- What is proved here: the reference's memory instructions. -/
import Derived.Test.YtmcmickgllffoaaCwGp
namespace Go.Proofs.Ytmcmickgllffoaa
open Go.RowKit
set_option linter.unusedVariables false
set_option linter.unusedSimpArgs false
def widS (s : ByteArray) (wd : Int) (i : Nat) : Int := if i < 3 then wd else if sbt s i = 56 then 1 else if s.extract i (i + 2) = ⟨#[49, 54]⟩ then 2 else if s.extract i (i + 2) = ⟨#[51, 50]⟩ then 4 else wd
def widF (s : ByteArray) : Nat → Int → Nat → Int
  | 0, wd, _ => wd
  | n + 1, wd, i => widF s n (widS s wd i) (i + 1)
theorem widF_step {s : ByteArray} {wd : Int} {i : Nat} (h : i + 1 < s.size) : widF s (s.size - 1 - i) wd i = widF s (s.size - 1 - (i + 1)) (widS s wd i) (i + 1) := by
  obtain ⟨m, h1, h2⟩ : ∃ m, s.size - 1 - i = m + 1 ∧ s.size - 1 - (i + 1) = m := ⟨s.size - 2 - i, by omega, by omega⟩
  rw [h1, h2, widF]
def okD (op : Nat) : Bool := (ofP op).2 && decide ((ofP op).1.2.2.1 = 8)
def accD (op : Nat) : Int × Bool × Bool × Bool × Bool := if okD op = true then
    (if sbt (ofP op).1.2.1 ((ofP op).1.2.1.size - 1) = 56 then 1 else widF (ofP op).1.2.1 ((ofP op).1.2.1.size - 1) (if (ofP op).1.2.1.extract 0 3 = ⟨#[105, 54, 52]⟩ then 8 else 4) 0, decide ((ofP op).1.2.1.extract 0 3 = ⟨#[105, 54, 52]⟩), decide ((((ofP op).1.2.2.2.1.size : Nat) : Int) = (2 : Int)), decide ((ofP op).1.2.1.extract ((ofP op).1.2.1.size - 2) (ofP op).1.2.1.size = ⟨#[95, 115]⟩), true)
  else (0, false, false, false, false)
theorem accD_tab : ∀ j : Fin 256, accD j.val = ((accT j.val).1, decide ((accT j.val).2.1 = 126), (accT j.val).2.2.1, (accT j.val).2.2.2.1, (accT j.val).2.2.2.2) ∧ (okD j.val = true → 3 ≤ (ofP j.val).1.2.1.size ∧ (ofP j.val).1.2.1.size ≤ 1000) := by decide +kernel
theorem accD_eq {op : Nat} (hop : op < 256) : accD op = ((accT op).1, decide ((accT op).2.1 = 126), (accT op).2.2.1, (accT op).2.2.2.1, (accT op).2.2.2.2) := (accD_tab ⟨op, hop⟩).1
theorem okD_size {op : Nat} (hop : op < 256) (h : okD op = true) : 3 ≤ (ofP op).1.2.1.size ∧ (ofP op).1.2.1.size ≤ 1000 := by
  have t := (accD_tab ⟨op, hop⟩).2
  dsimp only at t
  exact t h

theorem ret5 {P : Program} {fn : Func} {R : Ending → World → Prop} {a : Act} {w : World} {N : Nat} {L : List (Nat × Value)} {t t2 t3 t4 t5 : Tmp} {v v2 v3 v4 v5 : Value} (hf : Fr N a L) (hr : fn.results = #[.tmp t, .tmp t2, .tmp t3, .tmp t4, .tmp t5]) (hv : lk L t = some v) (hv2 : lk L t2 = some v2) (hv3 : lk L t3 = some v3) (hv4 : lk L t4 = some v4) (hv5 : lk L t5 = some v5) (hR : R (.returned (.tuple #[v, v2, v3, v4, v5])) w) : bodyPost P fn R .ret a w :=
  bodyPost_ret (v := .tuple #[v, v2, v3, v4, v5]) (by simp [results, hr, hf.has t v hv, hf.has t2 v2 hv2, hf.has t3 v3 hv3, hf.has t4 v4 hv4, hf.has t5 v5 hv5]) hf.defers hR

set_option maxHeartbeats 1000000 in
set_option maxRecDepth 100000 in
theorem racc_any (op : Nat) (w : World) (hop : op < 256) : Calls Try.prog 47 #[(.int .i64 ((op : Nat) : Int))] w fun e w' => e = .returned (.tuple #[.int .i64 (accT op).1, .bool (decide ((accT op).2.1 = 126)), .bool (accT op).2.2.1, .bool (accT op).2.2.2.1, .bool (accT op).2.2.2.2]) ∧ Below w.heap.size w w' := by
  refine sx_enter (L := [(0, (.int .i64 ((op : Nat) : Int)))]) Try.func47 rfl rfl rfl rfl (fun fa hf => ?_)
  have hb : Below w.heap.size w w := Below.refl _ _
  refine wp_seq_k (fun K1 hK1 => ?_)
  refine wp_region_lit ?_
  refine sqv hf (r_assign rfl) rfl rfl rfl ?_; clear hf fa; intro fa hf
  refine sqv hf (r_assign rfl) rfl rfl rfl ?_; clear hf fa; intro fa hf
  refine sqv hf (r_assign rfl) rfl rfl rfl ?_; clear hf fa; intro fa hf
  refine sqv hf (r_assign rfl) rfl rfl rfl ?_; clear hf fa; intro fa hf
  refine sqv hf (r_assign rfl) rfl rfl rfl ?_; clear hf fa; intro fa hf
  apply wpList_nil
  (try simp only [Exit.then, Exit.inBlock, ↓reduceIte, Nat.reduceEqDiff])
  refine hK1 _ _ ?_
  refine wp_seq_k (fun K2 hK2 => ?_)
  refine wp_region_lit ?_
  refine sqv hf (r_move rfl) rfl rfl rfl ?_; clear hf fa; intro fa hf
  refine sqdt hf (d_callB (vs := [(.int .i64 ((op : Nat) : Int))]) rfl Try.func75 (by kernel_rfl) (by kernel_rfl) (of_any op _ hop)) rfl rfl rfl ?_; clear hf fa; rintro fa _ w1 ⟨rfl, he1⟩ hf
  replace hb := hb.trans (Below.mono he1 hb.size)
  refine sqv hf (r_move rfl) rfl rfl rfl ?_; clear hf fa; intro fa hf
  refine sqv hf (r_extract rfl (i := 0) rfl) rfl rfl rfl ?_; clear hf fa; intro fa hf
  refine sqv hf (r_extract rfl (i := 1) rfl) rfl rfl rfl ?_; clear hf fa; intro fa hf
  refine sqdt hf (d_alloc (z := (.agg #[(.int .i64 (0 : Int)), (.string ⟨#[]⟩), (.int .i64 (0 : Int)), (.string ⟨#[]⟩), (.string ⟨#[]⟩), (.bool false)])) (cs := #[(.int .i64 (0 : Int)), (.string ⟨#[]⟩), (.int .i64 (0 : Int)), (.string ⟨#[]⟩), (.string ⟨#[]⟩), (.bool false)]) (by kernel_rfl) rfl) rfl rfl rfl ?_; clear hf fa; rintro fa _ w2 ⟨b1, rfl, hle1, hk1, he2⟩ hf
  have hBb1 : w.heap.size ≤ b1 := Nat.le_trans hb.size hle1
  replace hb := hb.trans (Below.mono he2 hb.size)
  refine sqn hf (d_storeK (T := 146) (v := (.agg #[(.int .i64 ((ofP op).1.1)), (.string (ofP op).1.2.1), (.int .i64 ((ofP op).1.2.2.1)), (.string (ofP op).1.2.2.2.1), (.string (ofP op).1.2.2.2.2.1), (.bool (ofP op).1.2.2.2.2.2.1)])) (cs := #[(.int .i64 (0 : Int)), (.string ⟨#[]⟩), (.int .i64 (0 : Int)), (.string ⟨#[]⟩), (.string ⟨#[]⟩), (.bool false)]) (cs' := #[(.int .i64 ((ofP op).1.1)), (.string (ofP op).1.2.1), (.int .i64 ((ofP op).1.2.2.1)), (.string (ofP op).1.2.2.2.1), (.string (ofP op).1.2.2.2.2.1), (.bool (ofP op).1.2.2.2.2.2.1)]) rfl rfl (by kernel_rfl) (by kernel_rfl) hk1 (by kernel_rfl) (by kernel_rfl)) rfl rfl ?_; clear hf fa; rintro fa _ w3 ⟨hk2, hg1⟩ hf
  replace hb := hb.trans (grown_below hg1 hb.size hBb1)
  refine sqv hf (r_assign rfl) rfl rfl rfl ?_; clear hf fa; intro fa hf
  apply wpList_nil
  (try simp only [Exit.then, Exit.inBlock, ↓reduceIte, Nat.reduceEqDiff])
  refine hK2 _ _ ?_
  refine wp_seq_k (fun K3 hK3 => ?_)
  refine wp_seq_k (fun K4 hK4 => ?_)
  refine wp_region_lit ?_
  refine sqv hf (r_move rfl) rfl rfl rfl ?_; clear hf fa; intro fa hf
  refine sqv hf (r_not rfl) rfl rfl rfl ?_; clear hf fa; intro fa hf
  refine sqv hf (r_move rfl) rfl rfl rfl ?_; clear hf fa; intro fa hf
  refine sqgF (act := (!(!(ofP op).2))) (ag := true) (c := (!(ofP op).2)) (v := (.pointer (some ⟨b1, 2, none⟩))) hf rfl rfl rfl (fun hact => (r_fa rfl Try.underlying146 (f := 2) (q := 2) rfl (by kernel_rfl) rfl)) rfl rfl ?_; clear hf fa; intro fa hf
  refine sqgF (act := (!(!(ofP op).2))) (ag := true) (c := (!(ofP op).2)) (v := (.int .i64 ((ofP op).1.2.2.1))) hf rfl rfl rfl (fun hact => (r_load (v := (.int .i64 ((ofP op).1.2.2.1))) (gb_ev hact rfl) Try.underlying3 rfl (cell_blk hk2 rfl))) rfl rfl ?_; clear hf fa; intro fa hf
  refine sqgF (act := (!(!(ofP op).2))) (ag := true) (c := (!(ofP op).2)) (v := (.bool (decide (((ofP op).1.2.2.1) ≠ (8 : Int))))) hf rfl rfl rfl (fun hact => (r_ne (gb_ev hact rfl) rfl)) rfl rfl ?_; clear hf fa; intro fa hf
  refine sqv hf (r_pickO (b := (!(ofP op).2)) (e := (decide (((ofP op).1.2.2.1) ≠ (8 : Int)))) rfl rfl rfl) rfl rfl rfl ?_; clear hf fa; intro fa hf
  apply wpList_nil
  (try simp only [Exit.then, Exit.inBlock, ↓reduceIte, Nat.reduceEqDiff])
  refine hK4 _ _ ?_
  refine wp_cond_split (t := ((!(ofP op).2) || (decide (((ofP op).1.2.2.1) ≠ (8 : Int))))) (hf.ev rfl) (fun hqt23_1 => ?_) (fun hqt23_1 => ?_)
  · have hqt23_1b := hqt23_1
    try simp only [decide_eq_true_eq, Bool.and_eq_true, Bool.or_eq_true, Bool.not_eq_true', decide_eq_false_iff_not, ne_eq, Bool.not_eq_true] at hqt23_1
    refine wp_seq_k (fun K5 hK5 => ?_)
    refine wp_region_lit ?_
    refine sqv hf (r_assign rfl) rfl rfl rfl ?_; clear hf fa; intro fa hf
    refine sqv hf (r_assign rfl) rfl rfl rfl ?_; clear hf fa; intro fa hf
    refine sqv hf (r_assign rfl) rfl rfl rfl ?_; clear hf fa; intro fa hf
    refine sqv hf (r_assign rfl) rfl rfl rfl ?_; clear hf fa; intro fa hf
    refine sqv hf (r_assign rfl) rfl rfl rfl ?_; clear hf fa; intro fa hf
    apply wpList_nil
    (try simp only [Exit.then, Exit.inBlock, ↓reduceIte, Nat.reduceEqDiff])
    refine hK5 _ _ ?_
    refine wp_ret ?_
    (try simp only [Exit.then, Exit.inBlock])
    refine ret5 hf rfl rfl rfl rfl rfl rfl ?_
    have hD : accD op = (0, false, false, false, false) := by unfold accD; rw [if_neg (by unfold okD; have h := hqt23_1; simp only [Bool.and_eq_true, decide_eq_true_eq, not_and]; intro h1 h2; simp [h1, h2] at h)]
    rw [accD_eq hop] at hD
    exact ⟨by rw [show (accT op).1 = 0 from congrArg (·.1) hD, show decide ((accT op).2.1 = 126) = false from congrArg (·.2.1) hD, show (accT op).2.2.1 = false from congrArg (·.2.2.1) hD, show (accT op).2.2.2.1 = false from congrArg (·.2.2.2.1) hD, show (accT op).2.2.2.2 = false from congrArg (·.2.2.2.2) hD], hb⟩
  · have hqt23_1b := hqt23_1
    replace hqt23_1 := Bool.eq_false_iff.1 hqt23_1
    try simp only [ne_eq, decide_eq_true_eq, Bool.and_eq_true, Bool.or_eq_true, Bool.not_eq_true', decide_eq_false_iff_not] at hqt23_1
    refine wp_skip ?_
    (try simp only [Exit.then, Exit.inBlock, ↓reduceIte, Nat.reduceEqDiff])
    refine hK3 _ _ ?_
    refine wp_seq_k (fun K6 hK6 => ?_)
    have hok : okD op = true := by unfold okD; have h := hqt23_1; simp only [Bool.or_eq_true, not_or, Bool.not_eq_true, Bool.not_eq_false', Bool.not_not, Bool.not_eq_true', Bool.not_eq_eq_eq_not, Bool.not_true, Bool.not_false] at h; rw [Bool.and_eq_true, decide_eq_true_eq]; exact ⟨by simpa using h.1, by have := h.2; omega⟩
    obtain ⟨hN3, hN9⟩ := okD_size hop hok
    refine wp_region_lit ?_
    refine sqv hf (r_fa rfl Try.underlying146 (f := 1) (q := 1) rfl (by kernel_rfl) rfl) rfl rfl rfl ?_; clear hf fa; intro fa hf
    refine sqv hf (r_load (v := (.string (ofP op).1.2.1)) rfl Try.underlying9 rfl (cell_blk hk2 rfl)) rfl rfl rfl ?_; clear hf fa; intro fa hf
    refine sqv hf (r_sslice (a := 0) (b := 3) (k1 := .i64) (k2 := .i64) (A := 0) (B := (3 : Int)) rfl Try.underlying9 (.inl ⟨rfl, rfl⟩) (.inr ⟨_, rfl, rfl, rfl⟩) (by omega) (by omega)) rfl rfl rfl ?_; clear hf fa; intro fa hf
    refine sqv hf (r_seq rfl rfl) rfl rfl rfl ?_; clear hf fa; intro fa hf
    refine sqv hf (r_assign rfl) rfl rfl rfl ?_; clear hf fa; intro fa hf
    apply wpList_nil
    (try simp only [Exit.then, Exit.inBlock, ↓reduceIte, Nat.reduceEqDiff])
    refine hK6 _ _ ?_
    refine wp_seq_k (fun K7 hK7 => ?_)
    refine wp_region_lit ?_
    refine sqv hf (r_assign rfl) rfl rfl rfl ?_; clear hf fa; intro fa hf
    apply wpList_nil
    (try simp only [Exit.then, Exit.inBlock, ↓reduceIte, Nat.reduceEqDiff])
    refine hK7 _ _ ?_
    refine wp_cut_k (fun fa wr => ∃ (wd : Int), Fr 84 fa [(0, (.int .i64 ((op : Nat) : Int))), (7, (.pointer (some ⟨b1, 0, none⟩))), (9, (.bool (decide (((ofP op).1.2.1.extract 0 3) = ⟨#[105, 54, 52]⟩)))), (10, (.int .i64 wd))] ∧ Below w.heap.size w wr ∧ wr.heap[b1]? = some (.cells #[(.int .i64 ((ofP op).1.1)), (.string (ofP op).1.2.1), (.int .i64 ((ofP op).1.2.2.1)), (.string (ofP op).1.2.2.2.1), (.string (ofP op).1.2.2.2.2.1), (.bool (ofP op).1.2.2.2.2.2.1)] 146 (0, 0)) ∧ (wd = if (ofP op).1.2.1.extract 0 3 = ⟨#[105, 54, 52]⟩ then 8 else 4)) (fun KC1 hKC1 => ?_) ?_
    · skip
      refine wp_seq_k (fun K9 hK9 => ?_)
      refine wp_region_lit ?_
      refine sqv hf (r_move rfl) rfl rfl rfl ?_; clear hf fa; intro fa hf
      apply wpList_nil
      (try simp only [Exit.then, Exit.inBlock, ↓reduceIte, Nat.reduceEqDiff])
      refine hK9 _ _ ?_
      refine wp_cond_split (t := (decide (((ofP op).1.2.1.extract 0 3) = ⟨#[105, 54, 52]⟩))) (hf.ev rfl) (fun hqt28_1 => ?_) (fun hqt28_1 => ?_)
      · have hqt28_1b := hqt28_1
        try simp only [decide_eq_true_eq, Bool.and_eq_true, Bool.or_eq_true, Bool.not_eq_true', decide_eq_false_iff_not, ne_eq, Bool.not_eq_true] at hqt28_1
        refine wp_region_lit ?_
        refine sqv hf (r_assign rfl) rfl rfl rfl ?_; clear hf fa; intro fa hf
        apply wpList_nil
        (try simp only [Exit.then, Exit.inBlock, ↓reduceIte, Nat.reduceEqDiff])
        exact hKC1 _ _ ⟨(8 : Int), hf.sub ⟨rfl, rfl, rfl, rfl, trivial⟩, hb, hk2, (by rw [if_pos (by have h := hqt28_1; simpa using h)])⟩
      · have hqt28_1b := hqt28_1
        replace hqt28_1 := Bool.eq_false_iff.1 hqt28_1
        try simp only [ne_eq, decide_eq_true_eq, Bool.and_eq_true, Bool.or_eq_true, Bool.not_eq_true', decide_eq_false_iff_not] at hqt28_1
        refine wp_skip ?_
        (try simp only [Exit.then, Exit.inBlock, ↓reduceIte, Nat.reduceEqDiff])
        exact hKC1 _ _ ⟨(4 : Int), hf.sub ⟨rfl, rfl, rfl, rfl, trivial⟩, hb, hk2, (by rw [if_neg (by have h := hqt28_1; simpa using h)])⟩
    · clear hf hb fa hk2
      rintro fa w4 ⟨wd, hf, hb, hkb1, hwd⟩
      refine wp_seq_k (fun K10 hK10 => ?_)
      refine wp_seq_k (fun K11 hK11 => ?_)
      refine wp_region_lit ?_
      refine sqv hf (r_assign rfl) rfl rfl rfl ?_; clear hf fa; intro fa hf
      apply wpList_nil
      (try simp only [Exit.then, Exit.inBlock, ↓reduceIte, Nat.reduceEqDiff])
      refine hK11 _ _ ?_
      refine wp_block ?_
      refine wp_loop_k (fun mq fa wr => ∃ (wl : Int) (i : Nat), mq = (ofP op).1.2.1.size - i ∧ Fr 84 fa [(0, (.int .i64 ((op : Nat) : Int))), (7, (.pointer (some ⟨b1, 0, none⟩))), (9, (.bool (decide (((ofP op).1.2.1.extract 0 3) = ⟨#[105, 54, 52]⟩)))), (10, (.int .i64 wl)), (11, (.int .i64 ((i : Nat) : Int)))] ∧ Below w.heap.size w wr ∧ wr.heap[b1]? = some (.cells #[(.int .i64 ((ofP op).1.1)), (.string (ofP op).1.2.1), (.int .i64 ((ofP op).1.2.2.1)), (.string (ofP op).1.2.2.2.1), (.string (ofP op).1.2.2.2.2.1), (.bool (ofP op).1.2.2.2.2.2.1)] 146 (0, 0)) ∧ (i + 1 ≤ (ofP op).1.2.1.size) ∧ (widF (ofP op).1.2.1 ((ofP op).1.2.1.size - 1 - i) wl i = widF (ofP op).1.2.1 ((ofP op).1.2.1.size - 1) wd 0)) ?_ ?_
      · skip
        exact ⟨_, wd, 0, rfl, hf.sub ⟨rfl, rfl, rfl, rfl, (some_int (by first | rfl | omega)), trivial⟩, hb, hkb1, by omega, rfl⟩
      · skip
        clear hf fa; intro mq1 fa w5 hI KL1 hKL1
        clear hb
        clear hkb1
        obtain ⟨wl, i, hmq1, hf, hb, hkb1, hi, hF⟩ := hI
        refine wp_seq_k (fun K12 hK12 => ?_)
        refine wp_seq_k (fun K13 hK13 => ?_)
        refine wp_region_lit ?_
        refine sqv hf (r_move rfl) rfl rfl rfl ?_; clear hf fa; intro fa hf
        refine sqv hf (r_add (C := (((i : Nat) : Int) + (1 : Int))) rfl rfl (by rw [IntKind.wrap_i64]; omega)) rfl rfl rfl ?_; clear hf fa; intro fa hf
        refine sqv hf (r_fa rfl Try.underlying146 (f := 1) (q := 1) rfl (by kernel_rfl) rfl) rfl rfl rfl ?_; clear hf fa; intro fa hf
        refine sqv hf (r_load (v := (.string (ofP op).1.2.1)) rfl Try.underlying9 rfl (cell_blk hkb1 rfl)) rfl rfl rfl ?_; clear hf fa; intro fa hf
        refine sqv hf (r_lens rfl Try.underlying9) rfl rfl rfl ?_; clear hf fa; intro fa hf
        refine sqv hf (r_lt rfl rfl) rfl rfl rfl ?_; clear hf fa; intro fa hf
        apply wpList_nil
        (try simp only [Exit.then, Exit.inBlock, ↓reduceIte, Nat.reduceEqDiff])
        refine hK13 _ _ ?_
        refine wp_cond_split (t := (decide ((((i : Nat) : Int) + (1 : Int)) < (((ofP op).1.2.1.size : Nat) : Int)))) (hf.ev rfl) (fun hqt34_1 => ?_) (fun hqt34_1 => ?_)
        · have hqt34_1b := hqt34_1
          try simp only [decide_eq_true_eq, Bool.and_eq_true, Bool.or_eq_true, Bool.not_eq_true', decide_eq_false_iff_not, ne_eq, Bool.not_eq_true] at hqt34_1
          refine wp_skip ?_
          (try simp only [Exit.then, Exit.inBlock, ↓reduceIte, Nat.reduceEqDiff])
          refine hK12 _ _ ?_
          refine wp_seq_k (fun K14 hK14 => ?_)
          refine wp_block ?_
          refine wp_block ?_
          refine wp_seq_k (fun K15 hK15 => ?_)
          refine wp_region_lit ?_
          refine sqv hf (r_move rfl) rfl rfl rfl ?_; clear hf fa; intro fa hf
          refine sqv hf (r_lt rfl rfl) rfl rfl rfl ?_; clear hf fa; intro fa hf
          refine sqv hf (r_assign rfl) rfl rfl rfl ?_; clear hf fa; intro fa hf
          apply wpList_nil
          (try simp only [Exit.then, Exit.inBlock, ↓reduceIte, Nat.reduceEqDiff])
          refine hK15 _ _ ?_
          refine wp_cond_split (t := (decide (((i : Nat) : Int) < (3 : Int)))) (hf.ev rfl) (fun hqt37_1 => ?_) (fun hqt37_1 => ?_)
          · have hqt37_1b := hqt37_1
            try simp only [decide_eq_true_eq, Bool.and_eq_true, Bool.or_eq_true, Bool.not_eq_true', decide_eq_false_iff_not, ne_eq, Bool.not_eq_true] at hqt37_1
            refine wp_skip ?_
            (try simp only [Exit.then, Exit.inBlock, ↓reduceIte, Nat.reduceEqDiff])
            refine hK14 _ _ ?_
            refine wp_region_lit ?_
            refine sqv hf (r_move rfl) rfl rfl rfl ?_; clear hf fa; intro fa hf
            refine sqv hf (r_add (C := (((i : Nat) : Int) + (1 : Int))) rfl rfl (by rw [IntKind.wrap_i64]; omega)) rfl rfl rfl ?_; clear hf fa; intro fa hf
            refine sqv hf (r_assign rfl) rfl rfl rfl ?_; clear hf fa; intro fa hf
            apply wpList_nil
            (try simp only [Exit.then, Exit.inBlock, ↓reduceIte, Nat.reduceEqDiff])
            refine hKL1 _ _ _ (by omega) ⟨wl, (i + 1), rfl, hf.sub ⟨rfl, rfl, rfl, rfl, (some_int (by first | rfl | omega)), trivial⟩, hb, hkb1, by omega, (by rw [← hF, widF_step (i := i) (by omega)]; unfold widS; rw [if_pos (by have h := hqt37_1; omega)])⟩
          · have hqt37_1b := hqt37_1
            replace hqt37_1 := Bool.eq_false_iff.1 hqt37_1
            try simp only [ne_eq, decide_eq_true_eq, Bool.and_eq_true, Bool.or_eq_true, Bool.not_eq_true', decide_eq_false_iff_not] at hqt37_1
            refine wp_seq_k (fun K16 hK16 => ?_)
            refine wp_region_lit ?_
            refine sqv hf (r_fa rfl Try.underlying146 (f := 1) (q := 1) rfl (by kernel_rfl) rfl) rfl rfl rfl ?_; clear hf fa; intro fa hf
            refine sqv hf (r_load (v := (.string (ofP op).1.2.1)) rfl Try.underlying9 rfl (cell_blk hkb1 rfl)) rfl rfl rfl ?_; clear hf fa; intro fa hf
            refine sqv hf (r_move rfl) rfl rfl rfl ?_; clear hf fa; intro fa hf
            refine sqv hf (r_sindexD (j := i) rfl rfl Try.underlying9 rfl (by omega)) rfl rfl rfl ?_; clear hf fa; intro fa hf
            refine sqv hf (r_eq rfl rfl) rfl rfl rfl ?_; clear hf fa; intro fa hf
            refine sqv hf (r_assign rfl) rfl rfl rfl ?_; clear hf fa; intro fa hf
            apply wpList_nil
            (try simp only [Exit.then, Exit.inBlock, ↓reduceIte, Nat.reduceEqDiff])
            refine hK16 _ _ ?_
            refine wp_cond_split (t := (decide (((sbt (ofP op).1.2.1 i : Nat) : Int) = (56 : Int)))) (hf.ev rfl) (fun hqt40_1 => ?_) (fun hqt40_1 => ?_)
            · have hqt40_1b := hqt40_1
              try simp only [decide_eq_true_eq, Bool.and_eq_true, Bool.or_eq_true, Bool.not_eq_true', decide_eq_false_iff_not, ne_eq, Bool.not_eq_true] at hqt40_1
              refine wp_region_lit ?_
              refine sqv hf (r_assign rfl) rfl rfl rfl ?_; clear hf fa; intro fa hf
              apply wpList_nil
              (try simp only [Exit.then, Exit.inBlock, ↓reduceIte, Nat.reduceEqDiff])
              refine hK14 _ _ ?_
              refine wp_region_lit ?_
              refine sqv hf (r_move rfl) rfl rfl rfl ?_; clear hf fa; intro fa hf
              refine sqv hf (r_add (C := (((i : Nat) : Int) + (1 : Int))) rfl rfl (by rw [IntKind.wrap_i64]; omega)) rfl rfl rfl ?_; clear hf fa; intro fa hf
              refine sqv hf (r_assign rfl) rfl rfl rfl ?_; clear hf fa; intro fa hf
              apply wpList_nil
              (try simp only [Exit.then, Exit.inBlock, ↓reduceIte, Nat.reduceEqDiff])
              refine hKL1 _ _ _ (by omega) ⟨(1 : Int), (i + 1), rfl, hf.sub ⟨rfl, rfl, rfl, rfl, (some_int (by first | rfl | omega)), trivial⟩, hb, hkb1, by omega, (by rw [← hF, widF_step (i := i) (by omega)]; unfold widS; rw [if_neg (by have h := hqt37_1; omega), if_pos (by have h := hqt40_1; omega)])⟩
            · have hqt40_1b := hqt40_1
              replace hqt40_1 := Bool.eq_false_iff.1 hqt40_1
              try simp only [ne_eq, decide_eq_true_eq, Bool.and_eq_true, Bool.or_eq_true, Bool.not_eq_true', decide_eq_false_iff_not] at hqt40_1
              refine wp_seq_k (fun K17 hK17 => ?_)
              refine wp_region_lit ?_
              refine sqv hf (r_fa rfl Try.underlying146 (f := 1) (q := 1) rfl (by kernel_rfl) rfl) rfl rfl rfl ?_; clear hf fa; intro fa hf
              refine sqv hf (r_load (v := (.string (ofP op).1.2.1)) rfl Try.underlying9 rfl (cell_blk hkb1 rfl)) rfl rfl rfl ?_; clear hf fa; intro fa hf
              refine sqv hf (r_move rfl) rfl rfl rfl ?_; clear hf fa; intro fa hf
              refine sqv hf (r_move rfl) rfl rfl rfl ?_; clear hf fa; intro fa hf
              refine sqv hf (r_add (C := (((i : Nat) : Int) + (2 : Int))) rfl rfl (by rw [IntKind.wrap_i64]; omega)) rfl rfl rfl ?_; clear hf fa; intro fa hf
              refine sqv hf (r_sslice (a := i) (b := (i + 2)) (k1 := .i64) (k2 := .i64) (A := ((i : Nat) : Int)) (B := (((i : Nat) : Int) + (2 : Int))) rfl Try.underlying9 (.inr ⟨_, rfl, rfl, rfl⟩) (.inr ⟨_, rfl, rfl, rfl⟩) (by omega) (by omega)) rfl rfl rfl ?_; clear hf fa; intro fa hf
              refine sqv hf (r_seq rfl rfl) rfl rfl rfl ?_; clear hf fa; intro fa hf
              refine sqv hf (r_assign rfl) rfl rfl rfl ?_; clear hf fa; intro fa hf
              apply wpList_nil
              (try simp only [Exit.then, Exit.inBlock, ↓reduceIte, Nat.reduceEqDiff])
              refine hK17 _ _ ?_
              refine wp_cond_split (t := (decide (((ofP op).1.2.1.extract i (i + 2)) = ⟨#[49, 54]⟩))) (hf.ev rfl) (fun hqt46_1 => ?_) (fun hqt46_1 => ?_)
              · have hqt46_1b := hqt46_1
                try simp only [decide_eq_true_eq, Bool.and_eq_true, Bool.or_eq_true, Bool.not_eq_true', decide_eq_false_iff_not, ne_eq, Bool.not_eq_true] at hqt46_1
                refine wp_region_lit ?_
                refine sqv hf (r_assign rfl) rfl rfl rfl ?_; clear hf fa; intro fa hf
                apply wpList_nil
                (try simp only [Exit.then, Exit.inBlock, ↓reduceIte, Nat.reduceEqDiff])
                refine hK14 _ _ ?_
                refine wp_region_lit ?_
                refine sqv hf (r_move rfl) rfl rfl rfl ?_; clear hf fa; intro fa hf
                refine sqv hf (r_add (C := (((i : Nat) : Int) + (1 : Int))) rfl rfl (by rw [IntKind.wrap_i64]; omega)) rfl rfl rfl ?_; clear hf fa; intro fa hf
                refine sqv hf (r_assign rfl) rfl rfl rfl ?_; clear hf fa; intro fa hf
                apply wpList_nil
                (try simp only [Exit.then, Exit.inBlock, ↓reduceIte, Nat.reduceEqDiff])
                refine hKL1 _ _ _ (by omega) ⟨(2 : Int), (i + 1), rfl, hf.sub ⟨rfl, rfl, rfl, rfl, (some_int (by first | rfl | omega)), trivial⟩, hb, hkb1, by omega, (by rw [← hF, widF_step (i := i) (by omega)]; unfold widS; rw [if_neg (by have h := hqt37_1; omega), if_neg (by have h := hqt40_1; omega), if_pos (by have h := hqt46_1; first | exact h | simpa using h)])⟩
              · have hqt46_1b := hqt46_1
                replace hqt46_1 := Bool.eq_false_iff.1 hqt46_1
                try simp only [ne_eq, decide_eq_true_eq, Bool.and_eq_true, Bool.or_eq_true, Bool.not_eq_true', decide_eq_false_iff_not] at hqt46_1
                refine wp_seq_k (fun K18 hK18 => ?_)
                refine wp_region_lit ?_
                refine sqv hf (r_fa rfl Try.underlying146 (f := 1) (q := 1) rfl (by kernel_rfl) rfl) rfl rfl rfl ?_; clear hf fa; intro fa hf
                refine sqv hf (r_load (v := (.string (ofP op).1.2.1)) rfl Try.underlying9 rfl (cell_blk hkb1 rfl)) rfl rfl rfl ?_; clear hf fa; intro fa hf
                refine sqv hf (r_move rfl) rfl rfl rfl ?_; clear hf fa; intro fa hf
                refine sqv hf (r_move rfl) rfl rfl rfl ?_; clear hf fa; intro fa hf
                refine sqv hf (r_add (C := (((i : Nat) : Int) + (2 : Int))) rfl rfl (by rw [IntKind.wrap_i64]; omega)) rfl rfl rfl ?_; clear hf fa; intro fa hf
                refine sqv hf (r_sslice (a := i) (b := (i + 2)) (k1 := .i64) (k2 := .i64) (A := ((i : Nat) : Int)) (B := (((i : Nat) : Int) + (2 : Int))) rfl Try.underlying9 (.inr ⟨_, rfl, rfl, rfl⟩) (.inr ⟨_, rfl, rfl, rfl⟩) (by omega) (by omega)) rfl rfl rfl ?_; clear hf fa; intro fa hf
                refine sqv hf (r_seq rfl rfl) rfl rfl rfl ?_; clear hf fa; intro fa hf
                refine sqv hf (r_assign rfl) rfl rfl rfl ?_; clear hf fa; intro fa hf
                apply wpList_nil
                (try simp only [Exit.then, Exit.inBlock, ↓reduceIte, Nat.reduceEqDiff])
                refine hK18 _ _ ?_
                refine wp_cond_split (t := (decide (((ofP op).1.2.1.extract i (i + 2)) = ⟨#[51, 50]⟩))) (hf.ev rfl) (fun hqt54_1 => ?_) (fun hqt54_1 => ?_)
                · have hqt54_1b := hqt54_1
                  try simp only [decide_eq_true_eq, Bool.and_eq_true, Bool.or_eq_true, Bool.not_eq_true', decide_eq_false_iff_not, ne_eq, Bool.not_eq_true] at hqt54_1
                  refine wp_region_lit ?_
                  refine sqv hf (r_assign rfl) rfl rfl rfl ?_; clear hf fa; intro fa hf
                  apply wpList_nil
                  (try simp only [Exit.then, Exit.inBlock, ↓reduceIte, Nat.reduceEqDiff])
                  refine hK14 _ _ ?_
                  refine wp_region_lit ?_
                  refine sqv hf (r_move rfl) rfl rfl rfl ?_; clear hf fa; intro fa hf
                  refine sqv hf (r_add (C := (((i : Nat) : Int) + (1 : Int))) rfl rfl (by rw [IntKind.wrap_i64]; omega)) rfl rfl rfl ?_; clear hf fa; intro fa hf
                  refine sqv hf (r_assign rfl) rfl rfl rfl ?_; clear hf fa; intro fa hf
                  apply wpList_nil
                  (try simp only [Exit.then, Exit.inBlock, ↓reduceIte, Nat.reduceEqDiff])
                  refine hKL1 _ _ _ (by omega) ⟨(4 : Int), (i + 1), rfl, hf.sub ⟨rfl, rfl, rfl, rfl, (some_int (by first | rfl | omega)), trivial⟩, hb, hkb1, by omega, (by rw [← hF, widF_step (i := i) (by omega)]; unfold widS; rw [if_neg (by have h := hqt37_1; omega), if_neg (by have h := hqt40_1; omega), if_neg (by have h := hqt46_1; first | exact h | simpa using h), if_pos (by have h := hqt54_1; first | exact h | simpa using h)])⟩
                · have hqt54_1b := hqt54_1
                  replace hqt54_1 := Bool.eq_false_iff.1 hqt54_1
                  try simp only [ne_eq, decide_eq_true_eq, Bool.and_eq_true, Bool.or_eq_true, Bool.not_eq_true', decide_eq_false_iff_not] at hqt54_1
                  refine wp_skip ?_
                  (try simp only [Exit.then, Exit.inBlock, ↓reduceIte, Nat.reduceEqDiff])
                  refine hK14 _ _ ?_
                  refine wp_region_lit ?_
                  refine sqv hf (r_move rfl) rfl rfl rfl ?_; clear hf fa; intro fa hf
                  refine sqv hf (r_add (C := (((i : Nat) : Int) + (1 : Int))) rfl rfl (by rw [IntKind.wrap_i64]; omega)) rfl rfl rfl ?_; clear hf fa; intro fa hf
                  refine sqv hf (r_assign rfl) rfl rfl rfl ?_; clear hf fa; intro fa hf
                  apply wpList_nil
                  (try simp only [Exit.then, Exit.inBlock, ↓reduceIte, Nat.reduceEqDiff])
                  refine hKL1 _ _ _ (by omega) ⟨wl, (i + 1), rfl, hf.sub ⟨rfl, rfl, rfl, rfl, (some_int (by first | rfl | omega)), trivial⟩, hb, hkb1, by omega, (by rw [← hF, widF_step (i := i) (by omega)]; unfold widS; rw [if_neg (by have h := hqt37_1; omega), if_neg (by have h := hqt40_1; omega), if_neg (by have h := hqt46_1; first | exact h | simpa using h), if_neg (by have h := hqt54_1; first | exact h | simpa using h)])⟩
        · have hqt34_1b := hqt34_1
          replace hqt34_1 := Bool.eq_false_iff.1 hqt34_1
          try simp only [ne_eq, decide_eq_true_eq, Bool.and_eq_true, Bool.or_eq_true, Bool.not_eq_true', decide_eq_false_iff_not] at hqt34_1
          refine wp_exit ?_
          (try simp only [Exit.then, Exit.inBlock, ↓reduceIte, Nat.reduceEqDiff])
          refine hK10 _ _ ?_
          refine wp_seq_k (fun K19 hK19 => ?_)
          refine wp_seq_k (fun K20 hK20 => ?_)
          refine wp_region_lit ?_
          refine sqv hf (r_fa rfl Try.underlying146 (f := 1) (q := 1) rfl (by kernel_rfl) rfl) rfl rfl rfl ?_; clear hf fa; intro fa hf
          refine sqv hf (r_load (v := (.string (ofP op).1.2.1)) rfl Try.underlying9 rfl (cell_blk hkb1 rfl)) rfl rfl rfl ?_; clear hf fa; intro fa hf
          refine sqv hf (r_fa rfl Try.underlying146 (f := 1) (q := 1) rfl (by kernel_rfl) rfl) rfl rfl rfl ?_; clear hf fa; intro fa hf
          refine sqv hf (r_load (v := (.string (ofP op).1.2.1)) rfl Try.underlying9 rfl (cell_blk hkb1 rfl)) rfl rfl rfl ?_; clear hf fa; intro fa hf
          refine sqv hf (r_lens rfl Try.underlying9) rfl rfl rfl ?_; clear hf fa; intro fa hf
          refine sqv hf (r_sub (C := ((((ofP op).1.2.1.size : Nat) : Int) - (1 : Int))) rfl rfl (by rw [IntKind.wrap_i64]; omega)) rfl rfl rfl ?_; clear hf fa; intro fa hf
          refine sqv hf (r_sindexD (j := (((ofP op).1.2.1.size) - 1)) rfl rfl Try.underlying9 (by omega) (by omega)) rfl rfl rfl ?_; clear hf fa; intro fa hf
          refine sqv hf (r_eq rfl rfl) rfl rfl rfl ?_; clear hf fa; intro fa hf
          apply wpList_nil
          (try simp only [Exit.then, Exit.inBlock, ↓reduceIte, Nat.reduceEqDiff])
          refine hK20 _ _ ?_
          refine wp_cond_split (t := (decide (((sbt (ofP op).1.2.1 (((ofP op).1.2.1.size) - 1) : Nat) : Int) = (56 : Int)))) (hf.ev rfl) (fun hqt69_1 => ?_) (fun hqt69_1 => ?_)
          · have hqt69_1b := hqt69_1
            try simp only [decide_eq_true_eq, Bool.and_eq_true, Bool.or_eq_true, Bool.not_eq_true', decide_eq_false_iff_not, ne_eq, Bool.not_eq_true] at hqt69_1
            refine wp_region_lit ?_
            refine sqv hf (r_assign rfl) rfl rfl rfl ?_; clear hf fa; intro fa hf
            apply wpList_nil
            (try simp only [Exit.then, Exit.inBlock, ↓reduceIte, Nat.reduceEqDiff])
            refine hK19 _ _ ?_
            refine wp_seq_k (fun K21 hK21 => ?_)
            refine wp_region_un (fun wq => Below w5.heap.size w5 wq) (fun w w' => Below w.heap.size w w')
              (fun V => [(fun x _ => x = (.int .i64 (1 : Int))), (fun x _ => x = (.bool (decide (((ofP op).1.2.1.extract 0 3) = ⟨#[105, 54, 52]⟩)))), (fun x _ => x = (.pointer (some ⟨b1, 3, none⟩))), (fun x _ => x = (.string (ofP op).1.2.2.2.1)), (fun x _ => x = (.int .i64 (((ofP op).1.2.2.2.1.size : Nat) : Int))), (fun x _ => x = (.bool (decide ((((ofP op).1.2.2.2.1.size : Nat) : Int) = (2 : Int))))), (fun x _ => x = (.pointer (some ⟨b1, 1, none⟩))), (fun x _ => x = (.string (ofP op).1.2.1)), (fun x _ => x = (.pointer (some ⟨b1, 1, none⟩))), (fun x _ => x = (.string (ofP op).1.2.1)), (fun x _ => x = (.int .i64 (((ofP op).1.2.1.size : Nat) : Int))), (fun x _ => x = (.int .i64 ((((ofP op).1.2.1.size : Nat) : Int) - (2 : Int)))), (fun x _ => x = (.string ((ofP op).1.2.1.extract (((ofP op).1.2.1.size) - 2) (ofP op).1.2.1.size))), (fun x _ => x = (.bool (decide (((ofP op).1.2.1.extract (((ofP op).1.2.1.size) - 2) (ofP op).1.2.1.size) = ⟨#[95, 115]⟩)))), (fun x _ => x = (.int .i64 (1 : Int))), (fun x _ => x = (.bool (decide (((ofP op).1.2.1.extract 0 3) = ⟨#[105, 54, 52]⟩)))), (fun x _ => x = (.bool (decide ((((ofP op).1.2.2.2.1.size : Nat) : Int) = (2 : Int))))), (fun x _ => x = (.bool (decide (((ofP op).1.2.1.extract (((ofP op).1.2.1.size) - 2) (ofP op).1.2.1.size) = ⟨#[95, 115]⟩)))), (fun x _ => x = (.bool true))])
              []
              [[], [], [], [2], [3], [4], [], [6], [], [8], [9], [10], [7, 11], [12], [0], [0, 1, 14], [0, 1, 2, 3, 4, 5, 14, 15], [0, 1, 2, 3, 4, 5, 6, 7, 8, 9, 10, 11, 12, 13, 14, 15, 16], [0, 1, 2, 3, 4, 5, 6, 7, 8, 9, 10, 11, 12, 13, 14, 15, 16, 17]]
              hf (by kernel_rfl) (by kernel_rfl) (fun _ => rfl) ((Below.refl _ _).drew) (fun a b h1 h2 => h1.trans (h2.mono h1.size)) (fun _ _ h => h.size) (fun V => ⟨kept_eq, kept_eq, kept_eq, kept_eq, kept_eq, kept_eq, kept_eq, kept_eq, kept_eq, kept_eq, kept_eq, kept_eq, kept_eq, kept_eq, kept_eq, kept_eq, kept_eq, kept_eq, kept_eq, trivial⟩) (fun _ _ _ _ _ => rfl) ?_ ?_
            · skip
              intro V
              refine ⟨fun wu0 hC hd => ?_, ?_⟩
              · clear hd
                replace hb := hb.trans (hC.mono hb.size)
                replace hkb1 := blk_ext hkb1 hC
                exact Runs.does (r_move rfl) ⟨Below.refl _ _, rfl, nofr rfl⟩
              refine ⟨fun wu1 hC hd => ?_, ?_⟩
              · clear hd
                replace hb := hb.trans (hC.mono hb.size)
                replace hkb1 := blk_ext hkb1 hC
                exact Runs.does (r_move rfl) ⟨Below.refl _ _, rfl, nofr rfl⟩
              refine ⟨fun wu2 hC hd => ?_, ?_⟩
              · clear hd
                replace hb := hb.trans (hC.mono hb.size)
                replace hkb1 := blk_ext hkb1 hC
                exact Runs.does (r_fa rfl Try.underlying146 (f := 3) (q := 3) rfl (by kernel_rfl) rfl) ⟨Below.refl _ _, rfl, nofr rfl⟩
              refine ⟨fun wu3 hC hd => ?_, ?_⟩
              · obtain ⟨h2, _⟩ := hd
                skip
                replace h2 : V 2 = (.pointer (some ⟨b1, 3, none⟩)) := h2
                replace hb := hb.trans (hC.mono hb.size)
                replace hkb1 := blk_ext hkb1 hC
                exact Runs.does (r_load (v := (.string (ofP op).1.2.2.2.1)) (congrArg some h2) Try.underlying9 rfl (cell_blk hkb1 rfl)) ⟨Below.refl _ _, rfl, nofr rfl⟩
              refine ⟨fun wu4 hC hd => ?_, ?_⟩
              · obtain ⟨h3, _⟩ := hd
                skip
                replace h3 : V 3 = (.string (ofP op).1.2.2.2.1) := h3
                replace hb := hb.trans (hC.mono hb.size)
                replace hkb1 := blk_ext hkb1 hC
                exact Runs.does (r_lens (congrArg some h3) Try.underlying9) ⟨Below.refl _ _, rfl, nofr rfl⟩
              refine ⟨fun wu5 hC hd => ?_, ?_⟩
              · obtain ⟨h4, _⟩ := hd
                skip
                replace h4 : V 4 = (.int .i64 (((ofP op).1.2.2.2.1.size : Nat) : Int)) := h4
                replace hb := hb.trans (hC.mono hb.size)
                replace hkb1 := blk_ext hkb1 hC
                exact Runs.does (r_eq (congrArg some h4) rfl) ⟨Below.refl _ _, rfl, nofr rfl⟩
              refine ⟨fun wu6 hC hd => ?_, ?_⟩
              · clear hd
                replace hb := hb.trans (hC.mono hb.size)
                replace hkb1 := blk_ext hkb1 hC
                exact Runs.does (r_fa rfl Try.underlying146 (f := 1) (q := 1) rfl (by kernel_rfl) rfl) ⟨Below.refl _ _, rfl, nofr rfl⟩
              refine ⟨fun wu7 hC hd => ?_, ?_⟩
              · obtain ⟨h6, _⟩ := hd
                skip
                replace h6 : V 6 = (.pointer (some ⟨b1, 1, none⟩)) := h6
                replace hb := hb.trans (hC.mono hb.size)
                replace hkb1 := blk_ext hkb1 hC
                exact Runs.does (r_load (v := (.string (ofP op).1.2.1)) (congrArg some h6) Try.underlying9 rfl (cell_blk hkb1 rfl)) ⟨Below.refl _ _, rfl, nofr rfl⟩
              refine ⟨fun wu8 hC hd => ?_, ?_⟩
              · clear hd
                replace hb := hb.trans (hC.mono hb.size)
                replace hkb1 := blk_ext hkb1 hC
                exact Runs.does (r_fa rfl Try.underlying146 (f := 1) (q := 1) rfl (by kernel_rfl) rfl) ⟨Below.refl _ _, rfl, nofr rfl⟩
              refine ⟨fun wu9 hC hd => ?_, ?_⟩
              · obtain ⟨h8, _⟩ := hd
                skip
                replace h8 : V 8 = (.pointer (some ⟨b1, 1, none⟩)) := h8
                replace hb := hb.trans (hC.mono hb.size)
                replace hkb1 := blk_ext hkb1 hC
                exact Runs.does (r_load (v := (.string (ofP op).1.2.1)) (congrArg some h8) Try.underlying9 rfl (cell_blk hkb1 rfl)) ⟨Below.refl _ _, rfl, nofr rfl⟩
              refine ⟨fun wu10 hC hd => ?_, ?_⟩
              · obtain ⟨h9, _⟩ := hd
                skip
                replace h9 : V 9 = (.string (ofP op).1.2.1) := h9
                replace hb := hb.trans (hC.mono hb.size)
                replace hkb1 := blk_ext hkb1 hC
                exact Runs.does (r_lens (congrArg some h9) Try.underlying9) ⟨Below.refl _ _, rfl, nofr rfl⟩
              refine ⟨fun wu11 hC hd => ?_, ?_⟩
              · obtain ⟨h10, _⟩ := hd
                skip
                replace h10 : V 10 = (.int .i64 (((ofP op).1.2.1.size : Nat) : Int)) := h10
                replace hb := hb.trans (hC.mono hb.size)
                replace hkb1 := blk_ext hkb1 hC
                exact Runs.does (r_sub (C := ((((ofP op).1.2.1.size : Nat) : Int) - (2 : Int))) (congrArg some h10) rfl (by rw [IntKind.wrap_i64]; omega)) ⟨Below.refl _ _, rfl, nofr rfl⟩
              refine ⟨fun wu12 hC hd => ?_, ?_⟩
              · obtain ⟨h7, h11, _⟩ := hd
                skip
                skip
                replace h7 : V 7 = (.string (ofP op).1.2.1) := h7
                replace h11 : V 11 = (.int .i64 ((((ofP op).1.2.1.size : Nat) : Int) - (2 : Int))) := h11
                replace hb := hb.trans (hC.mono hb.size)
                replace hkb1 := blk_ext hkb1 hC
                exact Runs.does (r_sslice (a := (((ofP op).1.2.1.size) - 2)) (b := (ofP op).1.2.1.size) (k1 := .i64) (k2 := .i64) (A := ((((ofP op).1.2.1.size : Nat) : Int) - (2 : Int))) (B := 0) (congrArg some h7) Try.underlying9 (.inr ⟨_, rfl, (congrArg some h11), (by omega)⟩) (.inl ⟨rfl, rfl⟩) (by omega) (by omega)) ⟨Below.refl _ _, rfl, nofr rfl⟩
              refine ⟨fun wu13 hC hd => ?_, ?_⟩
              · obtain ⟨h12, _⟩ := hd
                skip
                replace h12 : V 12 = (.string ((ofP op).1.2.1.extract (((ofP op).1.2.1.size) - 2) (ofP op).1.2.1.size)) := h12
                replace hb := hb.trans (hC.mono hb.size)
                replace hkb1 := blk_ext hkb1 hC
                exact Runs.does (r_seq (congrArg some h12) rfl) ⟨Below.refl _ _, rfl, nofr rfl⟩
              refine ⟨fun wu14 hC hd => ?_, ?_⟩
              · obtain ⟨h0, _⟩ := hd
                skip
                replace h0 : V 0 = (.int .i64 (1 : Int)) := h0
                replace hb := hb.trans (hC.mono hb.size)
                replace hkb1 := blk_ext hkb1 hC
                exact Runs.does (r_assign (congrArg some h0)) ⟨Below.refl _ _, rfl, nofr rfl⟩
              refine ⟨fun wu15 hC hd => ?_, ?_⟩
              · obtain ⟨h0, h1, h14, _⟩ := hd
                skip
                skip
                skip
                replace h0 : V 0 = (.int .i64 (1 : Int)) := h0
                replace h1 : V 1 = (.bool (decide (((ofP op).1.2.1.extract 0 3) = ⟨#[105, 54, 52]⟩))) := h1
                replace h14 : V 14 = (.int .i64 (1 : Int)) := h14
                replace hb := hb.trans (hC.mono hb.size)
                replace hkb1 := blk_ext hkb1 hC
                exact Runs.does (r_assign (congrArg some h1)) ⟨Below.refl _ _, rfl, nofr rfl⟩
              refine ⟨fun wu16 hC hd => ?_, ?_⟩
              · obtain ⟨h0, h1, h2, h3, h4, h5, h14, h15, _⟩ := hd
                skip
                skip
                skip
                skip
                skip
                skip
                skip
                skip
                replace h0 : V 0 = (.int .i64 (1 : Int)) := h0
                replace h1 : V 1 = (.bool (decide (((ofP op).1.2.1.extract 0 3) = ⟨#[105, 54, 52]⟩))) := h1
                replace h2 : V 2 = (.pointer (some ⟨b1, 3, none⟩)) := h2
                replace h3 : V 3 = (.string (ofP op).1.2.2.2.1) := h3
                replace h4 : V 4 = (.int .i64 (((ofP op).1.2.2.2.1.size : Nat) : Int)) := h4
                replace h5 : V 5 = (.bool (decide ((((ofP op).1.2.2.2.1.size : Nat) : Int) = (2 : Int)))) := h5
                replace h14 : V 14 = (.int .i64 (1 : Int)) := h14
                replace h15 : V 15 = (.bool (decide (((ofP op).1.2.1.extract 0 3) = ⟨#[105, 54, 52]⟩))) := h15
                replace hb := hb.trans (hC.mono hb.size)
                replace hkb1 := blk_ext hkb1 hC
                exact Runs.does (r_assign (congrArg some h5)) ⟨Below.refl _ _, rfl, nofr rfl⟩
              refine ⟨fun wu17 hC hd => ?_, ?_⟩
              · obtain ⟨h0, h1, h2, h3, h4, h5, h6, h7, h8, h9, h10, h11, h12, h13, h14, h15, h16, _⟩ := hd
                skip
                skip
                skip
                skip
                skip
                skip
                skip
                skip
                skip
                skip
                skip
                skip
                skip
                skip
                skip
                skip
                skip
                replace h0 : V 0 = (.int .i64 (1 : Int)) := h0
                replace h1 : V 1 = (.bool (decide (((ofP op).1.2.1.extract 0 3) = ⟨#[105, 54, 52]⟩))) := h1
                replace h2 : V 2 = (.pointer (some ⟨b1, 3, none⟩)) := h2
                replace h3 : V 3 = (.string (ofP op).1.2.2.2.1) := h3
                replace h4 : V 4 = (.int .i64 (((ofP op).1.2.2.2.1.size : Nat) : Int)) := h4
                replace h5 : V 5 = (.bool (decide ((((ofP op).1.2.2.2.1.size : Nat) : Int) = (2 : Int)))) := h5
                replace h6 : V 6 = (.pointer (some ⟨b1, 1, none⟩)) := h6
                replace h7 : V 7 = (.string (ofP op).1.2.1) := h7
                replace h8 : V 8 = (.pointer (some ⟨b1, 1, none⟩)) := h8
                replace h9 : V 9 = (.string (ofP op).1.2.1) := h9
                replace h10 : V 10 = (.int .i64 (((ofP op).1.2.1.size : Nat) : Int)) := h10
                replace h11 : V 11 = (.int .i64 ((((ofP op).1.2.1.size : Nat) : Int) - (2 : Int))) := h11
                replace h12 : V 12 = (.string ((ofP op).1.2.1.extract (((ofP op).1.2.1.size) - 2) (ofP op).1.2.1.size)) := h12
                replace h13 : V 13 = (.bool (decide (((ofP op).1.2.1.extract (((ofP op).1.2.1.size) - 2) (ofP op).1.2.1.size) = ⟨#[95, 115]⟩))) := h13
                replace h14 : V 14 = (.int .i64 (1 : Int)) := h14
                replace h15 : V 15 = (.bool (decide (((ofP op).1.2.1.extract 0 3) = ⟨#[105, 54, 52]⟩))) := h15
                replace h16 : V 16 = (.bool (decide ((((ofP op).1.2.2.2.1.size : Nat) : Int) = (2 : Int)))) := h16
                replace hb := hb.trans (hC.mono hb.size)
                replace hkb1 := blk_ext hkb1 hC
                exact Runs.does (r_assign (congrArg some h13)) ⟨Below.refl _ _, rfl, nofr rfl⟩
              refine ⟨fun wu18 hC hd => ?_, ?_⟩
              · obtain ⟨h0, h1, h2, h3, h4, h5, h6, h7, h8, h9, h10, h11, h12, h13, h14, h15, h16, h17, _⟩ := hd
                skip
                skip
                skip
                skip
                skip
                skip
                skip
                skip
                skip
                skip
                skip
                skip
                skip
                skip
                skip
                skip
                skip
                skip
                replace h0 : V 0 = (.int .i64 (1 : Int)) := h0
                replace h1 : V 1 = (.bool (decide (((ofP op).1.2.1.extract 0 3) = ⟨#[105, 54, 52]⟩))) := h1
                replace h2 : V 2 = (.pointer (some ⟨b1, 3, none⟩)) := h2
                replace h3 : V 3 = (.string (ofP op).1.2.2.2.1) := h3
                replace h4 : V 4 = (.int .i64 (((ofP op).1.2.2.2.1.size : Nat) : Int)) := h4
                replace h5 : V 5 = (.bool (decide ((((ofP op).1.2.2.2.1.size : Nat) : Int) = (2 : Int)))) := h5
                replace h6 : V 6 = (.pointer (some ⟨b1, 1, none⟩)) := h6
                replace h7 : V 7 = (.string (ofP op).1.2.1) := h7
                replace h8 : V 8 = (.pointer (some ⟨b1, 1, none⟩)) := h8
                replace h9 : V 9 = (.string (ofP op).1.2.1) := h9
                replace h10 : V 10 = (.int .i64 (((ofP op).1.2.1.size : Nat) : Int)) := h10
                replace h11 : V 11 = (.int .i64 ((((ofP op).1.2.1.size : Nat) : Int) - (2 : Int))) := h11
                replace h12 : V 12 = (.string ((ofP op).1.2.1.extract (((ofP op).1.2.1.size) - 2) (ofP op).1.2.1.size)) := h12
                replace h13 : V 13 = (.bool (decide (((ofP op).1.2.1.extract (((ofP op).1.2.1.size) - 2) (ofP op).1.2.1.size) = ⟨#[95, 115]⟩))) := h13
                replace h14 : V 14 = (.int .i64 (1 : Int)) := h14
                replace h15 : V 15 = (.bool (decide (((ofP op).1.2.1.extract 0 3) = ⟨#[105, 54, 52]⟩))) := h15
                replace h16 : V 16 = (.bool (decide ((((ofP op).1.2.2.2.1.size : Nat) : Int) = (2 : Int)))) := h16
                replace h17 : V 17 = (.bool (decide (((ofP op).1.2.1.extract (((ofP op).1.2.1.size) - 2) (ofP op).1.2.1.size) = ⟨#[95, 115]⟩))) := h17
                replace hb := hb.trans (hC.mono hb.size)
                replace hkb1 := blk_ext hkb1 hC
                exact Runs.does (r_assign rfl) ⟨Below.refl _ _, rfl, nofr rfl⟩
              trivial
            · skip
              clear hf fa; intro V w6 fa he3 hp hnb hf
              have hv0 : V 0 = (.int .i64 (1 : Int)) := postsHold_at hp 0 rfl
              have hv1 : V 1 = (.bool (decide (((ofP op).1.2.1.extract 0 3) = ⟨#[105, 54, 52]⟩))) := postsHold_at hp 1 rfl
              have hv2 : V 2 = (.pointer (some ⟨b1, 3, none⟩)) := postsHold_at hp 2 rfl
              have hv3 : V 3 = (.string (ofP op).1.2.2.2.1) := postsHold_at hp 3 rfl
              have hv4 : V 4 = (.int .i64 (((ofP op).1.2.2.2.1.size : Nat) : Int)) := postsHold_at hp 4 rfl
              have hv5 : V 5 = (.bool (decide ((((ofP op).1.2.2.2.1.size : Nat) : Int) = (2 : Int)))) := postsHold_at hp 5 rfl
              have hv6 : V 6 = (.pointer (some ⟨b1, 1, none⟩)) := postsHold_at hp 6 rfl
              have hv7 : V 7 = (.string (ofP op).1.2.1) := postsHold_at hp 7 rfl
              have hv8 : V 8 = (.pointer (some ⟨b1, 1, none⟩)) := postsHold_at hp 8 rfl
              have hv9 : V 9 = (.string (ofP op).1.2.1) := postsHold_at hp 9 rfl
              have hv10 : V 10 = (.int .i64 (((ofP op).1.2.1.size : Nat) : Int)) := postsHold_at hp 10 rfl
              have hv11 : V 11 = (.int .i64 ((((ofP op).1.2.1.size : Nat) : Int) - (2 : Int))) := postsHold_at hp 11 rfl
              have hv12 : V 12 = (.string ((ofP op).1.2.1.extract (((ofP op).1.2.1.size) - 2) (ofP op).1.2.1.size)) := postsHold_at hp 12 rfl
              have hv13 : V 13 = (.bool (decide (((ofP op).1.2.1.extract (((ofP op).1.2.1.size) - 2) (ofP op).1.2.1.size) = ⟨#[95, 115]⟩))) := postsHold_at hp 13 rfl
              have hv14 : V 14 = (.int .i64 (1 : Int)) := postsHold_at hp 14 rfl
              have hv15 : V 15 = (.bool (decide (((ofP op).1.2.1.extract 0 3) = ⟨#[105, 54, 52]⟩))) := postsHold_at hp 15 rfl
              have hv16 : V 16 = (.bool (decide ((((ofP op).1.2.2.2.1.size : Nat) : Int) = (2 : Int)))) := postsHold_at hp 16 rfl
              have hv17 : V 17 = (.bool (decide (((ofP op).1.2.1.extract (((ofP op).1.2.1.size) - 2) (ofP op).1.2.1.size) = ⟨#[95, 115]⟩))) := postsHold_at hp 17 rfl
              have hv18 : V 18 = (.bool true) := postsHold_at hp 18 rfl
              simp only [List.take_succ_cons, List.take_zero, insAll, ins, hv0, hv1, hv2, hv3, hv4, hv5, hv6, hv7, hv8, hv9, hv10, hv11, hv12, hv13, hv14, hv15, hv16, hv17, hv18] at hf
              clear hp hnb hv0 hv1 hv2 hv3 hv4 hv5 hv6 hv7 hv8 hv9 hv10 hv11 hv12 hv13 hv14 hv15 hv16 hv17 hv18
              replace hkb1 := blk_ext hkb1 he3
              replace hb := hb.trans (Below.mono he3 hb.size)
              (try simp only [Exit.then, Exit.inBlock, ↓reduceIte, Nat.reduceEqDiff])
              refine hK21 _ _ ?_
              refine wp_ret ?_
              (try simp only [Exit.then, Exit.inBlock])
              refine ret5 hf rfl rfl rfl rfl rfl rfl ?_
              have hk0 : (ofP op).1.2.1.size - 1 - i = 0 := by have h := hqt34_1; omega
              rw [hk0] at hF
              have hw : accD op = ((1 : Int), decide ((ofP op).1.2.1.extract 0 3 = ⟨#[105, 54, 52]⟩), decide ((((ofP op).1.2.2.2.1.size : Nat) : Int) = (2 : Int)), decide ((ofP op).1.2.1.extract ((ofP op).1.2.1.size - 2) (ofP op).1.2.1.size = ⟨#[95, 115]⟩), true) := by unfold accD; rw [if_pos hok, ← hwd]; rw [if_pos (by have h := hqt69_1; omega)]
              rw [accD_eq hop] at hw
              exact ⟨by rw [show (accT op).1 = (1 : Int) from congrArg (·.1) hw, show decide ((accT op).2.1 = 126) = _ from congrArg (·.2.1) hw, show (accT op).2.2.1 = _ from congrArg (·.2.2.1) hw, show (accT op).2.2.2.1 = _ from congrArg (·.2.2.2.1) hw, show (accT op).2.2.2.2 = true from congrArg (·.2.2.2.2) hw], hb⟩
          · have hqt69_1b := hqt69_1
            replace hqt69_1 := Bool.eq_false_iff.1 hqt69_1
            try simp only [ne_eq, decide_eq_true_eq, Bool.and_eq_true, Bool.or_eq_true, Bool.not_eq_true', decide_eq_false_iff_not] at hqt69_1
            refine wp_skip ?_
            (try simp only [Exit.then, Exit.inBlock, ↓reduceIte, Nat.reduceEqDiff])
            refine hK19 _ _ ?_
            refine wp_seq_k (fun K22 hK22 => ?_)
            refine wp_region_un (fun wq => Below w5.heap.size w5 wq) (fun w w' => Below w.heap.size w w')
              (fun V => [(fun x _ => x = (.int .i64 wl)), (fun x _ => x = (.bool (decide (((ofP op).1.2.1.extract 0 3) = ⟨#[105, 54, 52]⟩)))), (fun x _ => x = (.pointer (some ⟨b1, 3, none⟩))), (fun x _ => x = (.string (ofP op).1.2.2.2.1)), (fun x _ => x = (.int .i64 (((ofP op).1.2.2.2.1.size : Nat) : Int))), (fun x _ => x = (.bool (decide ((((ofP op).1.2.2.2.1.size : Nat) : Int) = (2 : Int))))), (fun x _ => x = (.pointer (some ⟨b1, 1, none⟩))), (fun x _ => x = (.string (ofP op).1.2.1)), (fun x _ => x = (.pointer (some ⟨b1, 1, none⟩))), (fun x _ => x = (.string (ofP op).1.2.1)), (fun x _ => x = (.int .i64 (((ofP op).1.2.1.size : Nat) : Int))), (fun x _ => x = (.int .i64 ((((ofP op).1.2.1.size : Nat) : Int) - (2 : Int)))), (fun x _ => x = (.string ((ofP op).1.2.1.extract (((ofP op).1.2.1.size) - 2) (ofP op).1.2.1.size))), (fun x _ => x = (.bool (decide (((ofP op).1.2.1.extract (((ofP op).1.2.1.size) - 2) (ofP op).1.2.1.size) = ⟨#[95, 115]⟩)))), (fun x _ => x = (.int .i64 wl)), (fun x _ => x = (.bool (decide (((ofP op).1.2.1.extract 0 3) = ⟨#[105, 54, 52]⟩)))), (fun x _ => x = (.bool (decide ((((ofP op).1.2.2.2.1.size : Nat) : Int) = (2 : Int))))), (fun x _ => x = (.bool (decide (((ofP op).1.2.1.extract (((ofP op).1.2.1.size) - 2) (ofP op).1.2.1.size) = ⟨#[95, 115]⟩)))), (fun x _ => x = (.bool true))])
              []
              [[], [], [], [2], [3], [4], [], [6], [], [8], [9], [10], [7, 11], [12], [0], [0, 1, 14], [0, 1, 2, 3, 4, 5, 14, 15], [0, 1, 2, 3, 4, 5, 6, 7, 8, 9, 10, 11, 12, 13, 14, 15, 16], [0, 1, 2, 3, 4, 5, 6, 7, 8, 9, 10, 11, 12, 13, 14, 15, 16, 17]]
              hf (by kernel_rfl) (by kernel_rfl) (fun _ => rfl) ((Below.refl _ _).drew) (fun a b h1 h2 => h1.trans (h2.mono h1.size)) (fun _ _ h => h.size) (fun V => ⟨kept_eq, kept_eq, kept_eq, kept_eq, kept_eq, kept_eq, kept_eq, kept_eq, kept_eq, kept_eq, kept_eq, kept_eq, kept_eq, kept_eq, kept_eq, kept_eq, kept_eq, kept_eq, kept_eq, trivial⟩) (fun _ _ _ _ _ => rfl) ?_ ?_
            · skip
              intro V
              refine ⟨fun wu0 hC hd => ?_, ?_⟩
              · clear hd
                replace hb := hb.trans (hC.mono hb.size)
                replace hkb1 := blk_ext hkb1 hC
                exact Runs.does (r_move rfl) ⟨Below.refl _ _, rfl, nofr rfl⟩
              refine ⟨fun wu1 hC hd => ?_, ?_⟩
              · clear hd
                replace hb := hb.trans (hC.mono hb.size)
                replace hkb1 := blk_ext hkb1 hC
                exact Runs.does (r_move rfl) ⟨Below.refl _ _, rfl, nofr rfl⟩
              refine ⟨fun wu2 hC hd => ?_, ?_⟩
              · clear hd
                replace hb := hb.trans (hC.mono hb.size)
                replace hkb1 := blk_ext hkb1 hC
                exact Runs.does (r_fa rfl Try.underlying146 (f := 3) (q := 3) rfl (by kernel_rfl) rfl) ⟨Below.refl _ _, rfl, nofr rfl⟩
              refine ⟨fun wu3 hC hd => ?_, ?_⟩
              · obtain ⟨h2, _⟩ := hd
                skip
                replace h2 : V 2 = (.pointer (some ⟨b1, 3, none⟩)) := h2
                replace hb := hb.trans (hC.mono hb.size)
                replace hkb1 := blk_ext hkb1 hC
                exact Runs.does (r_load (v := (.string (ofP op).1.2.2.2.1)) (congrArg some h2) Try.underlying9 rfl (cell_blk hkb1 rfl)) ⟨Below.refl _ _, rfl, nofr rfl⟩
              refine ⟨fun wu4 hC hd => ?_, ?_⟩
              · obtain ⟨h3, _⟩ := hd
                skip
                replace h3 : V 3 = (.string (ofP op).1.2.2.2.1) := h3
                replace hb := hb.trans (hC.mono hb.size)
                replace hkb1 := blk_ext hkb1 hC
                exact Runs.does (r_lens (congrArg some h3) Try.underlying9) ⟨Below.refl _ _, rfl, nofr rfl⟩
              refine ⟨fun wu5 hC hd => ?_, ?_⟩
              · obtain ⟨h4, _⟩ := hd
                skip
                replace h4 : V 4 = (.int .i64 (((ofP op).1.2.2.2.1.size : Nat) : Int)) := h4
                replace hb := hb.trans (hC.mono hb.size)
                replace hkb1 := blk_ext hkb1 hC
                exact Runs.does (r_eq (congrArg some h4) rfl) ⟨Below.refl _ _, rfl, nofr rfl⟩
              refine ⟨fun wu6 hC hd => ?_, ?_⟩
              · clear hd
                replace hb := hb.trans (hC.mono hb.size)
                replace hkb1 := blk_ext hkb1 hC
                exact Runs.does (r_fa rfl Try.underlying146 (f := 1) (q := 1) rfl (by kernel_rfl) rfl) ⟨Below.refl _ _, rfl, nofr rfl⟩
              refine ⟨fun wu7 hC hd => ?_, ?_⟩
              · obtain ⟨h6, _⟩ := hd
                skip
                replace h6 : V 6 = (.pointer (some ⟨b1, 1, none⟩)) := h6
                replace hb := hb.trans (hC.mono hb.size)
                replace hkb1 := blk_ext hkb1 hC
                exact Runs.does (r_load (v := (.string (ofP op).1.2.1)) (congrArg some h6) Try.underlying9 rfl (cell_blk hkb1 rfl)) ⟨Below.refl _ _, rfl, nofr rfl⟩
              refine ⟨fun wu8 hC hd => ?_, ?_⟩
              · clear hd
                replace hb := hb.trans (hC.mono hb.size)
                replace hkb1 := blk_ext hkb1 hC
                exact Runs.does (r_fa rfl Try.underlying146 (f := 1) (q := 1) rfl (by kernel_rfl) rfl) ⟨Below.refl _ _, rfl, nofr rfl⟩
              refine ⟨fun wu9 hC hd => ?_, ?_⟩
              · obtain ⟨h8, _⟩ := hd
                skip
                replace h8 : V 8 = (.pointer (some ⟨b1, 1, none⟩)) := h8
                replace hb := hb.trans (hC.mono hb.size)
                replace hkb1 := blk_ext hkb1 hC
                exact Runs.does (r_load (v := (.string (ofP op).1.2.1)) (congrArg some h8) Try.underlying9 rfl (cell_blk hkb1 rfl)) ⟨Below.refl _ _, rfl, nofr rfl⟩
              refine ⟨fun wu10 hC hd => ?_, ?_⟩
              · obtain ⟨h9, _⟩ := hd
                skip
                replace h9 : V 9 = (.string (ofP op).1.2.1) := h9
                replace hb := hb.trans (hC.mono hb.size)
                replace hkb1 := blk_ext hkb1 hC
                exact Runs.does (r_lens (congrArg some h9) Try.underlying9) ⟨Below.refl _ _, rfl, nofr rfl⟩
              refine ⟨fun wu11 hC hd => ?_, ?_⟩
              · obtain ⟨h10, _⟩ := hd
                skip
                replace h10 : V 10 = (.int .i64 (((ofP op).1.2.1.size : Nat) : Int)) := h10
                replace hb := hb.trans (hC.mono hb.size)
                replace hkb1 := blk_ext hkb1 hC
                exact Runs.does (r_sub (C := ((((ofP op).1.2.1.size : Nat) : Int) - (2 : Int))) (congrArg some h10) rfl (by rw [IntKind.wrap_i64]; omega)) ⟨Below.refl _ _, rfl, nofr rfl⟩
              refine ⟨fun wu12 hC hd => ?_, ?_⟩
              · obtain ⟨h7, h11, _⟩ := hd
                skip
                skip
                replace h7 : V 7 = (.string (ofP op).1.2.1) := h7
                replace h11 : V 11 = (.int .i64 ((((ofP op).1.2.1.size : Nat) : Int) - (2 : Int))) := h11
                replace hb := hb.trans (hC.mono hb.size)
                replace hkb1 := blk_ext hkb1 hC
                exact Runs.does (r_sslice (a := (((ofP op).1.2.1.size) - 2)) (b := (ofP op).1.2.1.size) (k1 := .i64) (k2 := .i64) (A := ((((ofP op).1.2.1.size : Nat) : Int) - (2 : Int))) (B := 0) (congrArg some h7) Try.underlying9 (.inr ⟨_, rfl, (congrArg some h11), (by omega)⟩) (.inl ⟨rfl, rfl⟩) (by omega) (by omega)) ⟨Below.refl _ _, rfl, nofr rfl⟩
              refine ⟨fun wu13 hC hd => ?_, ?_⟩
              · obtain ⟨h12, _⟩ := hd
                skip
                replace h12 : V 12 = (.string ((ofP op).1.2.1.extract (((ofP op).1.2.1.size) - 2) (ofP op).1.2.1.size)) := h12
                replace hb := hb.trans (hC.mono hb.size)
                replace hkb1 := blk_ext hkb1 hC
                exact Runs.does (r_seq (congrArg some h12) rfl) ⟨Below.refl _ _, rfl, nofr rfl⟩
              refine ⟨fun wu14 hC hd => ?_, ?_⟩
              · obtain ⟨h0, _⟩ := hd
                skip
                replace h0 : V 0 = (.int .i64 wl) := h0
                replace hb := hb.trans (hC.mono hb.size)
                replace hkb1 := blk_ext hkb1 hC
                exact Runs.does (r_assign (congrArg some h0)) ⟨Below.refl _ _, rfl, nofr rfl⟩
              refine ⟨fun wu15 hC hd => ?_, ?_⟩
              · obtain ⟨h0, h1, h14, _⟩ := hd
                skip
                skip
                skip
                replace h0 : V 0 = (.int .i64 wl) := h0
                replace h1 : V 1 = (.bool (decide (((ofP op).1.2.1.extract 0 3) = ⟨#[105, 54, 52]⟩))) := h1
                replace h14 : V 14 = (.int .i64 wl) := h14
                replace hb := hb.trans (hC.mono hb.size)
                replace hkb1 := blk_ext hkb1 hC
                exact Runs.does (r_assign (congrArg some h1)) ⟨Below.refl _ _, rfl, nofr rfl⟩
              refine ⟨fun wu16 hC hd => ?_, ?_⟩
              · obtain ⟨h0, h1, h2, h3, h4, h5, h14, h15, _⟩ := hd
                skip
                skip
                skip
                skip
                skip
                skip
                skip
                skip
                replace h0 : V 0 = (.int .i64 wl) := h0
                replace h1 : V 1 = (.bool (decide (((ofP op).1.2.1.extract 0 3) = ⟨#[105, 54, 52]⟩))) := h1
                replace h2 : V 2 = (.pointer (some ⟨b1, 3, none⟩)) := h2
                replace h3 : V 3 = (.string (ofP op).1.2.2.2.1) := h3
                replace h4 : V 4 = (.int .i64 (((ofP op).1.2.2.2.1.size : Nat) : Int)) := h4
                replace h5 : V 5 = (.bool (decide ((((ofP op).1.2.2.2.1.size : Nat) : Int) = (2 : Int)))) := h5
                replace h14 : V 14 = (.int .i64 wl) := h14
                replace h15 : V 15 = (.bool (decide (((ofP op).1.2.1.extract 0 3) = ⟨#[105, 54, 52]⟩))) := h15
                replace hb := hb.trans (hC.mono hb.size)
                replace hkb1 := blk_ext hkb1 hC
                exact Runs.does (r_assign (congrArg some h5)) ⟨Below.refl _ _, rfl, nofr rfl⟩
              refine ⟨fun wu17 hC hd => ?_, ?_⟩
              · obtain ⟨h0, h1, h2, h3, h4, h5, h6, h7, h8, h9, h10, h11, h12, h13, h14, h15, h16, _⟩ := hd
                skip
                skip
                skip
                skip
                skip
                skip
                skip
                skip
                skip
                skip
                skip
                skip
                skip
                skip
                skip
                skip
                skip
                replace h0 : V 0 = (.int .i64 wl) := h0
                replace h1 : V 1 = (.bool (decide (((ofP op).1.2.1.extract 0 3) = ⟨#[105, 54, 52]⟩))) := h1
                replace h2 : V 2 = (.pointer (some ⟨b1, 3, none⟩)) := h2
                replace h3 : V 3 = (.string (ofP op).1.2.2.2.1) := h3
                replace h4 : V 4 = (.int .i64 (((ofP op).1.2.2.2.1.size : Nat) : Int)) := h4
                replace h5 : V 5 = (.bool (decide ((((ofP op).1.2.2.2.1.size : Nat) : Int) = (2 : Int)))) := h5
                replace h6 : V 6 = (.pointer (some ⟨b1, 1, none⟩)) := h6
                replace h7 : V 7 = (.string (ofP op).1.2.1) := h7
                replace h8 : V 8 = (.pointer (some ⟨b1, 1, none⟩)) := h8
                replace h9 : V 9 = (.string (ofP op).1.2.1) := h9
                replace h10 : V 10 = (.int .i64 (((ofP op).1.2.1.size : Nat) : Int)) := h10
                replace h11 : V 11 = (.int .i64 ((((ofP op).1.2.1.size : Nat) : Int) - (2 : Int))) := h11
                replace h12 : V 12 = (.string ((ofP op).1.2.1.extract (((ofP op).1.2.1.size) - 2) (ofP op).1.2.1.size)) := h12
                replace h13 : V 13 = (.bool (decide (((ofP op).1.2.1.extract (((ofP op).1.2.1.size) - 2) (ofP op).1.2.1.size) = ⟨#[95, 115]⟩))) := h13
                replace h14 : V 14 = (.int .i64 wl) := h14
                replace h15 : V 15 = (.bool (decide (((ofP op).1.2.1.extract 0 3) = ⟨#[105, 54, 52]⟩))) := h15
                replace h16 : V 16 = (.bool (decide ((((ofP op).1.2.2.2.1.size : Nat) : Int) = (2 : Int)))) := h16
                replace hb := hb.trans (hC.mono hb.size)
                replace hkb1 := blk_ext hkb1 hC
                exact Runs.does (r_assign (congrArg some h13)) ⟨Below.refl _ _, rfl, nofr rfl⟩
              refine ⟨fun wu18 hC hd => ?_, ?_⟩
              · obtain ⟨h0, h1, h2, h3, h4, h5, h6, h7, h8, h9, h10, h11, h12, h13, h14, h15, h16, h17, _⟩ := hd
                skip
                skip
                skip
                skip
                skip
                skip
                skip
                skip
                skip
                skip
                skip
                skip
                skip
                skip
                skip
                skip
                skip
                skip
                replace h0 : V 0 = (.int .i64 wl) := h0
                replace h1 : V 1 = (.bool (decide (((ofP op).1.2.1.extract 0 3) = ⟨#[105, 54, 52]⟩))) := h1
                replace h2 : V 2 = (.pointer (some ⟨b1, 3, none⟩)) := h2
                replace h3 : V 3 = (.string (ofP op).1.2.2.2.1) := h3
                replace h4 : V 4 = (.int .i64 (((ofP op).1.2.2.2.1.size : Nat) : Int)) := h4
                replace h5 : V 5 = (.bool (decide ((((ofP op).1.2.2.2.1.size : Nat) : Int) = (2 : Int)))) := h5
                replace h6 : V 6 = (.pointer (some ⟨b1, 1, none⟩)) := h6
                replace h7 : V 7 = (.string (ofP op).1.2.1) := h7
                replace h8 : V 8 = (.pointer (some ⟨b1, 1, none⟩)) := h8
                replace h9 : V 9 = (.string (ofP op).1.2.1) := h9
                replace h10 : V 10 = (.int .i64 (((ofP op).1.2.1.size : Nat) : Int)) := h10
                replace h11 : V 11 = (.int .i64 ((((ofP op).1.2.1.size : Nat) : Int) - (2 : Int))) := h11
                replace h12 : V 12 = (.string ((ofP op).1.2.1.extract (((ofP op).1.2.1.size) - 2) (ofP op).1.2.1.size)) := h12
                replace h13 : V 13 = (.bool (decide (((ofP op).1.2.1.extract (((ofP op).1.2.1.size) - 2) (ofP op).1.2.1.size) = ⟨#[95, 115]⟩))) := h13
                replace h14 : V 14 = (.int .i64 wl) := h14
                replace h15 : V 15 = (.bool (decide (((ofP op).1.2.1.extract 0 3) = ⟨#[105, 54, 52]⟩))) := h15
                replace h16 : V 16 = (.bool (decide ((((ofP op).1.2.2.2.1.size : Nat) : Int) = (2 : Int)))) := h16
                replace h17 : V 17 = (.bool (decide (((ofP op).1.2.1.extract (((ofP op).1.2.1.size) - 2) (ofP op).1.2.1.size) = ⟨#[95, 115]⟩))) := h17
                replace hb := hb.trans (hC.mono hb.size)
                replace hkb1 := blk_ext hkb1 hC
                exact Runs.does (r_assign rfl) ⟨Below.refl _ _, rfl, nofr rfl⟩
              trivial
            · skip
              clear hf fa; intro V w7 fa he4 hp hnb hf
              have hv0 : V 0 = (.int .i64 wl) := postsHold_at hp 0 rfl
              have hv1 : V 1 = (.bool (decide (((ofP op).1.2.1.extract 0 3) = ⟨#[105, 54, 52]⟩))) := postsHold_at hp 1 rfl
              have hv2 : V 2 = (.pointer (some ⟨b1, 3, none⟩)) := postsHold_at hp 2 rfl
              have hv3 : V 3 = (.string (ofP op).1.2.2.2.1) := postsHold_at hp 3 rfl
              have hv4 : V 4 = (.int .i64 (((ofP op).1.2.2.2.1.size : Nat) : Int)) := postsHold_at hp 4 rfl
              have hv5 : V 5 = (.bool (decide ((((ofP op).1.2.2.2.1.size : Nat) : Int) = (2 : Int)))) := postsHold_at hp 5 rfl
              have hv6 : V 6 = (.pointer (some ⟨b1, 1, none⟩)) := postsHold_at hp 6 rfl
              have hv7 : V 7 = (.string (ofP op).1.2.1) := postsHold_at hp 7 rfl
              have hv8 : V 8 = (.pointer (some ⟨b1, 1, none⟩)) := postsHold_at hp 8 rfl
              have hv9 : V 9 = (.string (ofP op).1.2.1) := postsHold_at hp 9 rfl
              have hv10 : V 10 = (.int .i64 (((ofP op).1.2.1.size : Nat) : Int)) := postsHold_at hp 10 rfl
              have hv11 : V 11 = (.int .i64 ((((ofP op).1.2.1.size : Nat) : Int) - (2 : Int))) := postsHold_at hp 11 rfl
              have hv12 : V 12 = (.string ((ofP op).1.2.1.extract (((ofP op).1.2.1.size) - 2) (ofP op).1.2.1.size)) := postsHold_at hp 12 rfl
              have hv13 : V 13 = (.bool (decide (((ofP op).1.2.1.extract (((ofP op).1.2.1.size) - 2) (ofP op).1.2.1.size) = ⟨#[95, 115]⟩))) := postsHold_at hp 13 rfl
              have hv14 : V 14 = (.int .i64 wl) := postsHold_at hp 14 rfl
              have hv15 : V 15 = (.bool (decide (((ofP op).1.2.1.extract 0 3) = ⟨#[105, 54, 52]⟩))) := postsHold_at hp 15 rfl
              have hv16 : V 16 = (.bool (decide ((((ofP op).1.2.2.2.1.size : Nat) : Int) = (2 : Int)))) := postsHold_at hp 16 rfl
              have hv17 : V 17 = (.bool (decide (((ofP op).1.2.1.extract (((ofP op).1.2.1.size) - 2) (ofP op).1.2.1.size) = ⟨#[95, 115]⟩))) := postsHold_at hp 17 rfl
              have hv18 : V 18 = (.bool true) := postsHold_at hp 18 rfl
              simp only [List.take_succ_cons, List.take_zero, insAll, ins, hv0, hv1, hv2, hv3, hv4, hv5, hv6, hv7, hv8, hv9, hv10, hv11, hv12, hv13, hv14, hv15, hv16, hv17, hv18] at hf
              clear hp hnb hv0 hv1 hv2 hv3 hv4 hv5 hv6 hv7 hv8 hv9 hv10 hv11 hv12 hv13 hv14 hv15 hv16 hv17 hv18
              replace hkb1 := blk_ext hkb1 he4
              replace hb := hb.trans (Below.mono he4 hb.size)
              (try simp only [Exit.then, Exit.inBlock, ↓reduceIte, Nat.reduceEqDiff])
              refine hK22 _ _ ?_
              refine wp_ret ?_
              (try simp only [Exit.then, Exit.inBlock])
              refine ret5 hf rfl rfl rfl rfl rfl rfl ?_
              have hk0 : (ofP op).1.2.1.size - 1 - i = 0 := by have h := hqt34_1; omega
              rw [hk0] at hF
              have hw : accD op = (wl, decide ((ofP op).1.2.1.extract 0 3 = ⟨#[105, 54, 52]⟩), decide ((((ofP op).1.2.2.2.1.size : Nat) : Int) = (2 : Int)), decide ((ofP op).1.2.1.extract ((ofP op).1.2.1.size - 2) (ofP op).1.2.1.size = ⟨#[95, 115]⟩), true) := by unfold accD; rw [if_pos hok, ← hwd]; rw [if_neg (by have h := hqt69_1; omega)]; rw [← hF]; rfl
              rw [accD_eq hop] at hw
              exact ⟨by rw [show (accT op).1 = wl from congrArg (·.1) hw, show decide ((accT op).2.1 = 126) = _ from congrArg (·.2.1) hw, show (accT op).2.2.1 = _ from congrArg (·.2.2.1) hw, show (accT op).2.2.2.1 = _ from congrArg (·.2.2.2.1) hw, show (accT op).2.2.2.2 = true from congrArg (·.2.2.2.2) hw], hb⟩
end Go.Proofs.Ytmcmickgllffoaa
