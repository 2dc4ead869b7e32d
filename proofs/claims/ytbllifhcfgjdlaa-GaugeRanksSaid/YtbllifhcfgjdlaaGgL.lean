/- What is proved here: Bars. -/
import Derived.Test.YtbllifhcfgjdlaaGgO
namespace Go.Proofs.Ytbllifhcfgjdlaa
open Go.RowKit
set_option linter.unusedVariables false
set_option linter.unusedSimpArgs false
theorem nb1 {b : Bool} (h : (!b) = false) : b = true := by cases b; cases h; rfl
theorem nb2 {b : Bool} (h : (!b) = true) : b = false := by cases b; rfl; cases h

set_option maxHeartbeats 1000000 in
set_option maxRecDepth 100000 in
theorem bars_any (k : Nat) (hk1 : 1 ≤ k) (hk2 : k ≤ 1000) (a : Option Addr) (c : Nat) (l : List Nat) (w : World) (hl : RdS 1 vFlt w a l) (hlen : l.length ≤ 100) (hW : allW l) : Calls Try.prog 13 #[(.int .i64 ((k : Nat) : Int)), (.slice a l.length c)] w fun e w' => ∃ v, e = .returned v ∧ Row 1 (vInt .i64) 3 w.heap.size w' v (barsP k l) ∧ Below w.heap.size w w' := by
  refine sx_enter (L := [(0, (.int .i64 ((k : Nat) : Int))), (1, (.slice a l.length c))]) Try.func13 rfl rfl rfl rfl (fun fa hf => ?_)
  have hb : Below w.heap.size w w := Below.refl _ _
  refine wp_seq_k (fun K1 hK1 => ?_)
  refine wp_region_lit ?_
  refine sqv hf (r_assign rfl) rfl rfl rfl ?_; clear hf fa; intro fa hf
  apply wpList_nil
  (try simp only [Exit.then, Exit.inBlock, ↓reduceIte, Nat.reduceEqDiff])
  refine hK1 _ _ ?_
  refine wp_seq_k (fun K2 hK2 => ?_)
  refine wp_seq_k (fun K3 hK3 => ?_)
  refine wp_region_lit ?_
  refine sqv hf (r_move rfl) rfl rfl rfl ?_; clear hf fa; intro fa hf
  refine sqv hf (r_lt rfl rfl) rfl rfl rfl ?_; clear hf fa; intro fa hf
  refine sqv hf (r_move rfl) rfl rfl rfl ?_; clear hf fa; intro fa hf
  refine sqgF (act := (!(decide (((k : Nat) : Int) < (1 : Int))))) (ag := true) (c := (decide (((k : Nat) : Int) < (1 : Int)))) (v := (.int .i64 ((k : Nat) : Int))) hf rfl rfl rfl (fun hact => (r_move rfl)) rfl rfl ?_; clear hf fa; intro fa hf
  refine sqgF (act := (!(decide (((k : Nat) : Int) < (1 : Int))))) (ag := true) (c := (decide (((k : Nat) : Int) < (1 : Int)))) (v := (.bool (decide ((1000 : Int) < ((k : Nat) : Int))))) hf rfl rfl rfl (fun hact => (r_gt (gb_ev hact rfl) rfl)) rfl rfl ?_; clear hf fa; intro fa hf
  refine sqv hf (r_pickO (b := (decide (((k : Nat) : Int) < (1 : Int)))) (e := (decide ((1000 : Int) < ((k : Nat) : Int)))) rfl rfl rfl) rfl rfl rfl ?_; clear hf fa; intro fa hf
  apply wpList_nil
  (try simp only [Exit.then, Exit.inBlock, ↓reduceIte, Nat.reduceEqDiff])
  refine hK3 _ _ ?_
  refine wp_cond_split (t := ((decide (((k : Nat) : Int) < (1 : Int))) || (decide ((1000 : Int) < ((k : Nat) : Int))))) (hf.ev rfl) (fun hqt13_1 => ?_) (fun hqt13_1 => ?_)
  · have hqt13_1b := hqt13_1
    try simp only [decide_eq_true_eq, Bool.and_eq_true, Bool.or_eq_true, Bool.not_eq_true', decide_eq_false_iff_not, ne_eq, Bool.not_eq_true] at hqt13_1
    exfalso; omega
  · have hqt13_1b := hqt13_1
    replace hqt13_1 := Bool.eq_false_iff.1 hqt13_1
    try simp only [ne_eq, decide_eq_true_eq, Bool.and_eq_true, Bool.or_eq_true, Bool.not_eq_true', decide_eq_false_iff_not] at hqt13_1
    refine wp_skip ?_
    (try simp only [Exit.then, Exit.inBlock, ↓reduceIte, Nat.reduceEqDiff])
    refine hK2 _ _ ?_
    refine wp_seq_k (fun K4 hK4 => ?_)
    refine wp_region_lit ?_
    refine sqv hf (r_move rfl) rfl rfl rfl ?_; clear hf fa; intro fa hf
    refine sqdt hf (d_make (V := (vInt .i64)) (bytes := 8) (z := (.int .i64 (0 : Int))) (n := k) (zr := (0 : Int)) rfl rfl Try.underlying31 (by kernel_rfl) rfl (by intros; rfl) (by omega) (by unfold maxLen; omega)) rfl rfl rfl ?_; clear hf fa; rintro fa _ w1 ⟨mb1, rfl, hle1, hr1, he1⟩ hf
    have hBmb1 : w.heap.size ≤ mb1 := Nat.le_trans hb.size hle1
    replace hr1 := Row.rebase hr1 hb.size
    replace hb := hb.trans (Below.mono he1 hb.size)
    skip
    refine sqv hf (r_assign rfl) rfl rfl rfl ?_; clear hf fa; intro fa hf
    apply wpList_nil
    (try simp only [Exit.then, Exit.inBlock, ↓reduceIte, Nat.reduceEqDiff])
    refine hK4 _ _ ?_
    refine wp_seq_k (fun K5 hK5 => ?_)
    refine wp_seq_k (fun K6 hK6 => ?_)
    have hb0 := barsP_len k (l.take 0)
    have hrl0 : (List.replicate k (0 : Int)).length = k := List.length_replicate
    refine wp_region_lit ?_
    refine sqv hf (r_move rfl) rfl rfl rfl ?_; clear hf fa; intro fa hf
    refine sqv hf (r_lensl rfl Try.underlying30) rfl rfl rfl ?_; clear hf fa; intro fa hf
    refine sqv hf (r_move rfl) rfl rfl rfl ?_; clear hf fa; intro fa hf
    apply wpList_nil
    (try simp only [Exit.then, Exit.inBlock, ↓reduceIte, Nat.reduceEqDiff])
    refine hK6 _ _ ?_
    refine wp_block ?_
    refine wp_loop_k (fun mq fa wr => ∃ (i : Nat) (rba : Option Addr) (rbc : Nat), mq = l.length - i ∧ Fr 60 fa [(0, (.int .i64 ((k : Nat) : Int))), (1, (.slice a l.length c)), (16, (.slice a l.length c)), (17, (.int .i64 ((l.length : Nat) : Int))), (18, (.int .i64 ((i : Nat) : Int))), (5, (.slice rba (((barsP k (l.take i))).length) rbc))] ∧ Below w.heap.size w wr ∧ Row 1 (vInt .i64) 3 (w.heap.size) wr (.slice rba (((barsP k (l.take i))).length) rbc) (barsP k (l.take i)) ∧ (i ≤ l.length)) ?_ ?_
    · skip
      exact ⟨_, 0, (some ⟨mb1, 0, none⟩), k, rfl, hf.sub ⟨rfl, rfl, rfl, rfl, (some_int (by first | rfl | omega)), (some_sl (by first | omega | rfl | (simp only [List.length_append, List.length_cons, List.length_nil]; omega) | (simp <;> omega)) rfl), trivial⟩, hb, (Row.relen hr1), (by omega)⟩
    · skip
      clear hf fa; intro mq1 fa w2 hI KL1 hKL1
      clear hb
      clear hr1
      obtain ⟨i, rba, rbc, hmq1, hf, hb, hrb, hi⟩ := hI
      have hcrb := Row.caps hrb
      have hbl := barsP_len k (l.take i)
      have hbl2 := barsP_len k (l.take (i + 1))
      have hbb := bb_bars k l i
      refine wp_seq_k (fun K7 hK7 => ?_)
      refine wp_region_lit ?_
      refine sqv hf (r_lt rfl rfl) rfl rfl rfl ?_; clear hf fa; intro fa hf
      apply wpList_nil
      (try simp only [Exit.then, Exit.inBlock, ↓reduceIte, Nat.reduceEqDiff])
      refine hK7 _ _ ?_
      refine wp_seq_k (fun K8 hK8 => ?_)
      refine wp_cond_split (t := (decide (((i : Nat) : Int) < ((l.length : Nat) : Int)))) (hf.ev rfl) (fun hqt19_1 => ?_) (fun hqt19_1 => ?_)
      · have hqt19_1b := hqt19_1
        try simp only [decide_eq_true_eq, Bool.and_eq_true, Bool.or_eq_true, Bool.not_eq_true', decide_eq_false_iff_not, ne_eq, Bool.not_eq_true] at hqt19_1
        refine wp_skip ?_
        (try simp only [Exit.then, Exit.inBlock, ↓reduceIte, Nat.reduceEqDiff])
        refine hK8 _ _ ?_
        refine wp_seq_k (fun K9 hK9 => ?_)
        refine wp_block ?_
        refine wp_seq_k (fun K10 hK10 => ?_)
        obtain ⟨y, hy⟩ : ∃ x, l[i]? = some x := ⟨_, List.getElem?_eq_getElem (by omega)⟩
        have hyw := hW y (List.mem_of_getElem? hy)
        refine wp_region_lit ?_
        have hy1 : (l)[i]? = some y := hy
        obtain ⟨ab1, aoff1, hat1, hlb1, hel1⟩ := RdS.at hl hy1
        refine sqv hf (r_ixa (sz := 1) (j := i) (evAt rfl hat1) rfl Try.underlying30 (by kernel_rfl) rfl (by omega) rfl) rfl rfl rfl ?_; clear hf fa; intro fa hf
        refine sqv hf (r_load (v := (.float .f64 y)) rfl Try.underlying22 rfl (cellsAt_cell (cellsAt_below hel1 hb hlb1) (i := 0) rfl rfl)) rfl rfl rfl ?_; clear hf fa; intro fa hf
        refine sqv hf (r_assign rfl) rfl rfl rfl ?_; clear hf fa; intro fa hf
        apply wpList_nil
        (try simp only [Exit.then, Exit.inBlock, ↓reduceIte, Nat.reduceEqDiff])
        refine hK10 _ _ ?_
        refine wp_block ?_
        refine wp_seq_k (fun K11 hK11 => ?_)
        refine wp_region_lit ?_
        refine sqv hf (r_move rfl) rfl rfl rfl ?_; clear hf fa; intro fa hf
        refine sqv hf (r_move rfl) rfl rfl rfl ?_; clear hf fa; intro fa hf
        refine sqv hf (Runs.veq (r_fneq rfl rfl) (congrArg Value.bool (show _ = (decide (FltT.isNan y)) from (fself y)))) rfl rfl rfl ?_; clear hf fa; intro fa hf
        refine sqv hf (r_assign rfl) rfl rfl rfl ?_; clear hf fa; intro fa hf
        apply wpList_nil
        (try simp only [Exit.then, Exit.inBlock, ↓reduceIte, Nat.reduceEqDiff])
        refine hK11 _ _ ?_
        refine wp_cond_split (t := (decide (FltT.isNan y))) (hf.ev rfl) (fun hqt35_1 => ?_) (fun hqt35_1 => ?_)
        · have hqt35_1b := hqt35_1
          try simp only [decide_eq_true_eq, Bool.and_eq_true, Bool.or_eq_true, Bool.not_eq_true', decide_eq_false_iff_not, ne_eq, Bool.not_eq_true] at hqt35_1
          refine wp_skip ?_
          (try simp only [Exit.then, Exit.inBlock, ↓reduceIte, Nat.reduceEqDiff])
          refine hK9 _ _ ?_
          refine wp_region_lit ?_
          refine sqv hf (r_add (C := (((i : Nat) : Int) + (1 : Int))) rfl rfl (by rw [IntKind.wrap_i64]; omega)) rfl rfl rfl ?_; clear hf fa; intro fa hf
          refine sqv hf (r_move rfl) rfl rfl rfl ?_; clear hf fa; intro fa hf
          apply wpList_nil
          (try simp only [Exit.then, Exit.inBlock, ↓reduceIte, Nat.reduceEqDiff])
          have hstep : barsP k (l.take (i + 1)) = (barsP k (l.take i)) := by rw [barsP_step hy]; unfold barsStep; rw [if_pos (nan_kind.2 (by assumption))]
          have hstl := congrArg List.length hstep
          refine hKL1 _ _ _ (by omega) ⟨(i + 1), rba, rbc, rfl, hf.sub ⟨rfl, rfl, rfl, rfl, (some_int (by first | rfl | omega)), (some_sl (by first | omega | rfl | (simp only [List.length_append, List.length_cons, List.length_nil]; omega) | (simp <;> omega)) rfl), trivial⟩, hb, (by rw [hstep]; exact Row.relen hrb), (by omega)⟩
        · have hqt35_1b := hqt35_1
          replace hqt35_1 := Bool.eq_false_iff.1 hqt35_1
          try simp only [ne_eq, decide_eq_true_eq, Bool.and_eq_true, Bool.or_eq_true, Bool.not_eq_true', decide_eq_false_iff_not] at hqt35_1
          refine wp_seq_k (fun K12 hK12 => ?_)
          refine wp_region_lit ?_
          refine sqv hf (r_move rfl) rfl rfl rfl ?_; clear hf fa; intro fa hf
          refine sqv hf (r_fgtr rfl rfl) rfl rfl rfl ?_; clear hf fa; intro fa hf
          refine sqv hf (r_not rfl) rfl rfl rfl ?_; clear hf fa; intro fa hf
          refine sqv hf (r_assign rfl) rfl rfl rfl ?_; clear hf fa; intro fa hf
          apply wpList_nil
          (try simp only [Exit.then, Exit.inBlock, ↓reduceIte, Nat.reduceEqDiff])
          refine hK12 _ _ ?_
          refine wp_cond_split (t := (!(ford y 0 == some .gt))) (hf.ev rfl) (fun hqt39_1 => ?_) (fun hqt39_1 => ?_)
          · have hqt39_1b := hqt39_1
            try simp only [decide_eq_true_eq, Bool.and_eq_true, Bool.or_eq_true, Bool.not_eq_true', decide_eq_false_iff_not, ne_eq, Bool.not_eq_true] at hqt39_1
            have hgz : gtZero y = false := nb2 hqt39_1b
            have hgo : geOne y = false := by cases hz : geOne y with | false => rfl | true => have h9 := one_zero hz; rw [hgz] at h9; cases h9
            have hbar : barI k y = 0 := by unfold barI; rw [hgo, hgz]; rfl
            have hb9 := hbb 0
            refine wp_region_lit ?_
            refine sqv hf (r_move rfl) rfl rfl rfl ?_; clear hf fa; intro fa hf
            obtain ⟨rb1, rfl, hbbrb1, hlbrb1⟩ := Row.some hrb (by first | omega | (simp only [Sl.list_length, List.length_set, List.length_take, List.length_append, List.length_replicate, List.length_cons, List.length_nil, List.length_map, nums_len]; omega))
            have hy2 := getD_at (l := (barsP k (l.take i))) (j := 0) (0 : Int) (by first | omega | (simp only [Sl.list_length, List.length_set, List.length_take, List.length_append, List.length_replicate, List.length_cons, List.length_nil, List.length_map, nums_len]; omega))
            have hel2 := RdS.at (Row.rd (by intros; rfl) hrb) hy2
            obtain ⟨_, _, hab, hlr1, hel2⟩ := hel2
            cases hab
            refine sqv hf (r_ixa (sz := 1) (j := 0) rfl rfl Try.underlying31 (by kernel_rfl) rfl (by omega) rfl) rfl rfl rfl ?_; clear hf fa; intro fa hf
            refine sqv hf (r_load (v := (.int .i64 (((barsP k (l.take i)).getD 0 (0 : Int))))) rfl Try.underlying3 rfl (cellsAt_cell hel2 (i := 0) rfl rfl)) rfl rfl rfl ?_; clear hf fa; intro fa hf
            refine sqv hf (r_add (C := ((((barsP k (l.take i)).getD 0 (0 : Int))) + (1 : Int))) rfl rfl (by rw [IntKind.wrap_i64]; omega)) rfl rfl rfl ?_; clear hf fa; intro fa hf
            have hy3 := getD_at (l := (barsP k (l.take i))) (j := 0) (0 : Int) (by first | omega | (simp only [Sl.list_length, List.length_set, List.length_take, List.length_append, List.length_replicate, List.length_cons, List.length_nil, List.length_map, nums_len]; omega))
            have hel3 := RdS.at (Row.rd (by intros; rfl) hrb) hy3
            obtain ⟨_, _, hab, hlr2, hel3⟩ := hel3
            cases hab
            refine sqv hf (r_ixa (sz := 1) (j := 0) rfl rfl Try.underlying31 (by kernel_rfl) rfl (by omega) rfl) rfl rfl rfl ?_; clear hf fa; intro fa hf
            refine sqn hf (d_rowset (u := ((((barsP k (l.take i)).getD 0 (0 : Int))) + (1 : Int))) (j := 0) (by intros; rfl) (by intro x u hu; simp only [vInt, List.mem_singleton] at hu; subst hu; rfl) rfl rfl (by first | rfl | (simp; done) | (simp; omega)) (by kernel_rfl) hrb (by first | omega | (simp only [Sl.list_length, List.length_set, List.length_take, List.length_append, List.length_replicate, List.length_cons, List.length_nil, List.length_map, nums_len]; omega)) (by omega)) rfl rfl ?_; clear hf fa; rintro fa _ w3 ⟨hr2, hg1⟩ hf
            replace hb := hb.trans (grown_below hg1 hb.size (by first | omega | (have := Row.lt hrb _ rfl; omega) | exact (Row.lt hrb _ rfl).1))
            apply wpList_nil
            (try simp only [Exit.then, Exit.inBlock, ↓reduceIte, Nat.reduceEqDiff])
            refine hK9 _ _ ?_
            refine wp_region_lit ?_
            refine sqv hf (r_add (C := (((i : Nat) : Int) + (1 : Int))) rfl rfl (by rw [IntKind.wrap_i64]; omega)) rfl rfl rfl ?_; clear hf fa; intro fa hf
            refine sqv hf (r_move rfl) rfl rfl rfl ?_; clear hf fa; intro fa hf
            apply wpList_nil
            (try simp only [Exit.then, Exit.inBlock, ↓reduceIte, Nat.reduceEqDiff])
            have hstep : barsP k (l.take (i + 1)) = (((barsP k (l.take i))).set 0 ((((barsP k (l.take i)).getD 0 (0 : Int))) + (1 : Int))) := by rw [barsP_step hy]; unfold barsStep; rw [if_neg (fun hz => by have hz9 := nan_kind.1 hz; contradiction)]; unfold bumpL; rw [hbar]
            have hstl := congrArg List.length hstep
            refine hKL1 _ _ _ (by omega) ⟨(i + 1), (some ⟨rb1, 0, none⟩), rbc, rfl, hf.sub ⟨rfl, rfl, rfl, rfl, (some_int (by first | rfl | omega)), (some_sl (by first | omega | rfl | (simp only [List.length_append, List.length_cons, List.length_nil]; omega) | (simp <;> omega)) rfl), trivial⟩, hb, (by rw [hstep]; exact Row.relen hr2), (by omega)⟩
          · have hqt39_1b := hqt39_1
            replace hqt39_1 := Bool.eq_false_iff.1 hqt39_1
            try simp only [ne_eq, decide_eq_true_eq, Bool.and_eq_true, Bool.or_eq_true, Bool.not_eq_true', decide_eq_false_iff_not] at hqt39_1
            refine wp_seq_k (fun K13 hK13 => ?_)
            refine wp_region_lit ?_
            refine sqv hf (r_move rfl) rfl rfl rfl ?_; clear hf fa; intro fa hf
            refine sqv hf (r_fgeq rfl rfl) rfl rfl rfl ?_; clear hf fa; intro fa hf
            refine sqv hf (r_assign rfl) rfl rfl rfl ?_; clear hf fa; intro fa hf
            apply wpList_nil
            (try simp only [Exit.then, Exit.inBlock, ↓reduceIte, Nat.reduceEqDiff])
            refine hK13 _ _ ?_
            refine wp_cond_split (t := (ford y 4607182418800017408 == some .gt || ford y 4607182418800017408 == some .eq)) (hf.ev rfl) (fun hqt48_1 => ?_) (fun hqt48_1 => ?_)
            · have hqt48_1b := hqt48_1
              try simp only [decide_eq_true_eq, Bool.and_eq_true, Bool.or_eq_true, Bool.not_eq_true', decide_eq_false_iff_not, ne_eq, Bool.not_eq_true] at hqt48_1
              have hgo : geOne y = true := hqt48_1b
              have hbar : barI k y = k - 1 := by unfold barI; rw [hgo]; rfl
              have hb9 := hbb (k - 1)
              refine wp_region_lit ?_
              refine sqv hf (r_move rfl) rfl rfl rfl ?_; clear hf fa; intro fa hf
              refine sqv hf (r_move rfl) rfl rfl rfl ?_; clear hf fa; intro fa hf
              refine sqv hf (r_sub (C := (((k - 1) : Nat) : Int)) rfl rfl (by rw [IntKind.wrap_i64]; omega)) rfl rfl rfl ?_; clear hf fa; intro fa hf
              obtain ⟨rb2, rfl, hbbrb2, hlbrb2⟩ := Row.some hrb (by first | omega | (simp only [Sl.list_length, List.length_set, List.length_take, List.length_append, List.length_replicate, List.length_cons, List.length_nil, List.length_map, nums_len]; omega))
              have hy4 := getD_at (l := (barsP k (l.take i))) (j := ((k - 1))) (0 : Int) (by first | omega | (simp only [Sl.list_length, List.length_set, List.length_take, List.length_append, List.length_replicate, List.length_cons, List.length_nil, List.length_map, nums_len]; omega))
              have hel4 := RdS.at (Row.rd (by intros; rfl) hrb) hy4
              obtain ⟨_, _, hab, hlr3, hel4⟩ := hel4
              cases hab
              refine sqv hf (r_ixa (sz := 1) (j := ((k - 1))) rfl rfl Try.underlying31 (by kernel_rfl) rfl (by omega) rfl) rfl rfl rfl ?_; clear hf fa; intro fa hf
              refine sqv hf (r_load (v := (.int .i64 (((barsP k (l.take i)).getD ((k - 1)) (0 : Int))))) rfl Try.underlying3 rfl (cellsAt_cell hel4 (i := 0) rfl rfl)) rfl rfl rfl ?_; clear hf fa; intro fa hf
              refine sqv hf (r_add (C := ((((barsP k (l.take i)).getD ((k - 1)) (0 : Int))) + (1 : Int))) rfl rfl (by rw [IntKind.wrap_i64]; omega)) rfl rfl rfl ?_; clear hf fa; intro fa hf
              have hy5 := getD_at (l := (barsP k (l.take i))) (j := ((k - 1))) (0 : Int) (by first | omega | (simp only [Sl.list_length, List.length_set, List.length_take, List.length_append, List.length_replicate, List.length_cons, List.length_nil, List.length_map, nums_len]; omega))
              have hel5 := RdS.at (Row.rd (by intros; rfl) hrb) hy5
              obtain ⟨_, _, hab, hlr4, hel5⟩ := hel5
              cases hab
              refine sqv hf (r_ixa (sz := 1) (j := ((k - 1))) rfl rfl Try.underlying31 (by kernel_rfl) rfl (by omega) rfl) rfl rfl rfl ?_; clear hf fa; intro fa hf
              refine sqn hf (d_rowset (u := ((((barsP k (l.take i)).getD ((k - 1)) (0 : Int))) + (1 : Int))) (j := ((k - 1))) (by intros; rfl) (by intro x u hu; simp only [vInt, List.mem_singleton] at hu; subst hu; rfl) rfl rfl (by first | rfl | (simp; done) | (simp; omega)) (by kernel_rfl) hrb (by first | omega | (simp only [Sl.list_length, List.length_set, List.length_take, List.length_append, List.length_replicate, List.length_cons, List.length_nil, List.length_map, nums_len]; omega)) (by omega)) rfl rfl ?_; clear hf fa; rintro fa _ w4 ⟨hr3, hg2⟩ hf
              replace hb := hb.trans (grown_below hg2 hb.size (by first | omega | (have := Row.lt hrb _ rfl; omega) | exact (Row.lt hrb _ rfl).1))
              apply wpList_nil
              (try simp only [Exit.then, Exit.inBlock, ↓reduceIte, Nat.reduceEqDiff])
              refine hK9 _ _ ?_
              refine wp_region_lit ?_
              refine sqv hf (r_add (C := (((i : Nat) : Int) + (1 : Int))) rfl rfl (by rw [IntKind.wrap_i64]; omega)) rfl rfl rfl ?_; clear hf fa; intro fa hf
              refine sqv hf (r_move rfl) rfl rfl rfl ?_; clear hf fa; intro fa hf
              apply wpList_nil
              (try simp only [Exit.then, Exit.inBlock, ↓reduceIte, Nat.reduceEqDiff])
              have hstep : barsP k (l.take (i + 1)) = (((barsP k (l.take i))).set ((k - 1)) ((((barsP k (l.take i)).getD ((k - 1)) (0 : Int))) + (1 : Int))) := by rw [barsP_step hy]; unfold barsStep; rw [if_neg (fun hz => by have hz9 := nan_kind.1 hz; contradiction)]; unfold bumpL; rw [hbar]
              have hstl := congrArg List.length hstep
              refine hKL1 _ _ _ (by omega) ⟨(i + 1), (some ⟨rb2, 0, none⟩), rbc, rfl, hf.sub ⟨rfl, rfl, rfl, rfl, (some_int (by first | rfl | omega)), (some_sl (by first | omega | rfl | (simp only [List.length_append, List.length_cons, List.length_nil]; omega) | (simp <;> omega)) rfl), trivial⟩, hb, (by rw [hstep]; exact Row.relen hr3), (by omega)⟩
            · have hqt48_1b := hqt48_1
              replace hqt48_1 := Bool.eq_false_iff.1 hqt48_1
              try simp only [ne_eq, decide_eq_true_eq, Bool.and_eq_true, Bool.or_eq_true, Bool.not_eq_true', decide_eq_false_iff_not] at hqt48_1
              have hgz : gtZero y = true := nb1 hqt39_1b
              have hgo : geOne y = false := hqt48_1b
              have hgq : goodQ y = true := unit_of (by assumption) hgz hgo
              obtain ⟨r9, t9, hmul, ht9, ht9k⟩ := unit_mul (x := y) (N := k) (goodQ_unit hgq).1 (goodQ_unit hgq).2 hk2
              have hbx : barI k y = if t9 ≤ k - 1 then t9 else k - 1 := by unfold barI; rw [hgo, hgz, cutI_eq hmul ht9]; rfl
              have hbar : barI k y = barI k y := rfl
              have hbk := barI_lt (k := k) (v := y) (by omega)
              have hb9 := hbb (barI k y)
              refine wp_region_lit ?_
              refine sqv hf (r_move rfl) rfl rfl rfl ?_; clear hf fa; intro fa hf
              refine sqv hf (r_move rfl) rfl rfl rfl ?_; clear hf fa; intro fa hf
              refine sqv hf (r_move rfl) rfl rfl rfl ?_; clear hf fa; intro fa hf
              refine sqv hf (r_fofint rfl Try.underlying3 Try.underlying22) rfl rfl rfl ?_; clear hf fa; intro fa hf
              refine sqv hf (r_farith (r := r9) rfl rfl (fun _ => rfl) hmul) rfl rfl rfl ?_; clear hf fa; intro fa hf
              refine sqv hf (r_ftoint (n := ((t9 : Nat) : Int)) rfl Try.underlying22 Try.underlying3 ht9) rfl rfl rfl ?_; clear hf fa; intro fa hf
              refine sqv hf (r_move rfl) rfl rfl rfl ?_; clear hf fa; intro fa hf
              refine sqv hf (r_sub (C := (((k - 1) : Nat) : Int)) rfl rfl (by rw [IntKind.wrap_i64]; omega)) rfl rfl rfl ?_; clear hf fa; intro fa hf
              refine sqv hf (Runs.veq (v' := (.int .i64 (((barI k y) : Nat) : Int))) (r_min rfl rfl) (congrArg (Value.int .i64) (by rw [hbx]; by_cases h9 : t9 ≤ k - 1; (rw [if_pos h9, if_neg (by omega)]); (rw [if_neg h9, if_pos (by omega)])))) rfl rfl rfl ?_; clear hf fa; intro fa hf
              obtain ⟨rb3, rfl, hbbrb3, hlbrb3⟩ := Row.some hrb (by first | omega | (simp only [Sl.list_length, List.length_set, List.length_take, List.length_append, List.length_replicate, List.length_cons, List.length_nil, List.length_map, nums_len]; omega))
              have hy6 := getD_at (l := (barsP k (l.take i))) (j := ((barI k y))) (0 : Int) (by first | omega | (simp only [Sl.list_length, List.length_set, List.length_take, List.length_append, List.length_replicate, List.length_cons, List.length_nil, List.length_map, nums_len]; omega))
              have hel6 := RdS.at (Row.rd (by intros; rfl) hrb) hy6
              obtain ⟨_, _, hab, hlr5, hel6⟩ := hel6
              cases hab
              refine sqv hf (r_ixa (sz := 1) (j := ((barI k y))) rfl rfl Try.underlying31 (by kernel_rfl) rfl (by omega) rfl) rfl rfl rfl ?_; clear hf fa; intro fa hf
              refine sqv hf (r_load (v := (.int .i64 (((barsP k (l.take i)).getD ((barI k y)) (0 : Int))))) rfl Try.underlying3 rfl (cellsAt_cell hel6 (i := 0) rfl rfl)) rfl rfl rfl ?_; clear hf fa; intro fa hf
              refine sqv hf (r_add (C := ((((barsP k (l.take i)).getD ((barI k y)) (0 : Int))) + (1 : Int))) rfl rfl (by rw [IntKind.wrap_i64]; omega)) rfl rfl rfl ?_; clear hf fa; intro fa hf
              have hy7 := getD_at (l := (barsP k (l.take i))) (j := ((barI k y))) (0 : Int) (by first | omega | (simp only [Sl.list_length, List.length_set, List.length_take, List.length_append, List.length_replicate, List.length_cons, List.length_nil, List.length_map, nums_len]; omega))
              have hel7 := RdS.at (Row.rd (by intros; rfl) hrb) hy7
              obtain ⟨_, _, hab, hlr6, hel7⟩ := hel7
              cases hab
              refine sqv hf (r_ixa (sz := 1) (j := ((barI k y))) rfl rfl Try.underlying31 (by kernel_rfl) rfl (by omega) rfl) rfl rfl rfl ?_; clear hf fa; intro fa hf
              refine sqn hf (d_rowset (u := ((((barsP k (l.take i)).getD ((barI k y)) (0 : Int))) + (1 : Int))) (j := ((barI k y))) (by intros; rfl) (by intro x u hu; simp only [vInt, List.mem_singleton] at hu; subst hu; rfl) rfl rfl (by first | rfl | (simp; done) | (simp; omega)) (by kernel_rfl) hrb (by first | omega | (simp only [Sl.list_length, List.length_set, List.length_take, List.length_append, List.length_replicate, List.length_cons, List.length_nil, List.length_map, nums_len]; omega)) (by omega)) rfl rfl ?_; clear hf fa; rintro fa _ w5 ⟨hr4, hg3⟩ hf
              replace hb := hb.trans (grown_below hg3 hb.size (by first | omega | (have := Row.lt hrb _ rfl; omega) | exact (Row.lt hrb _ rfl).1))
              apply wpList_nil
              (try simp only [Exit.then, Exit.inBlock, ↓reduceIte, Nat.reduceEqDiff])
              refine hK9 _ _ ?_
              refine wp_region_lit ?_
              refine sqv hf (r_add (C := (((i : Nat) : Int) + (1 : Int))) rfl rfl (by rw [IntKind.wrap_i64]; omega)) rfl rfl rfl ?_; clear hf fa; intro fa hf
              refine sqv hf (r_move rfl) rfl rfl rfl ?_; clear hf fa; intro fa hf
              apply wpList_nil
              (try simp only [Exit.then, Exit.inBlock, ↓reduceIte, Nat.reduceEqDiff])
              have hstep : barsP k (l.take (i + 1)) = (((barsP k (l.take i))).set ((barI k y)) ((((barsP k (l.take i)).getD ((barI k y)) (0 : Int))) + (1 : Int))) := by rw [barsP_step hy]; unfold barsStep; rw [if_neg (fun hz => by have hz9 := nan_kind.1 hz; contradiction)]; unfold bumpL; rw [hbar]
              have hstl := congrArg List.length hstep
              refine hKL1 _ _ _ (by omega) ⟨(i + 1), (some ⟨rb3, 0, none⟩), rbc, rfl, hf.sub ⟨rfl, rfl, rfl, rfl, (some_int (by first | rfl | omega)), (some_sl (by first | omega | rfl | (simp only [List.length_append, List.length_cons, List.length_nil]; omega) | (simp <;> omega)) rfl), trivial⟩, hb, (by rw [hstep]; exact Row.relen hr4), (by omega)⟩
      · have hqt19_1b := hqt19_1
        replace hqt19_1 := Bool.eq_false_iff.1 hqt19_1
        try simp only [ne_eq, decide_eq_true_eq, Bool.and_eq_true, Bool.or_eq_true, Bool.not_eq_true', decide_eq_false_iff_not] at hqt19_1
        refine wp_exit ?_
        (try simp only [Exit.then, Exit.inBlock, ↓reduceIte, Nat.reduceEqDiff])
        refine hK5 _ _ ?_
        refine wp_seq_k (fun K14 hK14 => ?_)
        refine wp_region_lit ?_
        refine sqv hf (r_move rfl) rfl rfl rfl ?_; clear hf fa; intro fa hf
        refine sqv hf (r_assign rfl) rfl rfl rfl ?_; clear hf fa; intro fa hf
        apply wpList_nil
        (try simp only [Exit.then, Exit.inBlock, ↓reduceIte, Nat.reduceEqDiff])
        refine hK14 _ _ ?_
        refine wp_ret ?_
        (try simp only [Exit.then, Exit.inBlock])
        refine ret1 hf rfl rfl ?_
        refine ⟨_, rfl, ?_, hb⟩
        have h := hrb
        have hi9 : i = l.length := by omega
        rw [hi9, List.take_length] at h ⊢
        exact h

set_option maxHeartbeats 1000000 in
set_option maxRecDepth 100000 in
theorem rbars_any (k : Nat) (hk1 : 1 ≤ k) (hk2 : k ≤ 1000) (a : Option Addr) (c : Nat) (l : List Nat) (w : World) (hl : RdS 1 vFlt w a l) (hlen : l.length ≤ 100) (hW : allW l) : Calls Try.prog 18 #[(.int .i64 ((k : Nat) : Int)), (.slice a l.length c)] w fun e w' => ∃ v, e = .returned v ∧ Row 1 (vInt .i64) 3 w.heap.size w' v (barsP k l) ∧ Below w.heap.size w w' := by
  refine sx_enter (L := [(0, (.int .i64 ((k : Nat) : Int))), (1, (.slice a l.length c))]) Try.func18 rfl rfl rfl rfl (fun fa hf => ?_)
  have hb : Below w.heap.size w w := Below.refl _ _
  refine wp_seq_k (fun K1 hK1 => ?_)
  refine wp_region_lit ?_
  refine sqv hf (r_assign rfl) rfl rfl rfl ?_; clear hf fa; intro fa hf
  apply wpList_nil
  (try simp only [Exit.then, Exit.inBlock, ↓reduceIte, Nat.reduceEqDiff])
  refine hK1 _ _ ?_
  refine wp_seq_k (fun K2 hK2 => ?_)
  refine wp_seq_k (fun K3 hK3 => ?_)
  refine wp_region_lit ?_
  refine sqv hf (r_move rfl) rfl rfl rfl ?_; clear hf fa; intro fa hf
  refine sqv hf (r_lt rfl rfl) rfl rfl rfl ?_; clear hf fa; intro fa hf
  refine sqv hf (r_move rfl) rfl rfl rfl ?_; clear hf fa; intro fa hf
  refine sqgF (act := (!(decide (((k : Nat) : Int) < (1 : Int))))) (ag := true) (c := (decide (((k : Nat) : Int) < (1 : Int)))) (v := (.int .i64 ((k : Nat) : Int))) hf rfl rfl rfl (fun hact => (r_move rfl)) rfl rfl ?_; clear hf fa; intro fa hf
  refine sqgF (act := (!(decide (((k : Nat) : Int) < (1 : Int))))) (ag := true) (c := (decide (((k : Nat) : Int) < (1 : Int)))) (v := (.bool (decide ((1000 : Int) < ((k : Nat) : Int))))) hf rfl rfl rfl (fun hact => (r_gt (gb_ev hact rfl) rfl)) rfl rfl ?_; clear hf fa; intro fa hf
  refine sqv hf (r_pickO (b := (decide (((k : Nat) : Int) < (1 : Int)))) (e := (decide ((1000 : Int) < ((k : Nat) : Int)))) rfl rfl rfl) rfl rfl rfl ?_; clear hf fa; intro fa hf
  apply wpList_nil
  (try simp only [Exit.then, Exit.inBlock, ↓reduceIte, Nat.reduceEqDiff])
  refine hK3 _ _ ?_
  refine wp_cond_split (t := ((decide (((k : Nat) : Int) < (1 : Int))) || (decide ((1000 : Int) < ((k : Nat) : Int))))) (hf.ev rfl) (fun hqt13_1 => ?_) (fun hqt13_1 => ?_)
  · have hqt13_1b := hqt13_1
    try simp only [decide_eq_true_eq, Bool.and_eq_true, Bool.or_eq_true, Bool.not_eq_true', decide_eq_false_iff_not, ne_eq, Bool.not_eq_true] at hqt13_1
    exfalso; omega
  · have hqt13_1b := hqt13_1
    replace hqt13_1 := Bool.eq_false_iff.1 hqt13_1
    try simp only [ne_eq, decide_eq_true_eq, Bool.and_eq_true, Bool.or_eq_true, Bool.not_eq_true', decide_eq_false_iff_not] at hqt13_1
    refine wp_skip ?_
    (try simp only [Exit.then, Exit.inBlock, ↓reduceIte, Nat.reduceEqDiff])
    refine hK2 _ _ ?_
    refine wp_seq_k (fun K4 hK4 => ?_)
    refine wp_region_lit ?_
    refine sqv hf (r_move rfl) rfl rfl rfl ?_; clear hf fa; intro fa hf
    refine sqdt hf (d_make (V := (vInt .i64)) (bytes := 8) (z := (.int .i64 (0 : Int))) (n := k) (zr := (0 : Int)) rfl rfl Try.underlying31 (by kernel_rfl) rfl (by intros; rfl) (by omega) (by unfold maxLen; omega)) rfl rfl rfl ?_; clear hf fa; rintro fa _ w1 ⟨mb1, rfl, hle1, hr1, he1⟩ hf
    have hBmb1 : w.heap.size ≤ mb1 := Nat.le_trans hb.size hle1
    replace hr1 := Row.rebase hr1 hb.size
    replace hb := hb.trans (Below.mono he1 hb.size)
    skip
    refine sqv hf (r_assign rfl) rfl rfl rfl ?_; clear hf fa; intro fa hf
    apply wpList_nil
    (try simp only [Exit.then, Exit.inBlock, ↓reduceIte, Nat.reduceEqDiff])
    refine hK4 _ _ ?_
    refine wp_seq_k (fun K5 hK5 => ?_)
    refine wp_seq_k (fun K6 hK6 => ?_)
    have hb0 := barsP_len k (l.take 0)
    have hrl0 : (List.replicate k (0 : Int)).length = k := List.length_replicate
    refine wp_region_lit ?_
    refine sqv hf (r_assign rfl) rfl rfl rfl ?_; clear hf fa; intro fa hf
    apply wpList_nil
    (try simp only [Exit.then, Exit.inBlock, ↓reduceIte, Nat.reduceEqDiff])
    refine hK6 _ _ ?_
    refine wp_block ?_
    refine wp_loop_k (fun mq fa wr => ∃ (i : Nat) (rba : Option Addr) (rbc : Nat), mq = l.length - i ∧ Fr 58 fa [(0, (.int .i64 ((k : Nat) : Int))), (1, (.slice a l.length c)), (6, (.int .i64 ((i : Nat) : Int))), (5, (.slice rba (((barsP k (l.take i))).length) rbc))] ∧ Below w.heap.size w wr ∧ Row 1 (vInt .i64) 3 (w.heap.size) wr (.slice rba (((barsP k (l.take i))).length) rbc) (barsP k (l.take i)) ∧ (i ≤ l.length)) ?_ ?_
    · skip
      exact ⟨_, 0, (some ⟨mb1, 0, none⟩), k, rfl, hf.sub ⟨rfl, rfl, (some_int (by first | rfl | omega)), (some_sl (by first | omega | rfl | (simp only [List.length_append, List.length_cons, List.length_nil]; omega) | (simp <;> omega)) rfl), trivial⟩, hb, (Row.relen hr1), (by omega)⟩
    · skip
      clear hf fa; intro mq1 fa w2 hI KL1 hKL1
      clear hb
      clear hr1
      obtain ⟨i, rba, rbc, hmq1, hf, hb, hrb, hi⟩ := hI
      have hcrb := Row.caps hrb
      have hbl := barsP_len k (l.take i)
      have hbl2 := barsP_len k (l.take (i + 1))
      have hbb := bb_bars k l i
      refine wp_seq_k (fun K7 hK7 => ?_)
      refine wp_seq_k (fun K8 hK8 => ?_)
      refine wp_region_lit ?_
      refine sqv hf (r_move rfl) rfl rfl rfl ?_; clear hf fa; intro fa hf
      refine sqv hf (r_move rfl) rfl rfl rfl ?_; clear hf fa; intro fa hf
      refine sqv hf (r_lensl rfl Try.underlying30) rfl rfl rfl ?_; clear hf fa; intro fa hf
      refine sqv hf (r_lt rfl rfl) rfl rfl rfl ?_; clear hf fa; intro fa hf
      apply wpList_nil
      (try simp only [Exit.then, Exit.inBlock, ↓reduceIte, Nat.reduceEqDiff])
      refine hK8 _ _ ?_
      refine wp_cond_split (t := (decide (((i : Nat) : Int) < ((l.length : Nat) : Int)))) (hf.ev rfl) (fun hqt19_1 => ?_) (fun hqt19_1 => ?_)
      · have hqt19_1b := hqt19_1
        try simp only [decide_eq_true_eq, Bool.and_eq_true, Bool.or_eq_true, Bool.not_eq_true', decide_eq_false_iff_not, ne_eq, Bool.not_eq_true] at hqt19_1
        refine wp_skip ?_
        (try simp only [Exit.then, Exit.inBlock, ↓reduceIte, Nat.reduceEqDiff])
        refine hK7 _ _ ?_
        refine wp_seq_k (fun K9 hK9 => ?_)
        refine wp_block ?_
        refine wp_seq_k (fun K10 hK10 => ?_)
        refine wp_seq_k (fun K11 hK11 => ?_)
        obtain ⟨y, hy⟩ : ∃ x, l[i]? = some x := ⟨_, List.getElem?_eq_getElem (by omega)⟩
        have hyw := hW y (List.mem_of_getElem? hy)
        refine wp_region_lit ?_
        refine sqv hf (r_move rfl) rfl rfl rfl ?_; clear hf fa; intro fa hf
        refine sqv hf (r_move rfl) rfl rfl rfl ?_; clear hf fa; intro fa hf
        have hy1 : (l)[i]? = some y := hy
        obtain ⟨ab1, aoff1, hat1, hlb1, hel1⟩ := RdS.at hl hy1
        refine sqv hf (r_ixa (sz := 1) (j := i) (evAt rfl hat1) rfl Try.underlying30 (by kernel_rfl) rfl (by omega) rfl) rfl rfl rfl ?_; clear hf fa; intro fa hf
        refine sqv hf (r_load (v := (.float .f64 y)) rfl Try.underlying22 rfl (cellsAt_cell (cellsAt_below hel1 hb hlb1) (i := 0) rfl rfl)) rfl rfl rfl ?_; clear hf fa; intro fa hf
        refine sqdt hf (d_callB (vs := [(.float .f64 y)]) rfl Try.func8 (by kernel_rfl) (by kernel_rfl) (rkind_any y (by first | assumption | omega) _)) rfl rfl rfl ?_; clear hf fa; rintro fa _ w3 ⟨rfl, he2⟩ hf
        replace hrb := Row.ext hrb he2
        replace hb := hb.trans (Below.mono he2 hb.size)
        refine sqv hf (r_eq rfl rfl) rfl rfl rfl ?_; clear hf fa; intro fa hf
        apply wpList_nil
        (try simp only [Exit.then, Exit.inBlock, ↓reduceIte, Nat.reduceEqDiff])
        refine hK11 _ _ ?_
        refine wp_cond_split (t := (decide ((kindN y) = (0 : Int)))) (hf.ev rfl) (fun hqt27_1 => ?_) (fun hqt27_1 => ?_)
        · have hqt27_1b := hqt27_1
          try simp only [decide_eq_true_eq, Bool.and_eq_true, Bool.or_eq_true, Bool.not_eq_true', decide_eq_false_iff_not, ne_eq, Bool.not_eq_true] at hqt27_1
          refine wp_exit ?_
          (try simp only [Exit.then, Exit.inBlock, ↓reduceIte, Nat.reduceEqDiff])
          refine hK9 _ _ ?_
          refine wp_region_lit ?_
          refine sqv hf (r_move rfl) rfl rfl rfl ?_; clear hf fa; intro fa hf
          refine sqv hf (r_add (C := (((i : Nat) : Int) + (1 : Int))) rfl rfl (by rw [IntKind.wrap_i64]; omega)) rfl rfl rfl ?_; clear hf fa; intro fa hf
          refine sqv hf (r_assign rfl) rfl rfl rfl ?_; clear hf fa; intro fa hf
          apply wpList_nil
          (try simp only [Exit.then, Exit.inBlock, ↓reduceIte, Nat.reduceEqDiff])
          have hstep : barsP k (l.take (i + 1)) = (barsP k (l.take i)) := by rw [barsP_step hy]; unfold barsStep; rw [if_pos (by have h := hqt27_1; omega)]
          have hstl := congrArg List.length hstep
          refine hKL1 _ _ _ (by omega) ⟨(i + 1), rba, rbc, rfl, hf.sub ⟨rfl, rfl, (some_int (by first | rfl | omega)), (some_sl (by first | omega | rfl | (simp only [List.length_append, List.length_cons, List.length_nil]; omega) | (simp <;> omega)) rfl), trivial⟩, hb, (by rw [hstep]; exact Row.relen hrb), (by omega)⟩
        · have hqt27_1b := hqt27_1
          replace hqt27_1 := Bool.eq_false_iff.1 hqt27_1
          try simp only [ne_eq, decide_eq_true_eq, Bool.and_eq_true, Bool.or_eq_true, Bool.not_eq_true', decide_eq_false_iff_not] at hqt27_1
          refine wp_skip ?_
          (try simp only [Exit.then, Exit.inBlock, ↓reduceIte, Nat.reduceEqDiff])
          refine hK10 _ _ ?_
          refine wp_seq_k (fun K12 hK12 => ?_)
          refine wp_region_lit ?_
          refine sqv hf (r_assign rfl) rfl rfl rfl ?_; clear hf fa; intro fa hf
          apply wpList_nil
          (try simp only [Exit.then, Exit.inBlock, ↓reduceIte, Nat.reduceEqDiff])
          refine hK12 _ _ ?_
          refine wp_seq_k (fun K13 hK13 => ?_)
          refine wp_seq_k (fun K14 hK14 => ?_)
          refine wp_region_lit ?_
          refine sqv hf (r_move rfl) rfl rfl rfl ?_; clear hf fa; intro fa hf
          refine sqv hf (r_move rfl) rfl rfl rfl ?_; clear hf fa; intro fa hf
          refine sqv hf (r_ixa (sz := 1) (j := i) (evAt rfl hat1) rfl Try.underlying30 (by kernel_rfl) rfl (by omega) rfl) rfl rfl rfl ?_; clear hf fa; intro fa hf
          refine sqv hf (r_load (v := (.float .f64 y)) rfl Try.underlying22 rfl (cellsAt_cell (cellsAt_below hel1 hb hlb1) (i := 0) rfl rfl)) rfl rfl rfl ?_; clear hf fa; intro fa hf
          refine sqv hf (r_fgeq rfl rfl) rfl rfl rfl ?_; clear hf fa; intro fa hf
          apply wpList_nil
          (try simp only [Exit.then, Exit.inBlock, ↓reduceIte, Nat.reduceEqDiff])
          refine hK14 _ _ ?_
          refine wp_cond_split (t := (ford y 4607182418800017408 == some .gt || ford y 4607182418800017408 == some .eq)) (hf.ev rfl) (fun hqt32_1 => ?_) (fun hqt32_1 => ?_)
          · have hqt32_1b := hqt32_1
            try simp only [decide_eq_true_eq, Bool.and_eq_true, Bool.or_eq_true, Bool.not_eq_true', decide_eq_false_iff_not, ne_eq, Bool.not_eq_true] at hqt32_1
            have hgo : geOne y = true := hqt32_1b
            have hbar : barI k y = k - 1 := by unfold barI; rw [hgo]; rfl
            refine wp_region_lit ?_
            refine sqv hf (r_move rfl) rfl rfl rfl ?_; clear hf fa; intro fa hf
            refine sqv hf (Runs.veq (v' := (.int .i64 (((barI k y) : Nat) : Int))) (r_sub (C := (((k - 1) : Nat) : Int)) rfl rfl (by rw [IntKind.wrap_i64]; omega)) (by rw [hbar])) rfl rfl rfl ?_; clear hf fa; intro fa hf
            refine sqv hf (r_assign rfl) rfl rfl rfl ?_; clear hf fa; intro fa hf
            apply wpList_nil
            (try simp only [Exit.then, Exit.inBlock, ↓reduceIte, Nat.reduceEqDiff])
            refine hK13 _ _ ?_
            have hbk := barI_lt (k := k) (v := y) (by omega)
            have hb9 := hbb (barI k y)
            refine wp_region_lit ?_
            refine sqv hf (r_move rfl) rfl rfl rfl ?_; clear hf fa; intro fa hf
            refine sqv hf (r_move rfl) rfl rfl rfl ?_; clear hf fa; intro fa hf
            obtain ⟨rb1, rfl, hbbrb1, hlbrb1⟩ := Row.some hrb (by first | omega | (simp only [Sl.list_length, List.length_set, List.length_take, List.length_append, List.length_replicate, List.length_cons, List.length_nil, List.length_map, nums_len]; omega))
            have hy2 := getD_at (l := (barsP k (l.take i))) (j := ((barI k y))) (0 : Int) (by first | omega | (simp only [Sl.list_length, List.length_set, List.length_take, List.length_append, List.length_replicate, List.length_cons, List.length_nil, List.length_map, nums_len]; omega))
            have hel2 := RdS.at (Row.rd (by intros; rfl) hrb) hy2
            obtain ⟨_, _, hab, hlr1, hel2⟩ := hel2
            cases hab
            refine sqv hf (r_ixa (sz := 1) (j := ((barI k y))) rfl rfl Try.underlying31 (by kernel_rfl) rfl (by omega) rfl) rfl rfl rfl ?_; clear hf fa; intro fa hf
            refine sqv hf (r_load (v := (.int .i64 (((barsP k (l.take i)).getD ((barI k y)) (0 : Int))))) rfl Try.underlying3 rfl (cellsAt_cell hel2 (i := 0) rfl rfl)) rfl rfl rfl ?_; clear hf fa; intro fa hf
            refine sqv hf (r_add (C := ((((barsP k (l.take i)).getD ((barI k y)) (0 : Int))) + (1 : Int))) rfl rfl (by rw [IntKind.wrap_i64]; omega)) rfl rfl rfl ?_; clear hf fa; intro fa hf
            have hy3 := getD_at (l := (barsP k (l.take i))) (j := ((barI k y))) (0 : Int) (by first | omega | (simp only [Sl.list_length, List.length_set, List.length_take, List.length_append, List.length_replicate, List.length_cons, List.length_nil, List.length_map, nums_len]; omega))
            have hel3 := RdS.at (Row.rd (by intros; rfl) hrb) hy3
            obtain ⟨_, _, hab, hlr2, hel3⟩ := hel3
            cases hab
            refine sqv hf (r_ixa (sz := 1) (j := ((barI k y))) rfl rfl Try.underlying31 (by kernel_rfl) rfl (by omega) rfl) rfl rfl rfl ?_; clear hf fa; intro fa hf
            refine sqn hf (d_rowset (u := ((((barsP k (l.take i)).getD ((barI k y)) (0 : Int))) + (1 : Int))) (j := ((barI k y))) (by intros; rfl) (by intro x u hu; simp only [vInt, List.mem_singleton] at hu; subst hu; rfl) rfl rfl (by first | rfl | (simp; done) | (simp; omega)) (by kernel_rfl) hrb (by first | omega | (simp only [Sl.list_length, List.length_set, List.length_take, List.length_append, List.length_replicate, List.length_cons, List.length_nil, List.length_map, nums_len]; omega)) (by omega)) rfl rfl ?_; clear hf fa; rintro fa _ w4 ⟨hr2, hg1⟩ hf
            replace hb := hb.trans (grown_below hg1 hb.size (by first | omega | (have := Row.lt hrb _ rfl; omega) | exact (Row.lt hrb _ rfl).1))
            apply wpList_nil
            (try simp only [Exit.then, Exit.inBlock, ↓reduceIte, Nat.reduceEqDiff])
            refine hK9 _ _ ?_
            refine wp_region_lit ?_
            refine sqv hf (r_move rfl) rfl rfl rfl ?_; clear hf fa; intro fa hf
            refine sqv hf (r_add (C := (((i : Nat) : Int) + (1 : Int))) rfl rfl (by rw [IntKind.wrap_i64]; omega)) rfl rfl rfl ?_; clear hf fa; intro fa hf
            refine sqv hf (r_assign rfl) rfl rfl rfl ?_; clear hf fa; intro fa hf
            apply wpList_nil
            (try simp only [Exit.then, Exit.inBlock, ↓reduceIte, Nat.reduceEqDiff])
            have hstep : barsP k (l.take (i + 1)) = (((barsP k (l.take i))).set ((barI k y)) ((((barsP k (l.take i)).getD ((barI k y)) (0 : Int))) + (1 : Int))) := by rw [barsP_step hy]; unfold barsStep; rw [if_neg (by have h := hqt27_1; omega)]; unfold bumpL; rfl
            have hstl := congrArg List.length hstep
            refine hKL1 _ _ _ (by omega) ⟨(i + 1), (some ⟨rb1, 0, none⟩), rbc, rfl, hf.sub ⟨rfl, rfl, (some_int (by first | rfl | omega)), (some_sl (by first | omega | rfl | (simp only [List.length_append, List.length_cons, List.length_nil]; omega) | (simp <;> omega)) rfl), trivial⟩, hb, (by rw [hstep]; exact Row.relen hr2), (by omega)⟩
          · have hqt32_1b := hqt32_1
            replace hqt32_1 := Bool.eq_false_iff.1 hqt32_1
            try simp only [ne_eq, decide_eq_true_eq, Bool.and_eq_true, Bool.or_eq_true, Bool.not_eq_true', decide_eq_false_iff_not] at hqt32_1
            refine wp_seq_k (fun K15 hK15 => ?_)
            refine wp_region_lit ?_
            refine sqv hf (r_move rfl) rfl rfl rfl ?_; clear hf fa; intro fa hf
            refine sqv hf (r_move rfl) rfl rfl rfl ?_; clear hf fa; intro fa hf
            refine sqv hf (r_ixa (sz := 1) (j := i) (evAt rfl hat1) rfl Try.underlying30 (by kernel_rfl) rfl (by omega) rfl) rfl rfl rfl ?_; clear hf fa; intro fa hf
            refine sqv hf (r_load (v := (.float .f64 y)) rfl Try.underlying22 rfl (cellsAt_cell (cellsAt_below hel1 hb hlb1) (i := 0) rfl rfl)) rfl rfl rfl ?_; clear hf fa; intro fa hf
            refine sqv hf (r_fgtr rfl rfl) rfl rfl rfl ?_; clear hf fa; intro fa hf
            apply wpList_nil
            (try simp only [Exit.then, Exit.inBlock, ↓reduceIte, Nat.reduceEqDiff])
            refine hK15 _ _ ?_
            refine wp_cond_split (t := (ford y 0 == some .gt)) (hf.ev rfl) (fun hqt39_1 => ?_) (fun hqt39_1 => ?_)
            · have hqt39_1b := hqt39_1
              try simp only [decide_eq_true_eq, Bool.and_eq_true, Bool.or_eq_true, Bool.not_eq_true', decide_eq_false_iff_not, ne_eq, Bool.not_eq_true] at hqt39_1
              have hnn : ¬ FltT.isNan y := fun hz => by have h := hqt27_1; have := nan_kind.2 hz; omega
              have hgz : gtZero y = true := hqt39_1b
              have hgo : geOne y = false := hqt32_1b
              have hgq : goodQ y = true := unit_of hnn hgz hgo
              obtain ⟨r9, t9, hmul, ht9, ht9k⟩ := unit_mul (x := y) (N := k) (goodQ_unit hgq).1 (goodQ_unit hgq).2 hk2
              have hbx : barI k y = if t9 ≤ k - 1 then t9 else k - 1 := by unfold barI; rw [hgo, hgz, cutI_eq hmul ht9]; rfl
              refine wp_region_lit ?_
              refine sqv hf (r_move rfl) rfl rfl rfl ?_; clear hf fa; intro fa hf
              refine sqv hf (r_move rfl) rfl rfl rfl ?_; clear hf fa; intro fa hf
              refine sqv hf (r_ixa (sz := 1) (j := i) (evAt rfl hat1) rfl Try.underlying30 (by kernel_rfl) rfl (by omega) rfl) rfl rfl rfl ?_; clear hf fa; intro fa hf
              refine sqv hf (r_load (v := (.float .f64 y)) rfl Try.underlying22 rfl (cellsAt_cell (cellsAt_below hel1 hb hlb1) (i := 0) rfl rfl)) rfl rfl rfl ?_; clear hf fa; intro fa hf
              refine sqv hf (r_move rfl) rfl rfl rfl ?_; clear hf fa; intro fa hf
              refine sqv hf (r_fofint rfl Try.underlying3 Try.underlying22) rfl rfl rfl ?_; clear hf fa; intro fa hf
              refine sqv hf (r_farith (r := r9) rfl rfl (fun _ => rfl) hmul) rfl rfl rfl ?_; clear hf fa; intro fa hf
              refine sqv hf (r_ftoint (n := ((t9 : Nat) : Int)) rfl Try.underlying22 Try.underlying3 ht9) rfl rfl rfl ?_; clear hf fa; intro fa hf
              refine sqv hf (r_move rfl) rfl rfl rfl ?_; clear hf fa; intro fa hf
              refine sqv hf (r_sub (C := (((k - 1) : Nat) : Int)) rfl rfl (by rw [IntKind.wrap_i64]; omega)) rfl rfl rfl ?_; clear hf fa; intro fa hf
              refine sqv hf (Runs.veq (v' := (.int .i64 (((barI k y) : Nat) : Int))) (r_min rfl rfl) (congrArg (Value.int .i64) (by rw [hbx]; by_cases h9 : t9 ≤ k - 1; (rw [if_pos h9, if_neg (by omega)]); (rw [if_neg h9, if_pos (by omega)])))) rfl rfl rfl ?_; clear hf fa; intro fa hf
              refine sqv hf (r_assign rfl) rfl rfl rfl ?_; clear hf fa; intro fa hf
              apply wpList_nil
              (try simp only [Exit.then, Exit.inBlock, ↓reduceIte, Nat.reduceEqDiff])
              refine hK13 _ _ ?_
              have hbk := barI_lt (k := k) (v := y) (by omega)
              have hb9 := hbb (barI k y)
              refine wp_region_lit ?_
              refine sqv hf (r_move rfl) rfl rfl rfl ?_; clear hf fa; intro fa hf
              refine sqv hf (r_move rfl) rfl rfl rfl ?_; clear hf fa; intro fa hf
              obtain ⟨rb2, rfl, hbbrb2, hlbrb2⟩ := Row.some hrb (by first | omega | (simp only [Sl.list_length, List.length_set, List.length_take, List.length_append, List.length_replicate, List.length_cons, List.length_nil, List.length_map, nums_len]; omega))
              have hy4 := getD_at (l := (barsP k (l.take i))) (j := ((barI k y))) (0 : Int) (by first | omega | (simp only [Sl.list_length, List.length_set, List.length_take, List.length_append, List.length_replicate, List.length_cons, List.length_nil, List.length_map, nums_len]; omega))
              have hel4 := RdS.at (Row.rd (by intros; rfl) hrb) hy4
              obtain ⟨_, _, hab, hlr3, hel4⟩ := hel4
              cases hab
              refine sqv hf (r_ixa (sz := 1) (j := ((barI k y))) rfl rfl Try.underlying31 (by kernel_rfl) rfl (by omega) rfl) rfl rfl rfl ?_; clear hf fa; intro fa hf
              refine sqv hf (r_load (v := (.int .i64 (((barsP k (l.take i)).getD ((barI k y)) (0 : Int))))) rfl Try.underlying3 rfl (cellsAt_cell hel4 (i := 0) rfl rfl)) rfl rfl rfl ?_; clear hf fa; intro fa hf
              refine sqv hf (r_add (C := ((((barsP k (l.take i)).getD ((barI k y)) (0 : Int))) + (1 : Int))) rfl rfl (by rw [IntKind.wrap_i64]; omega)) rfl rfl rfl ?_; clear hf fa; intro fa hf
              have hy5 := getD_at (l := (barsP k (l.take i))) (j := ((barI k y))) (0 : Int) (by first | omega | (simp only [Sl.list_length, List.length_set, List.length_take, List.length_append, List.length_replicate, List.length_cons, List.length_nil, List.length_map, nums_len]; omega))
              have hel5 := RdS.at (Row.rd (by intros; rfl) hrb) hy5
              obtain ⟨_, _, hab, hlr4, hel5⟩ := hel5
              cases hab
              refine sqv hf (r_ixa (sz := 1) (j := ((barI k y))) rfl rfl Try.underlying31 (by kernel_rfl) rfl (by omega) rfl) rfl rfl rfl ?_; clear hf fa; intro fa hf
              refine sqn hf (d_rowset (u := ((((barsP k (l.take i)).getD ((barI k y)) (0 : Int))) + (1 : Int))) (j := ((barI k y))) (by intros; rfl) (by intro x u hu; simp only [vInt, List.mem_singleton] at hu; subst hu; rfl) rfl rfl (by first | rfl | (simp; done) | (simp; omega)) (by kernel_rfl) hrb (by first | omega | (simp only [Sl.list_length, List.length_set, List.length_take, List.length_append, List.length_replicate, List.length_cons, List.length_nil, List.length_map, nums_len]; omega)) (by omega)) rfl rfl ?_; clear hf fa; rintro fa _ w5 ⟨hr3, hg2⟩ hf
              replace hb := hb.trans (grown_below hg2 hb.size (by first | omega | (have := Row.lt hrb _ rfl; omega) | exact (Row.lt hrb _ rfl).1))
              apply wpList_nil
              (try simp only [Exit.then, Exit.inBlock, ↓reduceIte, Nat.reduceEqDiff])
              refine hK9 _ _ ?_
              refine wp_region_lit ?_
              refine sqv hf (r_move rfl) rfl rfl rfl ?_; clear hf fa; intro fa hf
              refine sqv hf (r_add (C := (((i : Nat) : Int) + (1 : Int))) rfl rfl (by rw [IntKind.wrap_i64]; omega)) rfl rfl rfl ?_; clear hf fa; intro fa hf
              refine sqv hf (r_assign rfl) rfl rfl rfl ?_; clear hf fa; intro fa hf
              apply wpList_nil
              (try simp only [Exit.then, Exit.inBlock, ↓reduceIte, Nat.reduceEqDiff])
              have hstep : barsP k (l.take (i + 1)) = (((barsP k (l.take i))).set ((barI k y)) ((((barsP k (l.take i)).getD ((barI k y)) (0 : Int))) + (1 : Int))) := by rw [barsP_step hy]; unfold barsStep; rw [if_neg (by have h := hqt27_1; omega)]; unfold bumpL; rfl
              have hstl := congrArg List.length hstep
              refine hKL1 _ _ _ (by omega) ⟨(i + 1), (some ⟨rb2, 0, none⟩), rbc, rfl, hf.sub ⟨rfl, rfl, (some_int (by first | rfl | omega)), (some_sl (by first | omega | rfl | (simp only [List.length_append, List.length_cons, List.length_nil]; omega) | (simp <;> omega)) rfl), trivial⟩, hb, (by rw [hstep]; exact Row.relen hr3), (by omega)⟩
            · have hqt39_1b := hqt39_1
              replace hqt39_1 := Bool.eq_false_iff.1 hqt39_1
              try simp only [ne_eq, decide_eq_true_eq, Bool.and_eq_true, Bool.or_eq_true, Bool.not_eq_true', decide_eq_false_iff_not] at hqt39_1
              refine wp_skip ?_
              (try simp only [Exit.then, Exit.inBlock, ↓reduceIte, Nat.reduceEqDiff])
              refine hK13 _ _ ?_
              have hgz : gtZero y = false := hqt39_1b
              have hgo : geOne y = false := hqt32_1b
              have hbar : barI k y = 0 := by unfold barI; rw [hgo, hgz]; rfl
              have hbk := barI_lt (k := k) (v := y) (by omega)
              have hb9 := hbb (barI k y)
              refine wp_region_lit ?_
              refine sqv hf (r_move rfl) rfl rfl rfl ?_; clear hf fa; intro fa hf
              refine sqv hf (Runs.veq (v' := (.int .i64 (((barI k y) : Nat) : Int))) (r_move rfl) (by rw [hbar]; rfl)) rfl rfl rfl ?_; clear hf fa; intro fa hf
              obtain ⟨rb3, rfl, hbbrb3, hlbrb3⟩ := Row.some hrb (by first | omega | (simp only [Sl.list_length, List.length_set, List.length_take, List.length_append, List.length_replicate, List.length_cons, List.length_nil, List.length_map, nums_len]; omega))
              have hy6 := getD_at (l := (barsP k (l.take i))) (j := ((barI k y))) (0 : Int) (by first | omega | (simp only [Sl.list_length, List.length_set, List.length_take, List.length_append, List.length_replicate, List.length_cons, List.length_nil, List.length_map, nums_len]; omega))
              have hel6 := RdS.at (Row.rd (by intros; rfl) hrb) hy6
              obtain ⟨_, _, hab, hlr5, hel6⟩ := hel6
              cases hab
              refine sqv hf (r_ixa (sz := 1) (j := ((barI k y))) rfl rfl Try.underlying31 (by kernel_rfl) rfl (by omega) rfl) rfl rfl rfl ?_; clear hf fa; intro fa hf
              refine sqv hf (r_load (v := (.int .i64 (((barsP k (l.take i)).getD ((barI k y)) (0 : Int))))) rfl Try.underlying3 rfl (cellsAt_cell hel6 (i := 0) rfl rfl)) rfl rfl rfl ?_; clear hf fa; intro fa hf
              refine sqv hf (r_add (C := ((((barsP k (l.take i)).getD ((barI k y)) (0 : Int))) + (1 : Int))) rfl rfl (by rw [IntKind.wrap_i64]; omega)) rfl rfl rfl ?_; clear hf fa; intro fa hf
              have hy7 := getD_at (l := (barsP k (l.take i))) (j := ((barI k y))) (0 : Int) (by first | omega | (simp only [Sl.list_length, List.length_set, List.length_take, List.length_append, List.length_replicate, List.length_cons, List.length_nil, List.length_map, nums_len]; omega))
              have hel7 := RdS.at (Row.rd (by intros; rfl) hrb) hy7
              obtain ⟨_, _, hab, hlr6, hel7⟩ := hel7
              cases hab
              refine sqv hf (r_ixa (sz := 1) (j := ((barI k y))) rfl rfl Try.underlying31 (by kernel_rfl) rfl (by omega) rfl) rfl rfl rfl ?_; clear hf fa; intro fa hf
              refine sqn hf (d_rowset (u := ((((barsP k (l.take i)).getD ((barI k y)) (0 : Int))) + (1 : Int))) (j := ((barI k y))) (by intros; rfl) (by intro x u hu; simp only [vInt, List.mem_singleton] at hu; subst hu; rfl) rfl rfl (by first | rfl | (simp; done) | (simp; omega)) (by kernel_rfl) hrb (by first | omega | (simp only [Sl.list_length, List.length_set, List.length_take, List.length_append, List.length_replicate, List.length_cons, List.length_nil, List.length_map, nums_len]; omega)) (by omega)) rfl rfl ?_; clear hf fa; rintro fa _ w6 ⟨hr4, hg3⟩ hf
              replace hb := hb.trans (grown_below hg3 hb.size (by first | omega | (have := Row.lt hrb _ rfl; omega) | exact (Row.lt hrb _ rfl).1))
              apply wpList_nil
              (try simp only [Exit.then, Exit.inBlock, ↓reduceIte, Nat.reduceEqDiff])
              refine hK9 _ _ ?_
              refine wp_region_lit ?_
              refine sqv hf (r_move rfl) rfl rfl rfl ?_; clear hf fa; intro fa hf
              refine sqv hf (r_add (C := (((i : Nat) : Int) + (1 : Int))) rfl rfl (by rw [IntKind.wrap_i64]; omega)) rfl rfl rfl ?_; clear hf fa; intro fa hf
              refine sqv hf (r_assign rfl) rfl rfl rfl ?_; clear hf fa; intro fa hf
              apply wpList_nil
              (try simp only [Exit.then, Exit.inBlock, ↓reduceIte, Nat.reduceEqDiff])
              have hstep : barsP k (l.take (i + 1)) = (((barsP k (l.take i))).set ((barI k y)) ((((barsP k (l.take i)).getD ((barI k y)) (0 : Int))) + (1 : Int))) := by rw [barsP_step hy]; unfold barsStep; rw [if_neg (by have h := hqt27_1; omega)]; unfold bumpL; rfl
              have hstl := congrArg List.length hstep
              refine hKL1 _ _ _ (by omega) ⟨(i + 1), (some ⟨rb3, 0, none⟩), rbc, rfl, hf.sub ⟨rfl, rfl, (some_int (by first | rfl | omega)), (some_sl (by first | omega | rfl | (simp only [List.length_append, List.length_cons, List.length_nil]; omega) | (simp <;> omega)) rfl), trivial⟩, hb, (by rw [hstep]; exact Row.relen hr4), (by omega)⟩
      · have hqt19_1b := hqt19_1
        replace hqt19_1 := Bool.eq_false_iff.1 hqt19_1
        try simp only [ne_eq, decide_eq_true_eq, Bool.and_eq_true, Bool.or_eq_true, Bool.not_eq_true', decide_eq_false_iff_not] at hqt19_1
        refine wp_exit ?_
        (try simp only [Exit.then, Exit.inBlock, ↓reduceIte, Nat.reduceEqDiff])
        refine hK5 _ _ ?_
        refine wp_seq_k (fun K16 hK16 => ?_)
        refine wp_region_lit ?_
        refine sqv hf (r_move rfl) rfl rfl rfl ?_; clear hf fa; intro fa hf
        refine sqv hf (r_assign rfl) rfl rfl rfl ?_; clear hf fa; intro fa hf
        apply wpList_nil
        (try simp only [Exit.then, Exit.inBlock, ↓reduceIte, Nat.reduceEqDiff])
        refine hK16 _ _ ?_
        refine wp_ret ?_
        (try simp only [Exit.then, Exit.inBlock])
        refine ret1 hf rfl rfl ?_
        refine ⟨_, rfl, ?_, hb⟩
        have h := hrb
        have hi9 : i = l.length := by omega
        rw [hi9, List.take_length] at h ⊢
        exact h

set_option maxHeartbeats 1000000 in
set_option maxRecDepth 100000 in
theorem bars_none (kk : Int) (hkk : kk < 1 ∨ 1000 < kk) (a : Option Addr) (c : Nat) (l : List Nat) (w : World) (hl : RdS 1 vFlt w a l) (hlen : l.length ≤ 100) (hW : allW l) : Calls Try.prog 13 #[(.int .i64 kk), (.slice a l.length c)] w fun e w' => e = .returned (.slice none 0 0) ∧ Below w.heap.size w w' := by
  refine sx_enter (L := [(0, (.int .i64 kk)), (1, (.slice a l.length c))]) Try.func13 rfl rfl rfl rfl (fun fa hf => ?_)
  have hb : Below w.heap.size w w := Below.refl _ _
  refine wp_seq_k (fun K1 hK1 => ?_)
  refine wp_region_lit ?_
  refine sqv hf (r_assign rfl) rfl rfl rfl ?_; clear hf fa; intro fa hf
  apply wpList_nil
  (try simp only [Exit.then, Exit.inBlock, ↓reduceIte, Nat.reduceEqDiff])
  refine hK1 _ _ ?_
  refine wp_seq_k (fun K2 hK2 => ?_)
  refine wp_seq_k (fun K3 hK3 => ?_)
  refine wp_region_lit ?_
  refine sqv hf (r_move rfl) rfl rfl rfl ?_; clear hf fa; intro fa hf
  refine sqv hf (r_lt rfl rfl) rfl rfl rfl ?_; clear hf fa; intro fa hf
  refine sqv hf (r_move rfl) rfl rfl rfl ?_; clear hf fa; intro fa hf
  refine sqgF (act := (!(decide (kk < (1 : Int))))) (ag := true) (c := (decide (kk < (1 : Int)))) (v := (.int .i64 kk)) hf rfl rfl rfl (fun hact => (r_move rfl)) rfl rfl ?_; clear hf fa; intro fa hf
  refine sqgF (act := (!(decide (kk < (1 : Int))))) (ag := true) (c := (decide (kk < (1 : Int)))) (v := (.bool (decide ((1000 : Int) < kk)))) hf rfl rfl rfl (fun hact => (r_gt (gb_ev hact rfl) rfl)) rfl rfl ?_; clear hf fa; intro fa hf
  refine sqv hf (r_pickO (b := (decide (kk < (1 : Int)))) (e := (decide ((1000 : Int) < kk))) rfl rfl rfl) rfl rfl rfl ?_; clear hf fa; intro fa hf
  apply wpList_nil
  (try simp only [Exit.then, Exit.inBlock, ↓reduceIte, Nat.reduceEqDiff])
  refine hK3 _ _ ?_
  refine wp_cond_split (t := ((decide (kk < (1 : Int))) || (decide ((1000 : Int) < kk)))) (hf.ev rfl) (fun hqt13_1 => ?_) (fun hqt13_1 => ?_)
  · have hqt13_1b := hqt13_1
    try simp only [decide_eq_true_eq, Bool.and_eq_true, Bool.or_eq_true, Bool.not_eq_true', decide_eq_false_iff_not, ne_eq, Bool.not_eq_true] at hqt13_1
    refine wp_seq_k (fun K4 hK4 => ?_)
    refine wp_region_lit ?_
    refine sqv hf (r_assign rfl) rfl rfl rfl ?_; clear hf fa; intro fa hf
    apply wpList_nil
    (try simp only [Exit.then, Exit.inBlock, ↓reduceIte, Nat.reduceEqDiff])
    refine hK4 _ _ ?_
    refine wp_ret ?_
    (try simp only [Exit.then, Exit.inBlock])
    refine ret1 hf rfl rfl ?_
    exact ⟨rfl, hb⟩
  · have hqt13_1b := hqt13_1
    replace hqt13_1 := Bool.eq_false_iff.1 hqt13_1
    try simp only [ne_eq, decide_eq_true_eq, Bool.and_eq_true, Bool.or_eq_true, Bool.not_eq_true', decide_eq_false_iff_not] at hqt13_1
    exfalso; omega

set_option maxHeartbeats 1000000 in
set_option maxRecDepth 100000 in
theorem rbars_none (kk : Int) (hkk : kk < 1 ∨ 1000 < kk) (a : Option Addr) (c : Nat) (l : List Nat) (w : World) (hl : RdS 1 vFlt w a l) (hlen : l.length ≤ 100) (hW : allW l) : Calls Try.prog 18 #[(.int .i64 kk), (.slice a l.length c)] w fun e w' => e = .returned (.slice none 0 0) ∧ Below w.heap.size w w' := by
  refine sx_enter (L := [(0, (.int .i64 kk)), (1, (.slice a l.length c))]) Try.func18 rfl rfl rfl rfl (fun fa hf => ?_)
  have hb : Below w.heap.size w w := Below.refl _ _
  refine wp_seq_k (fun K1 hK1 => ?_)
  refine wp_region_lit ?_
  refine sqv hf (r_assign rfl) rfl rfl rfl ?_; clear hf fa; intro fa hf
  apply wpList_nil
  (try simp only [Exit.then, Exit.inBlock, ↓reduceIte, Nat.reduceEqDiff])
  refine hK1 _ _ ?_
  refine wp_seq_k (fun K2 hK2 => ?_)
  refine wp_seq_k (fun K3 hK3 => ?_)
  refine wp_region_lit ?_
  refine sqv hf (r_move rfl) rfl rfl rfl ?_; clear hf fa; intro fa hf
  refine sqv hf (r_lt rfl rfl) rfl rfl rfl ?_; clear hf fa; intro fa hf
  refine sqv hf (r_move rfl) rfl rfl rfl ?_; clear hf fa; intro fa hf
  refine sqgF (act := (!(decide (kk < (1 : Int))))) (ag := true) (c := (decide (kk < (1 : Int)))) (v := (.int .i64 kk)) hf rfl rfl rfl (fun hact => (r_move rfl)) rfl rfl ?_; clear hf fa; intro fa hf
  refine sqgF (act := (!(decide (kk < (1 : Int))))) (ag := true) (c := (decide (kk < (1 : Int)))) (v := (.bool (decide ((1000 : Int) < kk)))) hf rfl rfl rfl (fun hact => (r_gt (gb_ev hact rfl) rfl)) rfl rfl ?_; clear hf fa; intro fa hf
  refine sqv hf (r_pickO (b := (decide (kk < (1 : Int)))) (e := (decide ((1000 : Int) < kk))) rfl rfl rfl) rfl rfl rfl ?_; clear hf fa; intro fa hf
  apply wpList_nil
  (try simp only [Exit.then, Exit.inBlock, ↓reduceIte, Nat.reduceEqDiff])
  refine hK3 _ _ ?_
  refine wp_cond_split (t := ((decide (kk < (1 : Int))) || (decide ((1000 : Int) < kk)))) (hf.ev rfl) (fun hqt13_1 => ?_) (fun hqt13_1 => ?_)
  · have hqt13_1b := hqt13_1
    try simp only [decide_eq_true_eq, Bool.and_eq_true, Bool.or_eq_true, Bool.not_eq_true', decide_eq_false_iff_not, ne_eq, Bool.not_eq_true] at hqt13_1
    refine wp_seq_k (fun K4 hK4 => ?_)
    refine wp_region_lit ?_
    refine sqv hf (r_assign rfl) rfl rfl rfl ?_; clear hf fa; intro fa hf
    apply wpList_nil
    (try simp only [Exit.then, Exit.inBlock, ↓reduceIte, Nat.reduceEqDiff])
    refine hK4 _ _ ?_
    refine wp_ret ?_
    (try simp only [Exit.then, Exit.inBlock])
    refine ret1 hf rfl rfl ?_
    exact ⟨rfl, hb⟩
  · have hqt13_1b := hqt13_1
    replace hqt13_1 := Bool.eq_false_iff.1 hqt13_1
    try simp only [ne_eq, decide_eq_true_eq, Bool.and_eq_true, Bool.or_eq_true, Bool.not_eq_true', decide_eq_false_iff_not] at hqt13_1
    exfalso; omega
end Go.Proofs.Ytbllifhcfgjdlaa
