/- What is proved here: GaugeTells walked. -/
import Derived.Test.YtbllifhcfgjdlaaGgU
import Derived.Test.YtbllifhcfgjdlaaGgF
namespace Go.Proofs.Ytbllifhcfgjdlaa
open Go.RowKit
set_option linter.unusedVariables false
set_option linter.unusedSimpArgs false
set_option maxHeartbeats 1000000 in
set_option maxRecDepth 100000 in
theorem tells_any (a : Option Addr) (c : Nat) (l : List Nat) (w : World) (hl : RdS 1 vFlt w a l) (hlm : l.length ≤ 9223372036854775807) (hcap : l.length ≤ c) (hW : allW l) : Calls Try.prog 5 #[(.slice a l.length c)] w fun e w' => e = .returned (.bool true) ∧ Below w.heap.size w w' := by
  refine sx_enter (L := [(0, (.slice a l.length c))]) Try.func5 rfl rfl rfl rfl (fun fa hf => ?_)
  have hb : Below w.heap.size w w := Below.refl _ _
  refine wp_seq_k (fun K1 hK1 => ?_)
  refine wp_region_lit ?_
  refine sqv hf (r_assign rfl) rfl rfl rfl ?_; clear hf fa; intro fa hf
  apply wpList_nil
  (try simp only [Exit.then, Exit.inBlock, ↓reduceIte, Nat.reduceEqDiff])
  refine hK1 _ _ ?_
  refine wp_seq_k (fun K2 hK2 => ?_)
  refine wp_seq_k (fun K3 hK3 => ?_)
  refine wp_region_lit ?_
  refine sqdt hf (d_callB (vs := []) rfl Try.func6 (by kernel_rfl) (by kernel_rfl) (awake48_any _)) rfl rfl rfl ?_; clear hf fa; rintro fa _ w1 ⟨rfl, he1⟩ hf
  replace hb := hb.trans (Below.mono he1 hb.size)
  refine sqv hf (Runs.veq (v' := (.bool false)) (r_not rfl) rfl) rfl rfl rfl ?_; clear hf fa; intro fa hf
  apply wpList_nil
  (try simp only [Exit.then, Exit.inBlock, ↓reduceIte, Nat.reduceEqDiff])
  refine hK3 _ _ ?_
  refine wp_cond_false (hf.ev rfl) ?_
  refine wp_skip ?_
  (try simp only [Exit.then, Exit.inBlock, ↓reduceIte, Nat.reduceEqDiff])
  refine hK2 _ _ ?_
  refine wp_seq_k (fun K4 hK4 => ?_)
  refine wp_seq_k (fun K5 hK5 => ?_)
  refine wp_region_lit ?_
  refine sqv hf (r_move rfl) rfl rfl rfl ?_; clear hf fa; intro fa hf
  refine sqv hf (r_lensl rfl Try.underlying30) rfl rfl rfl ?_; clear hf fa; intro fa hf
  refine sqv hf (r_gt rfl rfl) rfl rfl rfl ?_; clear hf fa; intro fa hf
  apply wpList_nil
  (try simp only [Exit.then, Exit.inBlock, ↓reduceIte, Nat.reduceEqDiff])
  refine hK5 _ _ ?_
  refine wp_cond_split (t := (decide ((100 : Int) < ((l.length : Nat) : Int)))) (hf.ev rfl) (fun hqt14_1 => ?_) (fun hqt14_1 => ?_)
  · have hqt14_1b := hqt14_1
    try simp only [decide_eq_true_eq, Bool.and_eq_true, Bool.or_eq_true, Bool.not_eq_true', decide_eq_false_iff_not, ne_eq, Bool.not_eq_true] at hqt14_1
    refine wp_seq_k (fun K6 hK6 => ?_)
    refine wp_region_lit ?_
    refine sqv hf (r_assign rfl) rfl rfl rfl ?_; clear hf fa; intro fa hf
    apply wpList_nil
    (try simp only [Exit.then, Exit.inBlock, ↓reduceIte, Nat.reduceEqDiff])
    refine hK6 _ _ ?_
    refine wp_ret ?_
    (try simp only [Exit.then, Exit.inBlock])
    refine ret1 hf rfl rfl ?_
    exact ⟨rfl, hb⟩
  · have hqt14_1b := hqt14_1
    replace hqt14_1 := Bool.eq_false_iff.1 hqt14_1
    try simp only [ne_eq, decide_eq_true_eq, Bool.and_eq_true, Bool.or_eq_true, Bool.not_eq_true', decide_eq_false_iff_not] at hqt14_1
    refine wp_skip ?_
    (try simp only [Exit.then, Exit.inBlock, ↓reduceIte, Nat.reduceEqDiff])
    refine hK4 _ _ ?_
    refine wp_seq_k (fun K7 hK7 => ?_)
    refine wp_region_lit ?_
    refine sqdt hf (d_alloc (z := (.agg #[(.int .i64 (0 : Int)), (.int .i64 (0 : Int)), (.float .f64 0), (.float .f64 0), (.float .f64 0)])) (cs := #[(.int .i64 (0 : Int)), (.int .i64 (0 : Int)), (.float .f64 0), (.float .f64 0), (.float .f64 0)]) (by kernel_rfl) rfl) rfl rfl rfl ?_; clear hf fa; rintro fa _ w2 ⟨b1, rfl, hle1, hk1, he2⟩ hf
    have hBb1 : w.heap.size ≤ b1 := Nat.le_trans hb.size hle1
    replace hb := hb.trans (Below.mono he2 hb.size)
    apply wpList_nil
    (try simp only [Exit.then, Exit.inBlock, ↓reduceIte, Nat.reduceEqDiff])
    refine hK7 _ _ ?_
    refine wp_seq_k (fun K8 hK8 => ?_)
    refine wp_seq_k (fun K9 hK9 => ?_)
    refine wp_region_lit ?_
    refine sqv hf (r_assign rfl) rfl rfl rfl ?_; clear hf fa; intro fa hf
    apply wpList_nil
    (try simp only [Exit.then, Exit.inBlock, ↓reduceIte, Nat.reduceEqDiff])
    refine hK9 _ _ ?_
    refine wp_block ?_
    refine wp_loop_k (fun mq fa wr => ∃ (k : Nat) (n : Nat) (o : Nat) (m : Nat) (M : Nat) (s : Nat), mq = l.length - k ∧ Fr 112 fa [(0, (.slice a l.length c)), (3, (.pointer (some ⟨b1, 0, none⟩))), (4, (.int .i64 ((k : Nat) : Int)))] ∧ Below w.heap.size w wr ∧ wr.heap[b1]? = some (.cells #[(.int .i64 ((n : Nat) : Int)), (.int .i64 ((o : Nat) : Int)), (.float .f64 m), (.float .f64 M), (.float .f64 s)] 40 (0, 0)) ∧ (k ≤ l.length) ∧ (GS (l.take k) n o m M s)) ?_ ?_
    · skip
      exact ⟨_, 0, 0, 0, 0, 0, 0, rfl, hf.sub ⟨rfl, rfl, (some_int (by first | rfl | omega)), trivial⟩, hb, hk1, (by omega), gs_nil⟩
    · skip
      clear hf fa; intro mq1 fa w3 hI KL1 hKL1
      clear hb
      clear hk1
      obtain ⟨k, n, o, m, M, s, hmq1, hf, hb, hkb1, hk0, hG⟩ := hI
      refine wp_seq_k (fun K10 hK10 => ?_)
      refine wp_seq_k (fun K11 hK11 => ?_)
      refine wp_region_lit ?_
      refine sqv hf (r_move rfl) rfl rfl rfl ?_; clear hf fa; intro fa hf
      refine sqv hf (r_move rfl) rfl rfl rfl ?_; clear hf fa; intro fa hf
      refine sqv hf (r_lensl rfl Try.underlying30) rfl rfl rfl ?_; clear hf fa; intro fa hf
      refine sqv hf (r_lt rfl rfl) rfl rfl rfl ?_; clear hf fa; intro fa hf
      apply wpList_nil
      (try simp only [Exit.then, Exit.inBlock, ↓reduceIte, Nat.reduceEqDiff])
      refine hK11 _ _ ?_
      refine wp_cond_split (t := (decide (((k : Nat) : Int) < ((l.length : Nat) : Int)))) (hf.ev rfl) (fun hqt18_1 => ?_) (fun hqt18_1 => ?_)
      · have hqt18_1b := hqt18_1
        try simp only [decide_eq_true_eq, Bool.and_eq_true, Bool.or_eq_true, Bool.not_eq_true', decide_eq_false_iff_not, ne_eq, Bool.not_eq_true] at hqt18_1
        refine wp_skip ?_
        (try simp only [Exit.then, Exit.inBlock, ↓reduceIte, Nat.reduceEqDiff])
        refine hK10 _ _ ?_
        refine wp_seq_k (fun K12 hK12 => ?_)
        refine wp_block ?_
        refine wp_seq_k (fun K13 hK13 => ?_)
        obtain ⟨y, hy⟩ : ∃ x, l[k]? = some x := ⟨_, List.getElem?_eq_getElem (by omega)⟩
        have hyw := hW y (List.mem_of_getElem? hy)
        have hGn0 := hG.nE
        have hGl0 : (l.take k).length ≤ k := List.length_take_le ..
        have hsnoc : l.take k ++ [y] = l.take (k + 1) := by rw [List.take_add_one, hy]; rfl
        have hLk : (l.take (k + 1)).length = k + 1 := by rw [List.length_take]; omega
        refine wp_region_lit ?_
        refine sqv hf (r_move rfl) rfl rfl rfl ?_; clear hf fa; intro fa hf
        refine sqv hf (r_move rfl) rfl rfl rfl ?_; clear hf fa; intro fa hf
        have hy1 : (l)[k]? = some y := hy
        obtain ⟨ab1, aoff1, hat1, hlb1, hel1⟩ := RdS.at hl hy1
        refine sqv hf (r_ixa (sz := 1) (j := k) (evAt rfl hat1) rfl Try.underlying30 (by kernel_rfl) rfl (by omega) rfl) rfl rfl rfl ?_; clear hf fa; intro fa hf
        refine sqv hf (r_load (v := (.float .f64 y)) rfl Try.underlying22 rfl (cellsAt_cell (cellsAt_below hel1 hb hlb1) (i := 0) rfl rfl)) rfl rfl rfl ?_; clear hf fa; intro fa hf
        refine sqdt hf (d_callX (R := fun vz wz => vz = .tuple #[] ∧ ∃ n2 o2 m2 M2 s2 : Nat, wz.heap[b1]? = some (.cells #[(.int .i64 ((n2 : Nat) : Int)), (.int .i64 ((o2 : Nat) : Int)), (.float .f64 m2), (.float .f64 M2), (.float .f64 s2)] 40 (0, 0)) ∧ AddR y n o m M s n2 o2 m2 M2 s2 ∧ Below w.heap.size w wz) (vs := [(.pointer (some ⟨b1, 0, none⟩)), (.float .f64 y)]) rfl Try.func19 (by kernel_rfl) (by kernel_rfl) (Calls.mono (gadd_any b1 n o m M s y w _ hb hBb1 hkb1 (by have := hG.oE; omega) (by have := hG.nE; omega) hG.mE hG.ME hG.sE hyw) (fun e w2 h => ⟨_, h.1, rfl, h.2⟩))) rfl rfl rfl ?_; clear hf fa; rintro fa _ w4 ⟨rfl, n21, o21, m21, M21, s21, hk2, hA1, hb1⟩ hf
        clear hb hkb1
        have hb := hb1
        clear hb1
        have hG2 := gs_step hG hyw (allW_take hW k) hA1
        rw [hsnoc] at hG2
        have hGn := hG2.nE
        have hGo := hG2.oE
        apply wpList_nil
        (try simp only [Exit.then, Exit.inBlock, ↓reduceIte, Nat.reduceEqDiff])
        refine hK13 _ _ ?_
        refine wp_seq_k (fun K14 hK14 => ?_)
        refine wp_region_lit ?_
        refine sqv hf (r_move rfl) rfl rfl rfl ?_; clear hf fa; intro fa hf
        refine sqv hf (r_move rfl) rfl rfl rfl ?_; clear hf fa; intro fa hf
        refine sqv hf (r_add (C := (((k : Nat) : Int) + (1 : Int))) rfl rfl (by rw [IntKind.wrap_i64]; omega)) rfl rfl rfl ?_; clear hf fa; intro fa hf
        refine sqv hf (r_slto (m := (k + 1)) rfl rfl Try.underlying30 (by kernel_rfl) rfl (by omega)) rfl rfl rfl ?_; clear hf fa; intro fa hf
        refine sqv hf (r_assign rfl) rfl rfl rfl ?_; clear hf fa; intro fa hf
        apply wpList_nil
        (try simp only [Exit.then, Exit.inBlock, ↓reduceIte, Nat.reduceEqDiff])
        refine hK14 _ _ ?_
        refine wp_seq_k (fun K15 hK15 => ?_)
        refine wp_region_lit ?_
        refine sqv hf (r_move rfl) rfl rfl rfl ?_; clear hf fa; intro fa hf
        refine sqdt hf (d_callX (vs := [(.slice a ((k + 1)) c)]) rfl Try.func14 (by kernel_rfl) (by kernel_rfl) (by have h9 := numbers_any _ c (l.take (k + 1)) _ (RdS.ext (RdS.take (k + 1) hl) hb) (by omega) (allW_take hW (k + 1)); rw [hLk] at h9; exact h9)) rfl rfl rfl ?_; clear hf fa; rintro fa v w5 ⟨hr1, he3⟩ hf; obtain ⟨ra1, rc1, rfl, hcrc1, hmrc1⟩ := Row.slice hr1
        replace hr1 := Row.rebase hr1 hb.size
        replace hk2 := blk_ext hk2 he3
        replace hb := hb.trans (Below.mono he3 hb.size)
        refine sqv hf (r_lensl rfl Try.underlying30) rfl rfl rfl ?_; clear hf fa; intro fa hf
        refine sqv hf (r_assign rfl) rfl rfl rfl ?_; clear hf fa; intro fa hf
        apply wpList_nil
        (try simp only [Exit.then, Exit.inBlock, ↓reduceIte, Nat.reduceEqDiff])
        refine hK15 _ _ ?_
        refine wp_seq_k (fun K16 hK16 => ?_)
        have hnl9 := numsL_len (l.take (k + 1))
        refine wp_region_lit ?_
        refine sqv hf (r_move rfl) rfl rfl rfl ?_; clear hf fa; intro fa hf
        refine sqdt hf (d_callB (v := (.float .f64 (if (numsL (l.take (k + 1))).length = 0 then 9221120237041090561 else (sortP (numsL (l.take (k + 1)))).getD 0 0))) (vs := [(.slice a ((k + 1)) c), (.bool false)]) rfl Try.func20 (by kernel_rfl) (by kernel_rfl) (by have h9 := endL_any _ c (l.take (k + 1)) _ (RdS.ext (RdS.take (k + 1) hl) hb) (by omega) (allW_take hW (k + 1)); rw [hLk] at h9; exact h9)) rfl rfl rfl ?_; clear hf fa; rintro fa _ w6 ⟨rfl, he4⟩ hf
        replace hk2 := blk_ext hk2 he4
        replace hr1 := Row.ext hr1 he4
        replace hb := hb.trans (Below.mono he4 hb.size)
        refine sqv hf (r_move rfl) rfl rfl rfl ?_; clear hf fa; intro fa hf
        refine sqdt hf (d_callB (v := (.float .f64 (if (numsL (l.take (k + 1))).length = 0 then 9221120237041090561 else (sortP (numsL (l.take (k + 1)))).getD ((sortP (numsL (l.take (k + 1)))).length - 1) 0))) (vs := [(.slice a ((k + 1)) c), (.bool true)]) rfl Try.func20 (by kernel_rfl) (by kernel_rfl) (by have h9 := endM_any _ c (l.take (k + 1)) _ (RdS.ext (RdS.take (k + 1) hl) hb) (by omega) (allW_take hW (k + 1)); rw [hLk] at h9; exact h9)) rfl rfl rfl ?_; clear hf fa; rintro fa _ w7 ⟨rfl, he5⟩ hf
        replace hk2 := blk_ext hk2 he5
        replace hr1 := Row.ext hr1 he5
        replace hb := hb.trans (Below.mono he5 hb.size)
        refine sqv hf (r_move rfl) rfl rfl rfl ?_; clear hf fa; intro fa hf
        refine sqdt hf (d_callX (vs := [(.slice a ((k + 1)) c)]) rfl Try.func21 (by kernel_rfl) (by kernel_rfl) (by have h9 := rsum_any _ c (l.take (k + 1)) _ (RdS.ext (RdS.take (k + 1) hl) hb) (by omega) (allW_take hW (k + 1)); rw [hLk] at h9; exact h9)) rfl rfl rfl ?_; clear hf fa; rintro fa _ w8 ⟨⟨fk1, rfl, hfk1⟩, he6⟩ hf
        replace hk2 := blk_ext hk2 he6
        replace hr1 := Row.ext hr1 he6
        replace hb := hb.trans (Below.mono he6 hb.size)
        refine sqv hf (r_assign rfl) rfl rfl rfl ?_; clear hf fa; intro fa hf
        refine sqv hf (r_assign rfl) rfl rfl rfl ?_; clear hf fa; intro fa hf
        refine sqv hf (r_assign rfl) rfl rfl rfl ?_; clear hf fa; intro fa hf
        apply wpList_nil
        (try simp only [Exit.then, Exit.inBlock, ↓reduceIte, Nat.reduceEqDiff])
        refine hK16 _ _ ?_
        refine wp_seq_k (fun K17 hK17 => ?_)
        have hGws := allW_sortP (allW_nums (allW_take hW (k + 1)))
        have hELw : (if (numsL (l.take (k + 1))).length = 0 then 9221120237041090561 else (sortP (numsL (l.take (k + 1)))).getD 0 0) < 18446744073709551616 := by split; decide; exact allW_getD hGws _
        have hEMw : (if (numsL (l.take (k + 1))).length = 0 then 9221120237041090561 else (sortP (numsL (l.take (k + 1)))).getD ((sortP (numsL (l.take (k + 1)))).length - 1) 0) < 18446744073709551616 := by split; decide; exact allW_getD hGws _
        have hNN : n21 - o21 = (numsL (l.take (k + 1))).length := by omega
        refine wp_region_lit ?_
        refine sqdt hf (d_callB (vs := [(.pointer (some ⟨b1, 0, none⟩))]) rfl Try.func22 (by kernel_rfl) (by kernel_rfl) (gcount_any b1 n21 o21 m21 M21 s21 _ hk2 (by have := hG2.oE; omega) (by have := hG2.nE; omega) hG2.mE hG2.ME hG2.sE)) rfl rfl rfl ?_; clear hf fa; rintro fa _ w9 ⟨rfl, he7⟩ hf
        replace hk2 := blk_ext hk2 he7
        replace hr1 := Row.ext hr1 he7
        replace hb := hb.trans (Below.mono he7 hb.size)
        refine sqv hf (r_move rfl) rfl rfl rfl ?_; clear hf fa; intro fa hf
        refine sqv hf (r_add (C := (((k : Nat) : Int) + (1 : Int))) rfl rfl (by rw [IntKind.wrap_i64]; omega)) rfl rfl rfl ?_; clear hf fa; intro fa hf
        refine sqv hf (Runs.veq (r_ne rfl rfl) (congrArg Value.bool (show _ = false from (by simp only [decide_eq_false_iff_not]; omega)))) rfl rfl rfl ?_; clear hf fa; intro fa hf
        refine sqv hf (r_move rfl) rfl rfl rfl ?_; clear hf fa; intro fa hf
        refine sqgd (act := true) (g := 4) (want := false) (ag := true) (c := false) hf (by rfl) (by rfl) rfl (fun _ =>  (d_callB (vs := [(.pointer (some ⟨b1, 0, none⟩))]) rfl Try.func23 (by kernel_rfl) (by kernel_rfl) (godd_any b1 n21 o21 m21 M21 s21 _ hk2 (by have := hG2.oE; omega) (by have := hG2.nE; omega) hG2.mE hG2.ME hG2.sE)) ) (fun h => by cases h) rfl ?_; clear hf fa; rintro fa _ w10 ⟨rfl, he8⟩ hf
        replace hk2 := blk_ext hk2 he8
        replace hr1 := Row.ext hr1 he8
        replace hb := hb.trans (Below.mono he8 hb.size)
        change Fr _ _ ((44, (.int .i64 ((o21 : Nat) : Int))) :: _) at hf
        refine sqgd (act := true) (g := 4) (want := false) (ag := true) (c := false) hf (by rfl) (by rfl) rfl (fun _ =>  Runs.does (R := fun vq wq => vq = (.int .i64 ((k : Nat) : Int)) ∧ w10 = wq) (r_move rfl) ⟨rfl, rfl⟩) (fun h => by cases h) rfl ?_; clear hf fa; rintro fa _ _ ⟨rfl, rfl⟩ hf
        change Fr _ _ ((45, (.int .i64 ((k : Nat) : Int))) :: _) at hf
        refine sqgd (act := true) (g := 4) (want := false) (ag := true) (c := false) hf (by rfl) (by rfl) rfl (fun _ =>  Runs.does (R := fun vq wq => vq = (.int .i64 (((k : Nat) : Int) + (1 : Int))) ∧ w10 = wq) (r_add (C := (((k : Nat) : Int) + (1 : Int))) rfl rfl (by rw [IntKind.wrap_i64]; omega)) ⟨rfl, rfl⟩) (fun h => by cases h) rfl ?_; clear hf fa; rintro fa _ _ ⟨rfl, rfl⟩ hf
        change Fr _ _ ((46, (.int .i64 (((k : Nat) : Int) + (1 : Int)))) :: _) at hf
        refine sqgd (act := true) (g := 4) (want := false) (ag := true) (c := false) hf (by rfl) (by rfl) rfl (fun _ =>  Runs.does (R := fun vq wq => vq = (.int .i64 ((((numsL (l.take (k + 1)))).length : Nat) : Int)) ∧ w10 = wq) (r_move rfl) ⟨rfl, rfl⟩) (fun h => by cases h) rfl ?_; clear hf fa; rintro fa _ _ ⟨rfl, rfl⟩ hf
        change Fr _ _ ((47, (.int .i64 ((((numsL (l.take (k + 1)))).length : Nat) : Int))) :: _) at hf
        refine sqgd (act := true) (g := 4) (want := false) (ag := true) (c := false) hf (by rfl) (by rfl) rfl (fun _ =>  Runs.does (R := fun vq wq => vq = (.int .i64 ((((k : Nat) : Int) + (1 : Int)) - ((((numsL (l.take (k + 1)))).length : Nat) : Int))) ∧ w10 = wq) (r_sub (C := ((((k : Nat) : Int) + (1 : Int)) - ((((numsL (l.take (k + 1)))).length : Nat) : Int))) rfl rfl (by rw [IntKind.wrap_i64]; omega)) ⟨rfl, rfl⟩) (fun h => by cases h) rfl ?_; clear hf fa; rintro fa _ _ ⟨rfl, rfl⟩ hf
        change Fr _ _ ((48, (.int .i64 ((((k : Nat) : Int) + (1 : Int)) - ((((numsL (l.take (k + 1)))).length : Nat) : Int)))) :: _) at hf
        refine sqgd (act := true) (g := 4) (want := false) (ag := true) (c := false) hf (by rfl) (by rfl) rfl (fun _ =>  Runs.does (R := fun vq wq => vq = (.bool false) ∧ w10 = wq) (Runs.veq (r_ne rfl rfl) (congrArg Value.bool (show _ = false from (by simp only [decide_eq_false_iff_not]; omega)))) ⟨rfl, rfl⟩) (fun h => by cases h) rfl ?_; clear hf fa; rintro fa _ _ ⟨rfl, rfl⟩ hf
        change Fr _ _ ((49, (.bool false)) :: _) at hf
        refine sqv hf (r_pick (b := false) rfl rfl rfl rfl) rfl rfl rfl ?_; clear hf fa; intro fa hf
        refine sqv hf (r_move rfl) rfl rfl rfl ?_; clear hf fa; intro fa hf
        refine sqgd (act := true) (g := 12) (want := false) (ag := true) (c := false) hf (by rfl) (by rfl) rfl (fun _ =>  (d_callB (vs := [(.pointer (some ⟨b1, 0, none⟩))]) rfl Try.func24 (by kernel_rfl) (by kernel_rfl) (gnum_any b1 n21 o21 m21 M21 s21 _ hk2 (by have := hG2.oE; omega) (by have := hG2.nE; omega) hG2.mE hG2.ME hG2.sE)) ) (fun h => by cases h) rfl ?_; clear hf fa; rintro fa _ w11 ⟨rfl, he9⟩ hf
        replace hk2 := blk_ext hk2 he9
        replace hr1 := Row.ext hr1 he9
        replace hb := hb.trans (Below.mono he9 hb.size)
        change Fr _ _ ((52, (.int .i64 (((n21 - o21) : Nat) : Int))) :: _) at hf
        refine sqgd (act := true) (g := 12) (want := false) (ag := true) (c := false) hf (by rfl) (by rfl) rfl (fun _ =>  Runs.does (R := fun vq wq => vq = (.int .i64 ((((numsL (l.take (k + 1)))).length : Nat) : Int)) ∧ w11 = wq) (r_move rfl) ⟨rfl, rfl⟩) (fun h => by cases h) rfl ?_; clear hf fa; rintro fa _ _ ⟨rfl, rfl⟩ hf
        change Fr _ _ ((53, (.int .i64 ((((numsL (l.take (k + 1)))).length : Nat) : Int))) :: _) at hf
        refine sqgd (act := true) (g := 12) (want := false) (ag := true) (c := false) hf (by rfl) (by rfl) rfl (fun _ =>  Runs.does (R := fun vq wq => vq = (.bool false) ∧ w11 = wq) (Runs.veq (r_ne rfl rfl) (congrArg Value.bool (show _ = false from (by simp only [decide_eq_false_iff_not]; omega)))) ⟨rfl, rfl⟩) (fun h => by cases h) rfl ?_; clear hf fa; rintro fa _ _ ⟨rfl, rfl⟩ hf
        change Fr _ _ ((54, (.bool false)) :: _) at hf
        refine sqv hf (r_pick (b := false) rfl rfl rfl rfl) rfl rfl rfl ?_; clear hf fa; intro fa hf
        refine sqv hf (r_move rfl) rfl rfl rfl ?_; clear hf fa; intro fa hf
        refine sqgd (act := true) (g := 17) (want := false) (ag := true) (c := false) hf (by rfl) (by rfl) rfl (fun _ =>  (d_callX (vs := [(.pointer (some ⟨b1, 0, none⟩))]) rfl Try.func25 (by kernel_rfl) (by kernel_rfl) (gleast_any b1 n21 o21 m21 M21 s21 _ hk2 (by have := hG2.oE; omega) (by have := hG2.nE; omega) hG2.mE hG2.ME hG2.sE)) ) (fun h => by cases h) rfl ?_; clear hf fa; rintro fa _ w12 ⟨⟨fk2, rfl, hfk2⟩, he10⟩ hf
        replace hk2 := blk_ext hk2 he10
        replace hr1 := Row.ext hr1 he10
        replace hb := hb.trans (Below.mono he10 hb.size)
        change Fr _ _ ((57, (.float .f64 fk2)) :: _) at hf
        refine sqgd (act := true) (g := 17) (want := false) (ag := true) (c := false) hf (by rfl) (by rfl) rfl (fun _ =>  Runs.does (R := fun vq wq => vq = (.float .f64 (if (numsL (l.take (k + 1))).length = 0 then 9221120237041090561 else (sortP (numsL (l.take (k + 1)))).getD 0 0)) ∧ w12 = wq) (r_move rfl) ⟨rfl, rfl⟩) (fun h => by cases h) rfl ?_; clear hf fa; rintro fa _ _ ⟨rfl, rfl⟩ hf
        change Fr _ _ ((58, (.float .f64 (if (numsL (l.take (k + 1))).length = 0 then 9221120237041090561 else (sortP (numsL (l.take (k + 1)))).getD 0 0))) :: _) at hf
        refine sqgd (act := true) (g := 17) (want := false) (ag := true) (c := false) hf (by rfl) (by rfl) rfl (fun _ =>  (d_callB (vs := [(.float .f64 fk2), (.float .f64 (if (numsL (l.take (k + 1))).length = 0 then 9221120237041090561 else (sortP (numsL (l.take (k + 1)))).getD 0 0))]) rfl Try.func11 (by kernel_rfl) (by kernel_rfl) (Calls.mono (rsame_any fk2 (if (numsL (l.take (k + 1))).length = 0 then 9221120237041090561 else (sortP (numsL (l.take (k + 1)))).getD 0 0) hfk2.1 hELw _) (fun e w2 h => ⟨by rw [h.1, (show sameB fk2 (if (numsL (l.take (k + 1))).length = 0 then 9221120237041090561 else (sortP (numsL (l.take (k + 1)))).getD 0 0) = true from tell_least hG2 hfk2)], h.2⟩))) ) (fun h => by cases h) rfl ?_; clear hf fa; rintro fa _ w13 ⟨rfl, he11⟩ hf
        replace hk2 := blk_ext hk2 he11
        replace hr1 := Row.ext hr1 he11
        replace hb := hb.trans (Below.mono he11 hb.size)
        change Fr _ _ ((59, (.bool true)) :: _) at hf
        refine sqgd (act := true) (g := 17) (want := false) (ag := true) (c := false) hf (by rfl) (by rfl) rfl (fun _ =>  Runs.does (R := fun vq wq => vq = (.bool false) ∧ w13 = wq) (Runs.veq (v' := (.bool false)) (r_not rfl) rfl) ⟨rfl, rfl⟩) (fun h => by cases h) rfl ?_; clear hf fa; rintro fa _ _ ⟨rfl, rfl⟩ hf
        change Fr _ _ ((60, (.bool false)) :: _) at hf
        refine sqv hf (r_pick (b := false) rfl rfl rfl rfl) rfl rfl rfl ?_; clear hf fa; intro fa hf
        refine sqv hf (r_move rfl) rfl rfl rfl ?_; clear hf fa; intro fa hf
        refine sqgd (act := true) (g := 23) (want := false) (ag := true) (c := false) hf (by rfl) (by rfl) rfl (fun _ =>  (d_callX (vs := [(.pointer (some ⟨b1, 0, none⟩))]) rfl Try.func26 (by kernel_rfl) (by kernel_rfl) (gmost_any b1 n21 o21 m21 M21 s21 _ hk2 (by have := hG2.oE; omega) (by have := hG2.nE; omega) hG2.mE hG2.ME hG2.sE)) ) (fun h => by cases h) rfl ?_; clear hf fa; rintro fa _ w14 ⟨⟨fk3, rfl, hfk3⟩, he12⟩ hf
        replace hk2 := blk_ext hk2 he12
        replace hr1 := Row.ext hr1 he12
        replace hb := hb.trans (Below.mono he12 hb.size)
        change Fr _ _ ((63, (.float .f64 fk3)) :: _) at hf
        refine sqgd (act := true) (g := 23) (want := false) (ag := true) (c := false) hf (by rfl) (by rfl) rfl (fun _ =>  Runs.does (R := fun vq wq => vq = (.float .f64 (if (numsL (l.take (k + 1))).length = 0 then 9221120237041090561 else (sortP (numsL (l.take (k + 1)))).getD ((sortP (numsL (l.take (k + 1)))).length - 1) 0)) ∧ w14 = wq) (r_move rfl) ⟨rfl, rfl⟩) (fun h => by cases h) rfl ?_; clear hf fa; rintro fa _ _ ⟨rfl, rfl⟩ hf
        change Fr _ _ ((64, (.float .f64 (if (numsL (l.take (k + 1))).length = 0 then 9221120237041090561 else (sortP (numsL (l.take (k + 1)))).getD ((sortP (numsL (l.take (k + 1)))).length - 1) 0))) :: _) at hf
        refine sqgd (act := true) (g := 23) (want := false) (ag := true) (c := false) hf (by rfl) (by rfl) rfl (fun _ =>  (d_callB (vs := [(.float .f64 fk3), (.float .f64 (if (numsL (l.take (k + 1))).length = 0 then 9221120237041090561 else (sortP (numsL (l.take (k + 1)))).getD ((sortP (numsL (l.take (k + 1)))).length - 1) 0))]) rfl Try.func11 (by kernel_rfl) (by kernel_rfl) (Calls.mono (rsame_any fk3 (if (numsL (l.take (k + 1))).length = 0 then 9221120237041090561 else (sortP (numsL (l.take (k + 1)))).getD ((sortP (numsL (l.take (k + 1)))).length - 1) 0) hfk3.1 hEMw _) (fun e w2 h => ⟨by rw [h.1, (show sameB fk3 (if (numsL (l.take (k + 1))).length = 0 then 9221120237041090561 else (sortP (numsL (l.take (k + 1)))).getD ((sortP (numsL (l.take (k + 1)))).length - 1) 0) = true from tell_most hG2 hfk3)], h.2⟩))) ) (fun h => by cases h) rfl ?_; clear hf fa; rintro fa _ w15 ⟨rfl, he13⟩ hf
        replace hk2 := blk_ext hk2 he13
        replace hr1 := Row.ext hr1 he13
        replace hb := hb.trans (Below.mono he13 hb.size)
        change Fr _ _ ((65, (.bool true)) :: _) at hf
        refine sqgd (act := true) (g := 23) (want := false) (ag := true) (c := false) hf (by rfl) (by rfl) rfl (fun _ =>  Runs.does (R := fun vq wq => vq = (.bool false) ∧ w15 = wq) (Runs.veq (v' := (.bool false)) (r_not rfl) rfl) ⟨rfl, rfl⟩) (fun h => by cases h) rfl ?_; clear hf fa; rintro fa _ _ ⟨rfl, rfl⟩ hf
        change Fr _ _ ((66, (.bool false)) :: _) at hf
        refine sqv hf (r_pick (b := false) rfl rfl rfl rfl) rfl rfl rfl ?_; clear hf fa; intro fa hf
        refine sqv hf (r_move rfl) rfl rfl rfl ?_; clear hf fa; intro fa hf
        refine sqgd (act := true) (g := 29) (want := false) (ag := true) (c := false) hf (by rfl) (by rfl) rfl (fun _ =>  (d_callB (vs := [(.pointer (some ⟨b1, 0, none⟩))]) rfl Try.func27 (by kernel_rfl) (by kernel_rfl) (gsum_any b1 n21 o21 m21 M21 s21 _ hk2 (by have := hG2.oE; omega) (by have := hG2.nE; omega) hG2.mE hG2.ME hG2.sE)) ) (fun h => by cases h) rfl ?_; clear hf fa; rintro fa _ w16 ⟨rfl, he14⟩ hf
        replace hk2 := blk_ext hk2 he14
        replace hr1 := Row.ext hr1 he14
        replace hb := hb.trans (Below.mono he14 hb.size)
        change Fr _ _ ((69, (.float .f64 s21)) :: _) at hf
        refine sqgd (act := true) (g := 29) (want := false) (ag := true) (c := false) hf (by rfl) (by rfl) rfl (fun _ =>  Runs.does (R := fun vq wq => vq = (.float .f64 fk1) ∧ w16 = wq) (r_move rfl) ⟨rfl, rfl⟩) (fun h => by cases h) rfl ?_; clear hf fa; rintro fa _ _ ⟨rfl, rfl⟩ hf
        change Fr _ _ ((70, (.float .f64 fk1)) :: _) at hf
        refine sqgd (act := true) (g := 29) (want := false) (ag := true) (c := false) hf (by rfl) (by rfl) rfl (fun _ =>  (d_callB (vs := [(.float .f64 s21), (.float .f64 fk1)]) rfl Try.func11 (by kernel_rfl) (by kernel_rfl) (Calls.mono (rsame_any s21 fk1 hG2.sE (sumR_lt hfk1) _) (fun e w2 h => ⟨by rw [h.1, (show sameB s21 fk1 = true from tell_sum hG2 hfk1)], h.2⟩))) ) (fun h => by cases h) rfl ?_; clear hf fa; rintro fa _ w17 ⟨rfl, he15⟩ hf
        replace hk2 := blk_ext hk2 he15
        replace hr1 := Row.ext hr1 he15
        replace hb := hb.trans (Below.mono he15 hb.size)
        change Fr _ _ ((71, (.bool true)) :: _) at hf
        refine sqgd (act := true) (g := 29) (want := false) (ag := true) (c := false) hf (by rfl) (by rfl) rfl (fun _ =>  Runs.does (R := fun vq wq => vq = (.bool false) ∧ w17 = wq) (Runs.veq (v' := (.bool false)) (r_not rfl) rfl) ⟨rfl, rfl⟩) (fun h => by cases h) rfl ?_; clear hf fa; rintro fa _ _ ⟨rfl, rfl⟩ hf
        change Fr _ _ ((72, (.bool false)) :: _) at hf
        refine sqv hf (r_pick (b := false) rfl rfl rfl rfl) rfl rfl rfl ?_; clear hf fa; intro fa hf
        refine sqv hf (r_move rfl) rfl rfl rfl ?_; clear hf fa; intro fa hf
        refine sqgd (act := true) (g := 35) (want := false) (ag := true) (c := false) hf (by rfl) (by rfl) rfl (fun _ =>  (d_callX (vs := [(.pointer (some ⟨b1, 0, none⟩))]) rfl Try.func28 (by kernel_rfl) (by kernel_rfl) (gmean_any b1 n21 o21 m21 M21 s21 _ hk2 (by have := hG2.oE; omega) (by have := hG2.nE; omega) hG2.mE hG2.ME hG2.sE)) ) (fun h => by cases h) rfl ?_; clear hf fa; rintro fa _ w18 ⟨⟨fk4, rfl, hfk4⟩, he16⟩ hf
        replace hk2 := blk_ext hk2 he16
        replace hr1 := Row.ext hr1 he16
        replace hb := hb.trans (Below.mono he16 hb.size)
        change Fr _ _ ((75, (.float .f64 fk4)) :: _) at hf
        refine sqgd (act := true) (g := 35) (want := false) (ag := true) (c := false) hf (by rfl) (by rfl) rfl (fun _ =>  Runs.does (R := fun vq wq => vq = (.float .f64 fk1) ∧ w18 = wq) (r_move rfl) ⟨rfl, rfl⟩) (fun h => by cases h) rfl ?_; clear hf fa; rintro fa _ _ ⟨rfl, rfl⟩ hf
        change Fr _ _ ((76, (.float .f64 fk1)) :: _) at hf
        refine sqgd (act := true) (g := 35) (want := false) (ag := true) (c := false) hf (by rfl) (by rfl) rfl (fun _ =>  Runs.does (R := fun vq wq => vq = (.int .i64 ((((numsL (l.take (k + 1)))).length : Nat) : Int)) ∧ w18 = wq) (r_move rfl) ⟨rfl, rfl⟩) (fun h => by cases h) rfl ?_; clear hf fa; rintro fa _ _ ⟨rfl, rfl⟩ hf
        change Fr _ _ ((77, (.int .i64 ((((numsL (l.take (k + 1)))).length : Nat) : Int))) :: _) at hf
        refine sqgd (act := true) (g := 35) (want := false) (ag := true) (c := false) hf (by rfl) (by rfl) rfl (fun _ =>  Runs.does (R := fun vq wq => vq = (.float .f64 (floatOfInt .f64 ((((numsL (l.take (k + 1)))).length : Nat) : Int))) ∧ w18 = wq) (r_fofint rfl Try.underlying3 Try.underlying22) ⟨rfl, rfl⟩) (fun h => by cases h) rfl ?_; clear hf fa; rintro fa _ _ ⟨rfl, rfl⟩ hf
        change Fr _ _ ((78, (.float .f64 (floatOfInt .f64 ((((numsL (l.take (k + 1)))).length : Nat) : Int)))) :: _) at hf
        refine sqgd (act := true) (g := 35) (want := false) (ag := true) (c := false) hf (by rfl) (by rfl) rfl (fun _ =>  (d_farith (op := .quo) (a := fk1) (b := (floatOfInt .f64 ((((numsL (l.take (k + 1)))).length : Nat) : Int))) rfl rfl (by simp)) ) (fun h => by cases h) rfl ?_; clear hf fa; rintro fa _ w19 ⟨⟨fr1, rfl, hfr1⟩, he17⟩ hf
        replace hk2 := blk_ext hk2 he17
        replace hr1 := Row.ext hr1 he17
        replace hb := hb.trans (Below.mono he17 hb.size)
        change Fr _ _ ((79, (.float .f64 fr1)) :: _) at hf
        refine sqgd (act := true) (g := 35) (want := false) (ag := true) (c := false) hf (by rfl) (by rfl) rfl (fun _ =>  (d_callB (vs := [(.float .f64 fk4), (.float .f64 fr1)]) rfl Try.func11 (by kernel_rfl) (by kernel_rfl) (Calls.mono (rsame_any fk4 fr1 hfk4.1 hfr1.1 _) (fun e w2 h => ⟨by rw [h.1, (show sameB fk4 fr1 = true from tell_mean (c := floatOfInt .f64 ((((numsL (l.take (k + 1))).length) : Nat) : Int)) (r1 := fk4) (r2 := fr1) hG2 hfk1 (by rw [← hNN]; exact hfk4) hfr1)], h.2⟩))) ) (fun h => by cases h) rfl ?_; clear hf fa; rintro fa _ w20 ⟨rfl, he18⟩ hf
        replace hk2 := blk_ext hk2 he18
        replace hr1 := Row.ext hr1 he18
        replace hb := hb.trans (Below.mono he18 hb.size)
        change Fr _ _ ((80, (.bool true)) :: _) at hf
        refine sqgd (act := true) (g := 35) (want := false) (ag := true) (c := false) hf (by rfl) (by rfl) rfl (fun _ =>  Runs.does (R := fun vq wq => vq = (.bool false) ∧ w20 = wq) (Runs.veq (v' := (.bool false)) (r_not rfl) rfl) ⟨rfl, rfl⟩) (fun h => by cases h) rfl ?_; clear hf fa; rintro fa _ _ ⟨rfl, rfl⟩ hf
        change Fr _ _ ((81, (.bool false)) :: _) at hf
        refine sqv hf (r_pick (b := false) rfl rfl rfl rfl) rfl rfl rfl ?_; clear hf fa; intro fa hf
        refine sqv hf (r_move rfl) rfl rfl rfl ?_; clear hf fa; intro fa hf
        refine sqgd (act := true) (g := 44) (want := false) (ag := true) (c := false) hf (by rfl) (by rfl) rfl (fun _ =>  (d_callX (vs := [(.pointer (some ⟨b1, 0, none⟩))]) rfl Try.func29 (by kernel_rfl) (by kernel_rfl) (gspread_any b1 n21 o21 m21 M21 s21 _ hk2 (by have := hG2.oE; omega) (by have := hG2.nE; omega) hG2.mE hG2.ME hG2.sE)) ) (fun h => by cases h) rfl ?_; clear hf fa; rintro fa _ w21 ⟨⟨fk5, rfl, hfk5⟩, he19⟩ hf
        replace hk2 := blk_ext hk2 he19
        replace hr1 := Row.ext hr1 he19
        replace hb := hb.trans (Below.mono he19 hb.size)
        change Fr _ _ ((84, (.float .f64 fk5)) :: _) at hf
        refine sqgd (act := true) (g := 44) (want := false) (ag := true) (c := false) hf (by rfl) (by rfl) rfl (fun _ =>  Runs.does (R := fun vq wq => vq = (.float .f64 (if (numsL (l.take (k + 1))).length = 0 then 9221120237041090561 else (sortP (numsL (l.take (k + 1)))).getD ((sortP (numsL (l.take (k + 1)))).length - 1) 0)) ∧ w21 = wq) (r_move rfl) ⟨rfl, rfl⟩) (fun h => by cases h) rfl ?_; clear hf fa; rintro fa _ _ ⟨rfl, rfl⟩ hf
        change Fr _ _ ((85, (.float .f64 (if (numsL (l.take (k + 1))).length = 0 then 9221120237041090561 else (sortP (numsL (l.take (k + 1)))).getD ((sortP (numsL (l.take (k + 1)))).length - 1) 0))) :: _) at hf
        refine sqgd (act := true) (g := 44) (want := false) (ag := true) (c := false) hf (by rfl) (by rfl) rfl (fun _ =>  Runs.does (R := fun vq wq => vq = (.float .f64 (if (numsL (l.take (k + 1))).length = 0 then 9221120237041090561 else (sortP (numsL (l.take (k + 1)))).getD 0 0)) ∧ w21 = wq) (r_move rfl) ⟨rfl, rfl⟩) (fun h => by cases h) rfl ?_; clear hf fa; rintro fa _ _ ⟨rfl, rfl⟩ hf
        change Fr _ _ ((86, (.float .f64 (if (numsL (l.take (k + 1))).length = 0 then 9221120237041090561 else (sortP (numsL (l.take (k + 1)))).getD 0 0))) :: _) at hf
        refine sqgd (act := true) (g := 44) (want := false) (ag := true) (c := false) hf (by rfl) (by rfl) rfl (fun _ =>  (d_farith (op := .sub) (a := (if (numsL (l.take (k + 1))).length = 0 then 9221120237041090561 else (sortP (numsL (l.take (k + 1)))).getD ((sortP (numsL (l.take (k + 1)))).length - 1) 0)) (b := (if (numsL (l.take (k + 1))).length = 0 then 9221120237041090561 else (sortP (numsL (l.take (k + 1)))).getD 0 0)) rfl rfl (by simp)) ) (fun h => by cases h) rfl ?_; clear hf fa; rintro fa _ w22 ⟨⟨fr2, rfl, hfr2⟩, he20⟩ hf
        replace hk2 := blk_ext hk2 he20
        replace hr1 := Row.ext hr1 he20
        replace hb := hb.trans (Below.mono he20 hb.size)
        change Fr _ _ ((87, (.float .f64 fr2)) :: _) at hf
        refine sqgd (act := true) (g := 44) (want := false) (ag := true) (c := false) hf (by rfl) (by rfl) rfl (fun _ =>  (d_callB (vs := [(.float .f64 fk5), (.float .f64 fr2)]) rfl Try.func11 (by kernel_rfl) (by kernel_rfl) (Calls.mono (rsame_any fk5 fr2 (by obtain ⟨fa, fb, q1, q2, q3⟩ := hfk5; exact q3.1) hfr2.1 _) (fun e w2 h => ⟨by rw [h.1, (show sameB fk5 fr2 = true from (by obtain ⟨fa, fb, q1, q2, q3⟩ := hfk5; exact tell_spread hG2 q1 q2 q3 hfr2))], h.2⟩))) ) (fun h => by cases h) rfl ?_; clear hf fa; rintro fa _ w23 ⟨rfl, he21⟩ hf
        replace hk2 := blk_ext hk2 he21
        replace hr1 := Row.ext hr1 he21
        replace hb := hb.trans (Below.mono he21 hb.size)
        change Fr _ _ ((88, (.bool true)) :: _) at hf
        refine sqgd (act := true) (g := 44) (want := false) (ag := true) (c := false) hf (by rfl) (by rfl) rfl (fun _ =>  Runs.does (R := fun vq wq => vq = (.bool false) ∧ w23 = wq) (Runs.veq (v' := (.bool false)) (r_not rfl) rfl) ⟨rfl, rfl⟩) (fun h => by cases h) rfl ?_; clear hf fa; rintro fa _ _ ⟨rfl, rfl⟩ hf
        change Fr _ _ ((89, (.bool false)) :: _) at hf
        refine sqv hf (r_pick (b := false) rfl rfl rfl rfl) rfl rfl rfl ?_; clear hf fa; intro fa hf
        apply wpList_nil
        (try simp only [Exit.then, Exit.inBlock, ↓reduceIte, Nat.reduceEqDiff])
        refine hK17 _ _ ?_
        refine wp_cond_false (hf.ev rfl) ?_
        refine wp_skip ?_
        (try simp only [Exit.then, Exit.inBlock, ↓reduceIte, Nat.reduceEqDiff])
        refine hK12 _ _ ?_
        refine wp_region_lit ?_
        refine sqv hf (r_move rfl) rfl rfl rfl ?_; clear hf fa; intro fa hf
        refine sqv hf (r_add (C := (((k : Nat) : Int) + (1 : Int))) rfl rfl (by rw [IntKind.wrap_i64]; omega)) rfl rfl rfl ?_; clear hf fa; intro fa hf
        refine sqv hf (r_assign rfl) rfl rfl rfl ?_; clear hf fa; intro fa hf
        apply wpList_nil
        (try simp only [Exit.then, Exit.inBlock, ↓reduceIte, Nat.reduceEqDiff])
        refine hKL1 _ _ _ (by omega) ⟨(k + 1), n21, o21, m21, M21, s21, rfl, hf.sub ⟨rfl, rfl, (some_int (by first | rfl | omega)), trivial⟩, hb, hk2, (by omega), hG2⟩
      · have hqt18_1b := hqt18_1
        replace hqt18_1 := Bool.eq_false_iff.1 hqt18_1
        try simp only [ne_eq, decide_eq_true_eq, Bool.and_eq_true, Bool.or_eq_true, Bool.not_eq_true', decide_eq_false_iff_not] at hqt18_1
        refine wp_exit ?_
        (try simp only [Exit.then, Exit.inBlock, ↓reduceIte, Nat.reduceEqDiff])
        refine hK8 _ _ ?_
        refine wp_seq_k (fun K18 hK18 => ?_)
        have hG0 : l.length = 0 → n = o ∧ n - o = 0 ∧ s = 0 := fun h0 => gs_zero hG (by rw [List.length_take]; omega)
        have hGn9 := hG.nE
        have hGl9 := hG.oE
        have hGq9 : (l.take k).length = k := by rw [List.length_take]; omega
        by_cases hsp1 : 0 < l.length
        · have hsp1b : decide (0 < l.length) = true := decide_eq_true hsp1
          have hG0 : l.length = 0 → n = o ∧ n - o = 0 ∧ s = 0 := fun h0 => gs_zero hG (by rw [List.length_take]; omega)
          have hGn9 := hG.nE
          have hGl9 := hG.oE
          have hGq9 : (l.take k).length = k := by rw [List.length_take]; omega
          refine wp_region_lit ?_
          refine sqv hf (r_move rfl) rfl rfl rfl ?_; clear hf fa; intro fa hf
          refine sqv hf (r_lensl rfl Try.underlying30) rfl rfl rfl ?_; clear hf fa; intro fa hf
          refine sqv hf (Runs.veq (r_gt rfl rfl) (congrArg Value.bool (show _ = true from (decide_eq_true (by omega))))) rfl rfl rfl ?_; clear hf fa; intro fa hf
          refine sqv hf (r_move rfl) rfl rfl rfl ?_; clear hf fa; intro fa hf
          refine sqgF (act := false) (ag := true) (c := true) (v := .bool false) hf rfl rfl rfl (fun hact => by cases hact) rfl rfl ?_; clear hf fa; intro fa hf
          refine sqgF (act := false) (ag := true) (c := true) (v := .bool false) hf rfl rfl rfl (fun hact => by cases hact) rfl rfl ?_; clear hf fa; intro fa hf
          refine sqgF (act := false) (ag := true) (c := true) (v := .bool false) hf rfl rfl rfl (fun hact => by cases hact) rfl rfl ?_; clear hf fa; intro fa hf
          refine sqgT (act := false) (ag := false) (c := false) (v := .bool false) hf rfl rfl rfl (fun hact => by cases hact) rfl rfl ?_; clear hf fa; intro fa hf
          refine sqgT (act := false) (ag := false) (c := false) (v := .bool false) hf rfl rfl rfl (fun hact => by cases hact) rfl rfl ?_; clear hf fa; intro fa hf
          refine sqgT (act := false) (ag := false) (c := false) (v := .bool false) hf rfl rfl rfl (fun hact => by cases hact) rfl rfl ?_; clear hf fa; intro fa hf
          refine sqgF (act := false) (ag := true) (c := true) (v := .bool false) hf rfl rfl rfl (fun hact => by cases hact) rfl rfl ?_; clear hf fa; intro fa hf
          refine sqgF (act := false) (ag := true) (c := true) (v := .bool false) hf rfl rfl rfl (fun hact => by cases hact) rfl rfl ?_; clear hf fa; intro fa hf
          refine sqgT (act := false) (ag := false) (c := false) (v := .bool false) hf rfl rfl rfl (fun hact => by cases hact) rfl rfl ?_; clear hf fa; intro fa hf
          refine sqgT (act := false) (ag := false) (c := false) (v := .bool false) hf rfl rfl rfl (fun hact => by cases hact) rfl rfl ?_; clear hf fa; intro fa hf
          refine sqgT (act := false) (ag := false) (c := false) (v := .bool false) hf rfl rfl rfl (fun hact => by cases hact) rfl rfl ?_; clear hf fa; intro fa hf
          refine sqgF (act := false) (ag := true) (c := true) (v := .bool false) hf rfl rfl rfl (fun hact => by cases hact) rfl rfl ?_; clear hf fa; intro fa hf
          refine sqgF (act := false) (ag := true) (c := true) (v := .bool false) hf rfl rfl rfl (fun hact => by cases hact) rfl rfl ?_; clear hf fa; intro fa hf
          refine sqgT (act := false) (ag := false) (c := false) (v := .bool false) hf rfl rfl rfl (fun hact => by cases hact) rfl rfl ?_; clear hf fa; intro fa hf
          refine sqgT (act := false) (ag := false) (c := false) (v := .bool false) hf rfl rfl rfl (fun hact => by cases hact) rfl rfl ?_; clear hf fa; intro fa hf
          refine sqgF (act := false) (ag := true) (c := true) (v := .bool false) hf rfl rfl rfl (fun hact => by cases hact) rfl rfl ?_; clear hf fa; intro fa hf
          refine sqv hf (r_pick (b := true) rfl rfl rfl rfl) rfl rfl rfl ?_; clear hf fa; intro fa hf
          refine sqv hf (r_assign rfl) rfl rfl rfl ?_; clear hf fa; intro fa hf
          apply wpList_nil
          (try simp only [Exit.then, Exit.inBlock, ↓reduceIte, Nat.reduceEqDiff])
          refine hK18 _ _ ?_
          refine wp_ret ?_
          (try simp only [Exit.then, Exit.inBlock])
          refine ret1 hf rfl rfl ?_
          exact ⟨rfl, hb⟩
        · have hsp1b : decide (0 < l.length) = false := decide_eq_false hsp1
          have hG0 : l.length = 0 → n = o ∧ n - o = 0 ∧ s = 0 := fun h0 => gs_zero hG (by rw [List.length_take]; omega)
          have hGn9 := hG.nE
          have hGl9 := hG.oE
          have hGq9 : (l.take k).length = k := by rw [List.length_take]; omega
          refine wp_region_lit ?_
          refine sqv hf (r_move rfl) rfl rfl rfl ?_; clear hf fa; intro fa hf
          refine sqv hf (r_lensl rfl Try.underlying30) rfl rfl rfl ?_; clear hf fa; intro fa hf
          refine sqv hf (Runs.veq (r_gt rfl rfl) (congrArg Value.bool (show _ = false from (decide_eq_false (by omega))))) rfl rfl rfl ?_; clear hf fa; intro fa hf
          refine sqv hf (r_move rfl) rfl rfl rfl ?_; clear hf fa; intro fa hf
          refine sqgd (act := true) (g := 3) (want := false) (ag := true) (c := false) hf (by rfl) (by rfl) rfl (fun _ =>  (d_callB (vs := [(.pointer (some ⟨b1, 0, none⟩))]) rfl Try.func22 (by kernel_rfl) (by kernel_rfl) (gcount_any b1 n o m M s _ hkb1 (by have := hG.oE; omega) (by have := hG.nE; omega) hG.mE hG.ME hG.sE)) ) (fun h => by cases h) rfl ?_; clear hf fa; rintro fa _ w24 ⟨rfl, he22⟩ hf
          replace hkb1 := blk_ext hkb1 he22
          replace hb := hb.trans (Below.mono he22 hb.size)
          change Fr _ _ ((95, (.int .i64 ((n : Nat) : Int))) :: _) at hf
          refine sqgd (act := true) (g := 3) (want := false) (ag := true) (c := false) hf (by rfl) (by rfl) rfl (fun _ =>  Runs.does (R := fun vq wq => vq = (.bool true) ∧ w24 = wq) (Runs.veq (r_eq rfl rfl) (congrArg Value.bool (show _ = true from (decide_eq_true (by omega))))) ⟨rfl, rfl⟩) (fun h => by cases h) rfl ?_; clear hf fa; rintro fa _ _ ⟨rfl, rfl⟩ hf
          change Fr _ _ ((96, (.bool true)) :: _) at hf
          refine sqgd (act := true) (g := 3) (want := false) (ag := true) (c := false) hf (by rfl) (by rfl) rfl (fun _ =>  Runs.does (R := fun vq wq => vq = (.bool true) ∧ w24 = wq) (r_move rfl) ⟨rfl, rfl⟩) (fun h => by cases h) rfl ?_; clear hf fa; rintro fa _ _ ⟨rfl, rfl⟩ hf
          change Fr _ _ ((97, (.bool true)) :: _) at hf
          refine sqgd (act := true) (g := 6) (want := true) (ag := true) (c := true) hf (by rfl) (by rfl) rfl (fun _ =>  (d_callX (vs := [(.pointer (some ⟨b1, 0, none⟩))]) rfl Try.func25 (by kernel_rfl) (by kernel_rfl) (gleast_any b1 n o m M s _ hkb1 (by have := hG.oE; omega) (by have := hG.nE; omega) hG.mE hG.ME hG.sE)) ) (fun h => by cases h) rfl ?_; clear hf fa; rintro fa _ w25 ⟨⟨fk6, rfl, hfk6⟩, he23⟩ hf
          replace hkb1 := blk_ext hkb1 he23
          replace hb := hb.trans (Below.mono he23 hb.size)
          change Fr _ _ ((98, (.float .f64 fk6)) :: _) at hf
          refine sqgd (act := true) (g := 6) (want := true) (ag := true) (c := true) hf (by rfl) (by rfl) rfl (fun _ =>  (d_callB (vs := [(.float .f64 fk6)]) rfl Try.func8 (by kernel_rfl) (by kernel_rfl) (Calls.mono (rkind_any fk6 hfk6.1 _) (fun e w2 h => ⟨by rw [h.1, nan_kind.2 (tell_none hfk6 (hG0 (by omega)).1)], h.2⟩))) ) (fun h => by cases h) rfl ?_; clear hf fa; rintro fa _ w26 ⟨rfl, he24⟩ hf
          replace hkb1 := blk_ext hkb1 he24
          replace hb := hb.trans (Below.mono he24 hb.size)
          change Fr _ _ ((99, (.int .i64 (0 : Int))) :: _) at hf
          refine sqgd (act := true) (g := 6) (want := true) (ag := true) (c := true) hf (by rfl) (by rfl) rfl (fun _ =>  Runs.does (R := fun vq wq => vq = (.bool true) ∧ w26 = wq) (Runs.veq (r_eq rfl rfl) (congrArg Value.bool (show _ = true from (decide_eq_true rfl)))) ⟨rfl, rfl⟩) (fun h => by cases h) rfl ?_; clear hf fa; rintro fa _ _ ⟨rfl, rfl⟩ hf
          change Fr _ _ ((100, (.bool true)) :: _) at hf
          refine sqgd (act := true) (g := 3) (want := false) (ag := true) (c := false) hf (by rfl) (by rfl) rfl (fun _ =>  Runs.does (R := fun vq wq => vq = (.bool true) ∧ w26 = wq) (r_pick (b := true) rfl rfl rfl rfl) ⟨rfl, rfl⟩) (fun h => by cases h) rfl ?_; clear hf fa; rintro fa _ _ ⟨rfl, rfl⟩ hf
          change Fr _ _ ((101, (.bool true)) :: _) at hf
          refine sqgd (act := true) (g := 3) (want := false) (ag := true) (c := false) hf (by rfl) (by rfl) rfl (fun _ =>  Runs.does (R := fun vq wq => vq = (.bool true) ∧ w26 = wq) (r_move rfl) ⟨rfl, rfl⟩) (fun h => by cases h) rfl ?_; clear hf fa; rintro fa _ _ ⟨rfl, rfl⟩ hf
          change Fr _ _ ((102, (.bool true)) :: _) at hf
          refine sqgd (act := true) (g := 11) (want := true) (ag := true) (c := true) hf (by rfl) (by rfl) rfl (fun _ =>  (d_callX (vs := [(.pointer (some ⟨b1, 0, none⟩))]) rfl Try.func28 (by kernel_rfl) (by kernel_rfl) (gmean_any b1 n o m M s _ hkb1 (by have := hG.oE; omega) (by have := hG.nE; omega) hG.mE hG.ME hG.sE)) ) (fun h => by cases h) rfl ?_; clear hf fa; rintro fa _ w27 ⟨⟨fk7, rfl, hfk7⟩, he25⟩ hf
          replace hkb1 := blk_ext hkb1 he25
          replace hb := hb.trans (Below.mono he25 hb.size)
          change Fr _ _ ((103, (.float .f64 fk7)) :: _) at hf
          refine sqgd (act := true) (g := 11) (want := true) (ag := true) (c := true) hf (by rfl) (by rfl) rfl (fun _ =>  (d_callB (vs := [(.float .f64 fk7)]) rfl Try.func8 (by kernel_rfl) (by kernel_rfl) (Calls.mono (rkind_any fk7 hfk7.1 _) (fun e w2 h => ⟨by rw [h.1, nan_kind.2 (tell_none2 hfk7 (hG0 (by omega)).2.1 (hG0 (by omega)).2.2)], h.2⟩))) ) (fun h => by cases h) rfl ?_; clear hf fa; rintro fa _ w28 ⟨rfl, he26⟩ hf
          replace hkb1 := blk_ext hkb1 he26
          replace hb := hb.trans (Below.mono he26 hb.size)
          change Fr _ _ ((104, (.int .i64 (0 : Int))) :: _) at hf
          refine sqgd (act := true) (g := 11) (want := true) (ag := true) (c := true) hf (by rfl) (by rfl) rfl (fun _ =>  Runs.does (R := fun vq wq => vq = (.bool true) ∧ w28 = wq) (Runs.veq (r_eq rfl rfl) (congrArg Value.bool (show _ = true from (decide_eq_true rfl)))) ⟨rfl, rfl⟩) (fun h => by cases h) rfl ?_; clear hf fa; rintro fa _ _ ⟨rfl, rfl⟩ hf
          change Fr _ _ ((105, (.bool true)) :: _) at hf
          refine sqgd (act := true) (g := 3) (want := false) (ag := true) (c := false) hf (by rfl) (by rfl) rfl (fun _ =>  Runs.does (R := fun vq wq => vq = (.bool true) ∧ w28 = wq) (r_pick (b := true) rfl rfl rfl rfl) ⟨rfl, rfl⟩) (fun h => by cases h) rfl ?_; clear hf fa; rintro fa _ _ ⟨rfl, rfl⟩ hf
          change Fr _ _ ((106, (.bool true)) :: _) at hf
          refine sqgd (act := true) (g := 3) (want := false) (ag := true) (c := false) hf (by rfl) (by rfl) rfl (fun _ =>  Runs.does (R := fun vq wq => vq = (.bool true) ∧ w28 = wq) (r_move rfl) ⟨rfl, rfl⟩) (fun h => by cases h) rfl ?_; clear hf fa; rintro fa _ _ ⟨rfl, rfl⟩ hf
          change Fr _ _ ((107, (.bool true)) :: _) at hf
          refine sqgd (act := true) (g := 16) (want := true) (ag := true) (c := true) hf (by rfl) (by rfl) rfl (fun _ =>  (d_callB (vs := [(.pointer (some ⟨b1, 0, none⟩))]) rfl Try.func27 (by kernel_rfl) (by kernel_rfl) (gsum_any b1 n o m M s _ hkb1 (by have := hG.oE; omega) (by have := hG.nE; omega) hG.mE hG.ME hG.sE)) ) (fun h => by cases h) rfl ?_; clear hf fa; rintro fa _ w29 ⟨rfl, he27⟩ hf
          replace hkb1 := blk_ext hkb1 he27
          replace hb := hb.trans (Below.mono he27 hb.size)
          change Fr _ _ ((108, (.float .f64 s)) :: _) at hf
          refine sqgd (act := true) (g := 16) (want := true) (ag := true) (c := true) hf (by rfl) (by rfl) rfl (fun _ =>  Runs.does (R := fun vq wq => vq = (.bool true) ∧ w29 = wq) (Runs.veq (r_feql rfl rfl) (congrArg Value.bool (show _ = true from (by rw [(hG0 (by omega)).2.2]; decide +kernel)))) ⟨rfl, rfl⟩) (fun h => by cases h) rfl ?_; clear hf fa; rintro fa _ _ ⟨rfl, rfl⟩ hf
          change Fr _ _ ((109, (.bool true)) :: _) at hf
          refine sqgd (act := true) (g := 3) (want := false) (ag := true) (c := false) hf (by rfl) (by rfl) rfl (fun _ =>  Runs.does (R := fun vq wq => vq = (.bool true) ∧ w29 = wq) (r_pick (b := true) rfl rfl rfl rfl) ⟨rfl, rfl⟩) (fun h => by cases h) rfl ?_; clear hf fa; rintro fa _ _ ⟨rfl, rfl⟩ hf
          change Fr _ _ ((110, (.bool true)) :: _) at hf
          refine sqv hf (r_pick (b := false) rfl rfl rfl rfl) rfl rfl rfl ?_; clear hf fa; intro fa hf
          refine sqv hf (r_assign rfl) rfl rfl rfl ?_; clear hf fa; intro fa hf
          apply wpList_nil
          (try simp only [Exit.then, Exit.inBlock, ↓reduceIte, Nat.reduceEqDiff])
          refine hK18 _ _ ?_
          refine wp_ret ?_
          (try simp only [Exit.then, Exit.inBlock])
          refine ret1 hf rfl rfl ?_
          exact ⟨rfl, hb⟩
end Go.Proofs.Ytbllifhcfgjdlaa
