/- What is proved here: the law ImportsBack is true. -/
import Derived.Test.YtcmdajkkdognfaaLiA
namespace Go.Proofs.Ytcmdajkkdognfaa
open Go.RowKit
set_option linter.unusedVariables false
set_option linter.unusedSimpArgs false
set_option maxHeartbeats 1000000 in
set_option maxRecDepth 100000 in
theorem jrcount_any (n : Nat) (w : World) (h : n < 4611686018427387904) : Calls Try.prog 104 #[(.int .i64 ((n : Nat) : Int))] w fun e w' => e = .returned (.string (cntS n)) ∧ Below w.heap.size w w' := by
  refine sx_enter (L := [(0, (.int .i64 ((n : Nat) : Int)))]) Try.func104 rfl rfl rfl rfl (fun fa hf => ?_)
  have hb : Below w.heap.size w w := Below.refl _ _
  refine wp_seq_k (fun K1 hK1 => ?_)
  refine wp_region_lit ?_
  refine sqv hf (r_assign rfl) rfl rfl rfl ?_; clear hf fa; intro fa hf
  apply wpList_nil
  (try simp only [Exit.then, Exit.inBlock, ↓reduceIte, Nat.reduceEqDiff])
  refine hK1 _ _ ?_
  refine wp_seq_k (fun K2 hK2 => ?_)
  refine wp_region_lit ?_
  refine sqv hf (r_move rfl) rfl rfl rfl ?_; clear hf fa; intro fa hf
  refine sqdt hf (d_callB (vs := [(.int .i64 ((n : Nat) : Int))]) rfl Try.func111 (by kernel_rfl) (by kernel_rfl) (count_any n _ (by omega))) rfl rfl rfl ?_; clear hf fa; rintro fa _ w1 ⟨rfl, he1⟩ hf
  replace hb := hb.trans (Below.mono he1 hb.size)
  refine sqv hf (r_assign rfl) rfl rfl rfl ?_; clear hf fa; intro fa hf
  apply wpList_nil
  (try simp only [Exit.then, Exit.inBlock, ↓reduceIte, Nat.reduceEqDiff])
  refine hK2 _ _ ?_
  refine wp_ret ?_
  (try simp only [Exit.then, Exit.inBlock])
  refine ret1 hf rfl rfl ?_
  exact ⟨rfl, hb⟩

set_option maxHeartbeats 1000000 in
set_option maxRecDepth 100000 in
theorem importsBack_any (a : Option Addr) (L : List MImp) (c : Nat) (w : World) (hl : RdS 9 vMImp w a L) (hlc : L.length ≤ c) (hlc2 : L.length ≤ 9223372036854775807) (hok : ∀ y ∈ L, jokE y) : Calls Try.prog 15 #[(.slice a L.length c)] w fun e w' => e = .returned (.bool true) ∧ Below w.heap.size w w' := by
  refine sx_enter (L := [(0, (.slice a L.length c))]) Try.func15 rfl rfl rfl rfl (fun fa hf => ?_)
  have hb : Below w.heap.size w w := Below.refl _ _
  refine wp_seq_k (fun K1 hK1 => ?_)
  refine wp_region_lit ?_
  refine sqv hf (r_assign rfl) rfl rfl rfl ?_; clear hf fa; intro fa hf
  apply wpList_nil
  (try simp only [Exit.then, Exit.inBlock, ↓reduceIte, Nat.reduceEqDiff])
  refine hK1 _ _ ?_
  refine wp_seq_k (fun K2 hK2 => ?_)
  refine wp_seq_k (fun K3 hK3 => ?_)
  refine wp_region_lit ?_
  refine sqdt hf (d_callB (vs := []) rfl Try.func53 (by kernel_rfl) (by kernel_rfl) (awake10_any _)) rfl rfl rfl ?_; clear hf fa; rintro fa _ w1 ⟨rfl, he1⟩ hf
  replace hb := hb.trans (Below.mono he1 hb.size)
  refine sqv hf (Runs.veq (v' := (.bool false)) (r_not rfl) rfl) rfl rfl rfl ?_; clear hf fa; intro fa hf
  apply wpList_nil
  (try simp only [Exit.then, Exit.inBlock, ↓reduceIte, Nat.reduceEqDiff])
  refine hK3 _ _ ?_
  refine wp_cond_false (hf.ev rfl) ?_
  refine wp_skip ?_
  (try simp only [Exit.then, Exit.inBlock, ↓reduceIte, Nat.reduceEqDiff])
  refine hK2 _ _ ?_
  refine wp_seq_k (fun K4 hK4 => ?_)
  refine wp_seq_k (fun K5 hK5 => ?_)
  refine wp_region_lit ?_
  refine sqv hf (r_move rfl) rfl rfl rfl ?_; clear hf fa; intro fa hf
  refine sqv hf (r_lensl rfl Try.underlying79) rfl rfl rfl ?_; clear hf fa; intro fa hf
  refine sqv hf (r_gt rfl rfl) rfl rfl rfl ?_; clear hf fa; intro fa hf
  apply wpList_nil
  (try simp only [Exit.then, Exit.inBlock, ↓reduceIte, Nat.reduceEqDiff])
  refine hK5 _ _ ?_
  refine wp_cond_split (t := (decide ((20 : Int) < ((L.length : Nat) : Int)))) (hf.ev rfl) (fun hqt17_1 => ?_) (fun hqt17_1 => ?_)
  · have hqt17_1b := hqt17_1
    try simp only [decide_eq_true_eq, Bool.and_eq_true, Bool.or_eq_true, Bool.not_eq_true', decide_eq_false_iff_not, ne_eq, Bool.not_eq_true] at hqt17_1
    refine wp_seq_k (fun K6 hK6 => ?_)
    refine wp_region_lit ?_
    refine sqv hf (r_assign rfl) rfl rfl rfl ?_; clear hf fa; intro fa hf
    apply wpList_nil
    (try simp only [Exit.then, Exit.inBlock, ↓reduceIte, Nat.reduceEqDiff])
    refine hK6 _ _ ?_
    refine wp_ret ?_
    (try simp only [Exit.then, Exit.inBlock])
    refine ret1 hf rfl rfl ?_
    exact ⟨rfl, hb⟩
  · have hqt17_1b := hqt17_1
    replace hqt17_1 := Bool.eq_false_iff.1 hqt17_1
    try simp only [ne_eq, decide_eq_true_eq, Bool.and_eq_true, Bool.or_eq_true, Bool.not_eq_true', decide_eq_false_iff_not] at hqt17_1
    refine wp_skip ?_
    (try simp only [Exit.then, Exit.inBlock, ↓reduceIte, Nat.reduceEqDiff])
    refine hK4 _ _ ?_
    refine wp_seq_k (fun K7 hK7 => ?_)
    refine wp_region_lit ?_
    refine sqv hf (r_move rfl) rfl rfl rfl ?_; clear hf fa; intro fa hf
    refine sqv hf (r_lensl rfl Try.underlying79) rfl rfl rfl ?_; clear hf fa; intro fa hf
    refine sqdt hf (d_callB (vs := [(.int .i64 ((L.length : Nat) : Int))]) rfl Try.func104 (by kernel_rfl) (by kernel_rfl) (jrcount_any L.length _ (by omega))) rfl rfl rfl ?_; clear hf fa; rintro fa _ w2 ⟨rfl, he2⟩ hf
    replace hb := hb.trans (Below.mono he2 hb.size)
    refine sqv hf (r_assign rfl) rfl rfl rfl ?_; clear hf fa; intro fa hf
    refine sqv hf (r_assign rfl) rfl rfl rfl ?_; clear hf fa; intro fa hf
    apply wpList_nil
    (try simp only [Exit.then, Exit.inBlock, ↓reduceIte, Nat.reduceEqDiff])
    refine hK7 _ _ ?_
    refine wp_seq_k (fun K8 hK8 => ?_)
    refine wp_seq_k (fun K9 hK9 => ?_)
    refine wp_region_lit ?_
    refine sqv hf (r_assign rfl) rfl rfl rfl ?_; clear hf fa; intro fa hf
    apply wpList_nil
    (try simp only [Exit.then, Exit.inBlock, ↓reduceIte, Nat.reduceEqDiff])
    refine hK9 _ _ ?_
    refine wp_block ?_
    refine wp_loop_k (fun mq fa wr => ∃ (k : Nat) (cd : Int) (wt : ByteArray), mq = L.length - k ∧ Fr 109 fa [(0, (.slice a L.length c)), (3, (.int .i64 cd)), (4, (.string wt)), (5, (.int .i64 ((k : Nat) : Int)))] ∧ Below w.heap.size w wr ∧ (k ≤ L.length) ∧ (cd = firstE irightP (L.take k)) ∧ (cd = 0 → wt = strOfNums (uL L.length ++ (L.take k).flatMap encI)) ∧ (wt.size ≤ 10 + 2500 * k) ∧ (∀ y ∈ L.take k, jsmE y)) ?_ ?_
    · skip
      exact ⟨_, 0, 0, (cntS L.length), rfl, hf.sub ⟨rfl, (some_int (by first | rfl | omega)), rfl, (some_int (by first | rfl | omega)), trivial⟩, hb, by omega, rfl, fun _ => (by rw [List.take_zero]; unfold cntS; simp), (by have := cntS_le (n := L.length) (by omega); omega), (by intro y hy; cases hy)⟩
    · skip
      clear hf fa; intro mq1 fa w3 hI KL1 hKL1
      clear hb
      obtain ⟨k, cd, wt, hmq1, hf, hb, hk, hcd, hwt, hws, hsz⟩ := hI
      refine wp_seq_k (fun K10 hK10 => ?_)
      refine wp_seq_k (fun K11 hK11 => ?_)
      refine wp_region_lit ?_
      refine sqv hf (r_move rfl) rfl rfl rfl ?_; clear hf fa; intro fa hf
      refine sqv hf (r_move rfl) rfl rfl rfl ?_; clear hf fa; intro fa hf
      refine sqv hf (r_lensl rfl Try.underlying79) rfl rfl rfl ?_; clear hf fa; intro fa hf
      refine sqv hf (r_lt rfl rfl) rfl rfl rfl ?_; clear hf fa; intro fa hf
      apply wpList_nil
      (try simp only [Exit.then, Exit.inBlock, ↓reduceIte, Nat.reduceEqDiff])
      refine hK11 _ _ ?_
      refine wp_cond_split (t := (decide (((k : Nat) : Int) < ((L.length : Nat) : Int)))) (hf.ev rfl) (fun hqt24_1 => ?_) (fun hqt24_1 => ?_)
      · have hqt24_1b := hqt24_1
        try simp only [decide_eq_true_eq, Bool.and_eq_true, Bool.or_eq_true, Bool.not_eq_true', decide_eq_false_iff_not, ne_eq, Bool.not_eq_true] at hqt24_1
        refine wp_skip ?_
        (try simp only [Exit.then, Exit.inBlock, ↓reduceIte, Nat.reduceEqDiff])
        refine hK10 _ _ ?_
        refine wp_seq_k (fun K12 hK12 => ?_)
        refine wp_block ?_
        refine wp_seq_k (fun K13 hK13 => ?_)
        obtain ⟨y, hyk⟩ : ∃ y, L[k]? = some y := ⟨_, List.getElem?_eq_getElem (by omega)⟩
        have hym := List.mem_of_getElem? hyk
        have hoy := hok y hym
        refine wp_region_lit ?_
        refine sqv hf (r_move rfl) rfl rfl rfl ?_; clear hf fa; intro fa hf
        refine sqv hf (r_move rfl) rfl rfl rfl ?_; clear hf fa; intro fa hf
        have hy1 : (L)[k]? = some y := hyk
        obtain ⟨ab1, aoff1, rfl, hlb1, hel1⟩ := RdS.at hl hy1
        refine sqv hf (r_ixa (sz := 9) (j := k) rfl rfl Try.underlying79 (by kernel_rfl) rfl (by omega) rfl) rfl rfl rfl ?_; clear hf fa; intro fa hf
        refine sqv hf (r_loadA (cs := [(.string y.1), (.string y.2.1), (.int .u8 y.2.2.1), (.int .u32 y.2.2.2.1), (.int .u32 y.2.2.2.2.1.1), (.int .u32 y.2.2.2.2.1.2.1), (.bool y.2.2.2.2.1.2.2.1), (.int .u8 y.2.2.2.2.2.1.1), (.bool y.2.2.2.2.2.1.2.1)]) rfl Try.underlying81 rfl (by kernel_rfl) (cellsAt_below hel1 hb hlb1)) rfl rfl rfl ?_; clear hf fa; intro fa hf
        refine sqdt hf (d_alloc (z := (.agg #[(.string ⟨#[]⟩), (.string ⟨#[]⟩), (.int .u8 (0 : Int)), (.int .u32 (0 : Int)), (.int .u32 (0 : Int)), (.int .u32 (0 : Int)), (.bool false), (.int .u8 (0 : Int)), (.bool false)])) (cs := #[(.string ⟨#[]⟩), (.string ⟨#[]⟩), (.int .u8 (0 : Int)), (.int .u32 (0 : Int)), (.int .u32 (0 : Int)), (.int .u32 (0 : Int)), (.bool false), (.int .u8 (0 : Int)), (.bool false)]) (by kernel_rfl) rfl) rfl rfl rfl ?_; clear hf fa; rintro fa _ w4 ⟨b1, rfl, hle1, hk1, he3⟩ hf
        have hBb1 : w.heap.size ≤ b1 := Nat.le_trans hb.size hle1
        replace hb := hb.trans (Below.mono he3 hb.size)
        refine sqn hf (d_storeK (T := 81) (v := (.agg #[(.string y.1), (.string y.2.1), (.int .u8 y.2.2.1), (.int .u32 y.2.2.2.1), (.int .u32 y.2.2.2.2.1.1), (.int .u32 y.2.2.2.2.1.2.1), (.bool y.2.2.2.2.1.2.2.1), (.int .u8 y.2.2.2.2.2.1.1), (.bool y.2.2.2.2.2.1.2.1)])) (cs := #[(.string ⟨#[]⟩), (.string ⟨#[]⟩), (.int .u8 (0 : Int)), (.int .u32 (0 : Int)), (.int .u32 (0 : Int)), (.int .u32 (0 : Int)), (.bool false), (.int .u8 (0 : Int)), (.bool false)]) (cs' := #[(.string y.1), (.string y.2.1), (.int .u8 y.2.2.1), (.int .u32 y.2.2.2.1), (.int .u32 y.2.2.2.2.1.1), (.int .u32 y.2.2.2.2.1.2.1), (.bool y.2.2.2.2.1.2.2.1), (.int .u8 y.2.2.2.2.2.1.1), (.bool y.2.2.2.2.2.1.2.1)]) rfl rfl (by kernel_rfl) (by kernel_rfl) hk1 (by kernel_rfl) (by kernel_rfl)) rfl rfl ?_; clear hf fa; rintro fa _ w5 ⟨hk2, hg1⟩ hf
        replace hb := hb.trans (grown_below hg1 hb.size hBb1)
        apply wpList_nil
        (try simp only [Exit.then, Exit.inBlock, ↓reduceIte, Nat.reduceEqDiff])
        refine hK13 _ _ ?_
        refine wp_seq_k (fun K14 hK14 => ?_)
        refine wp_seq_k (fun K15 hK15 => ?_)
        refine wp_region_lit ?_
        refine sqv hf (r_fa rfl Try.underlying81 (f := 0) (q := 0) rfl (by kernel_rfl) rfl) rfl rfl rfl ?_; clear hf fa; intro fa hf
        refine sqv hf (r_load (v := (.string y.1)) rfl Try.underlying9 rfl (cell_blk hk2 rfl)) rfl rfl rfl ?_; clear hf fa; intro fa hf
        refine sqv hf (r_lens rfl Try.underlying9) rfl rfl rfl ?_; clear hf fa; intro fa hf
        refine sqv hf (r_gt rfl rfl) rfl rfl rfl ?_; clear hf fa; intro fa hf
        refine sqv hf (r_move rfl) rfl rfl rfl ?_; clear hf fa; intro fa hf
        refine sqgF (act := (!(decide ((400 : Int) < ((y.1.size : Nat) : Int))))) (ag := true) (c := (decide ((400 : Int) < ((y.1.size : Nat) : Int)))) (v := (.pointer (some ⟨b1, 1, none⟩))) hf rfl rfl rfl (fun hact => (r_fa rfl Try.underlying81 (f := 1) (q := 1) rfl (by kernel_rfl) rfl)) rfl rfl ?_; clear hf fa; intro fa hf
        refine sqgF (act := (!(decide ((400 : Int) < ((y.1.size : Nat) : Int))))) (ag := true) (c := (decide ((400 : Int) < ((y.1.size : Nat) : Int)))) (v := (.string y.2.1)) hf rfl rfl rfl (fun hact => (r_load (v := (.string y.2.1)) (gb_ev hact rfl) Try.underlying9 rfl (cell_blk hk2 rfl))) rfl rfl ?_; clear hf fa; intro fa hf
        refine sqgF (act := (!(decide ((400 : Int) < ((y.1.size : Nat) : Int))))) (ag := true) (c := (decide ((400 : Int) < ((y.1.size : Nat) : Int)))) (v := (.int .i64 ((y.2.1.size : Nat) : Int))) hf rfl rfl rfl (fun hact => (r_lens (gb_ev hact rfl) Try.underlying9)) rfl rfl ?_; clear hf fa; intro fa hf
        refine sqgF (act := (!(decide ((400 : Int) < ((y.1.size : Nat) : Int))))) (ag := true) (c := (decide ((400 : Int) < ((y.1.size : Nat) : Int)))) (v := (.bool (decide ((400 : Int) < ((y.2.1.size : Nat) : Int))))) hf rfl rfl rfl (fun hact => (r_gt (gb_ev hact rfl) rfl)) rfl rfl ?_; clear hf fa; intro fa hf
        refine sqv hf (r_pickO (b := (decide ((400 : Int) < ((y.1.size : Nat) : Int)))) (e := (decide ((400 : Int) < ((y.2.1.size : Nat) : Int)))) rfl rfl rfl) rfl rfl rfl ?_; clear hf fa; intro fa hf
        apply wpList_nil
        (try simp only [Exit.then, Exit.inBlock, ↓reduceIte, Nat.reduceEqDiff])
        refine hK15 _ _ ?_
        refine wp_cond_split (t := ((decide ((400 : Int) < ((y.1.size : Nat) : Int))) || (decide ((400 : Int) < ((y.2.1.size : Nat) : Int))))) (hf.ev rfl) (fun hqt40_1 => ?_) (fun hqt40_1 => ?_)
        · have hqt40_1b := hqt40_1
          try simp only [decide_eq_true_eq, Bool.and_eq_true, Bool.or_eq_true, Bool.not_eq_true', decide_eq_false_iff_not, ne_eq, Bool.not_eq_true] at hqt40_1
          refine wp_seq_k (fun K16 hK16 => ?_)
          refine wp_region_lit ?_
          refine sqv hf (r_assign rfl) rfl rfl rfl ?_; clear hf fa; intro fa hf
          apply wpList_nil
          (try simp only [Exit.then, Exit.inBlock, ↓reduceIte, Nat.reduceEqDiff])
          refine hK16 _ _ ?_
          refine wp_ret ?_
          (try simp only [Exit.then, Exit.inBlock])
          refine ret1 hf rfl rfl ?_
          exact ⟨rfl, hb⟩
        · have hqt40_1b := hqt40_1
          replace hqt40_1 := Bool.eq_false_iff.1 hqt40_1
          try simp only [ne_eq, decide_eq_true_eq, Bool.and_eq_true, Bool.or_eq_true, Bool.not_eq_true', decide_eq_false_iff_not] at hqt40_1
          refine wp_skip ?_
          (try simp only [Exit.then, Exit.inBlock, ↓reduceIte, Nat.reduceEqDiff])
          refine hK14 _ _ ?_
          refine wp_seq_k (fun K17 hK17 => ?_)
          refine wp_seq_k (fun K18 hK18 => ?_)
          have hsy : jsmE y := by have h := hqt40_1; exact ⟨by omega, by omega⟩
          have hyl := jenclen hoy hsy
          have hszn : ∀ z ∈ L.take (k + 1), jsmE z := by
            intro z hz
            rw [ltake_at hyk] at hz
            rcases List.mem_append.1 hz with h | h
            · exact hsz z h
            · rw [List.mem_singleton.1 h]; exact hsy
          refine wp_region_lit ?_
          refine sqv hf (r_move rfl) rfl rfl rfl ?_; clear hf fa; intro fa hf
          refine sqv hf (r_eq rfl rfl) rfl rfl rfl ?_; clear hf fa; intro fa hf
          apply wpList_nil
          (try simp only [Exit.then, Exit.inBlock, ↓reduceIte, Nat.reduceEqDiff])
          refine hK18 _ _ ?_
          refine wp_cond_split (t := (decide (cd = (0 : Int)))) (hf.ev rfl) (fun hqt42_1 => ?_) (fun hqt42_1 => ?_)
          · have hqt42_1b := hqt42_1
            try simp only [decide_eq_true_eq, Bool.and_eq_true, Bool.or_eq_true, Bool.not_eq_true', decide_eq_false_iff_not, ne_eq, Bool.not_eq_true] at hqt42_1
            refine wp_region_lit ?_
            refine sqv hf (r_loadA (cs := [(.string y.1), (.string y.2.1), (.int .u8 y.2.2.1), (.int .u32 y.2.2.2.1), (.int .u32 y.2.2.2.2.1.1), (.int .u32 y.2.2.2.2.1.2.1), (.bool y.2.2.2.2.1.2.2.1), (.int .u8 y.2.2.2.2.2.1.1), (.bool y.2.2.2.2.2.1.2.1)]) rfl Try.underlying81 rfl (by kernel_rfl) (cellsAt_blk hk2)) rfl rfl rfl ?_; clear hf fa; intro fa hf
            refine sqdt hf (d_callB (vs := [(.agg #[(.string y.1), (.string y.2.1), (.int .u8 y.2.2.1), (.int .u32 y.2.2.2.1), (.int .u32 y.2.2.2.2.1.1), (.int .u32 y.2.2.2.2.1.2.1), (.bool y.2.2.2.2.1.2.2.1), (.int .u8 y.2.2.2.2.2.1.1), (.bool y.2.2.2.2.2.1.2.1)])]) rfl Try.func96 (by kernel_rfl) (by kernel_rfl) (irr2_any y _ hsy.1 hsy.2 (show iokE y from hoy).2.2.2.2 (show iokE y from hoy).1.1)) rfl rfl rfl ?_; clear hf fa; rintro fa _ w6 ⟨rfl, he4⟩ hf
            replace hk2 := blk_ext hk2 he4
            replace hb := hb.trans (Below.mono he4 hb.size)
            refine sqv hf (r_assign rfl) rfl rfl rfl ?_; clear hf fa; intro fa hf
            apply wpList_nil
            (try simp only [Exit.then, Exit.inBlock, ↓reduceIte, Nat.reduceEqDiff])
            refine hK17 _ _ ?_
            refine wp_seq_k (fun K19 hK19 => ?_)
            refine wp_region_lit ?_
            refine sqv hf (r_move rfl) rfl rfl rfl ?_; clear hf fa; intro fa hf
            refine sqv hf (r_eq rfl rfl) rfl rfl rfl ?_; clear hf fa; intro fa hf
            apply wpList_nil
            (try simp only [Exit.then, Exit.inBlock, ↓reduceIte, Nat.reduceEqDiff])
            refine hK19 _ _ ?_
            refine wp_cond_split (t := (decide (((irightP y)) = (0 : Int)))) (hf.ev rfl) (fun hqt46_1 => ?_) (fun hqt46_1 => ?_)
            · have hqt46_1b := hqt46_1
              try simp only [decide_eq_true_eq, Bool.and_eq_true, Bool.or_eq_true, Bool.not_eq_true', decide_eq_false_iff_not, ne_eq, Bool.not_eq_true] at hqt46_1
              refine wp_region_lit ?_
              refine sqv hf (r_move rfl) rfl rfl rfl ?_; clear hf fa; intro fa hf
              refine sqv hf (r_loadA (cs := [(.string y.1), (.string y.2.1), (.int .u8 y.2.2.1), (.int .u32 y.2.2.2.1), (.int .u32 y.2.2.2.2.1.1), (.int .u32 y.2.2.2.2.1.2.1), (.bool y.2.2.2.2.1.2.2.1), (.int .u8 y.2.2.2.2.2.1.1), (.bool y.2.2.2.2.2.1.2.1)]) rfl Try.underlying81 rfl (by kernel_rfl) (cellsAt_blk hk2)) rfl rfl rfl ?_; clear hf fa; intro fa hf
              refine sqdt hf (d_callB (vs := [(.agg #[(.string y.1), (.string y.2.1), (.int .u8 y.2.2.1), (.int .u32 y.2.2.2.1), (.int .u32 y.2.2.2.2.1.1), (.int .u32 y.2.2.2.2.1.2.1), (.bool y.2.2.2.2.1.2.2.1), (.int .u8 y.2.2.2.2.2.1.1), (.bool y.2.2.2.2.2.1.2.1)])]) rfl Try.func102 (by kernel_rfl) (by kernel_rfl) (riput_any y _ hsy.1 hsy.2 hoy)) rfl rfl rfl ?_; clear hf fa; rintro fa _ w7 ⟨rfl, he5⟩ hf
              replace hk2 := blk_ext hk2 he5
              replace hb := hb.trans (Below.mono he5 hb.size)
              refine sqv hf (r_sadd rfl rfl (by have := strOfNums_size (encI y); omega)) rfl rfl rfl ?_; clear hf fa; intro fa hf
              refine sqv hf (r_assign rfl) rfl rfl rfl ?_; clear hf fa; intro fa hf
              apply wpList_nil
              (try simp only [Exit.then, Exit.inBlock, ↓reduceIte, Nat.reduceEqDiff])
              refine hK12 _ _ ?_
              refine wp_region_lit ?_
              refine sqv hf (r_move rfl) rfl rfl rfl ?_; clear hf fa; intro fa hf
              refine sqv hf (r_add (C := (((k : Nat) : Int) + (1 : Int))) rfl rfl (by rw [IntKind.wrap_i64]; omega)) rfl rfl rfl ?_; clear hf fa; intro fa hf
              refine sqv hf (r_assign rfl) rfl rfl rfl ?_; clear hf fa; intro fa hf
              apply wpList_nil
              (try simp only [Exit.then, Exit.inBlock, ↓reduceIte, Nat.reduceEqDiff])
              have hz0 : cd = 0 := hqt42_1
              have hfz : firstE irightP (L.take k) = 0 := by rw [← hcd]; exact hz0
              have hsn : irightP y = firstE irightP (L.take (k + 1)) := by rw [firstE_snoc hyk, if_neg (by simpa using hfz)]
              have hry : irightP y = 0 := hqt46_1
              have hwn : wt ++ strOfNums (encI y) = strOfNums (uL L.length ++ (L.take (k + 1)).flatMap encI) := by rw [hwt hz0, fm_take hyk, ← List.append_assoc, strOfNums_app (uL L.length ++ _)]
              have hnl := strOfNums_size (encI y)
              have hns := sz_app wt (strOfNums (encI y))
              refine hKL1 _ _ _ (by omega) ⟨(k + 1), ((irightP y)), (wt ++ (strOfNums (encI y))), rfl, hf.sub ⟨rfl, rfl, rfl, (some_int (by first | rfl | omega)), trivial⟩, hb, by omega, hsn, fun _ => hwn, by omega, hszn⟩
            · have hqt46_1b := hqt46_1
              replace hqt46_1 := Bool.eq_false_iff.1 hqt46_1
              try simp only [ne_eq, decide_eq_true_eq, Bool.and_eq_true, Bool.or_eq_true, Bool.not_eq_true', decide_eq_false_iff_not] at hqt46_1
              refine wp_skip ?_
              (try simp only [Exit.then, Exit.inBlock, ↓reduceIte, Nat.reduceEqDiff])
              refine hK12 _ _ ?_
              refine wp_region_lit ?_
              refine sqv hf (r_move rfl) rfl rfl rfl ?_; clear hf fa; intro fa hf
              refine sqv hf (r_add (C := (((k : Nat) : Int) + (1 : Int))) rfl rfl (by rw [IntKind.wrap_i64]; omega)) rfl rfl rfl ?_; clear hf fa; intro fa hf
              refine sqv hf (r_assign rfl) rfl rfl rfl ?_; clear hf fa; intro fa hf
              apply wpList_nil
              (try simp only [Exit.then, Exit.inBlock, ↓reduceIte, Nat.reduceEqDiff])
              have hz0 : cd = 0 := hqt42_1
              have hfz : firstE irightP (L.take k) = 0 := by rw [← hcd]; exact hz0
              have hsn : irightP y = firstE irightP (L.take (k + 1)) := by rw [firstE_snoc hyk, if_neg (by simpa using hfz)]
              have hry : ¬ irightP y = 0 := hqt46_1
              refine hKL1 _ _ _ (by omega) ⟨(k + 1), ((irightP y)), wt, rfl, hf.sub ⟨rfl, rfl, rfl, (some_int (by first | rfl | omega)), trivial⟩, hb, by omega, hsn, fun h => absurd h hry, by omega, hszn⟩
          · have hqt42_1b := hqt42_1
            replace hqt42_1 := Bool.eq_false_iff.1 hqt42_1
            try simp only [ne_eq, decide_eq_true_eq, Bool.and_eq_true, Bool.or_eq_true, Bool.not_eq_true', decide_eq_false_iff_not] at hqt42_1
            refine wp_skip ?_
            (try simp only [Exit.then, Exit.inBlock, ↓reduceIte, Nat.reduceEqDiff])
            refine hK17 _ _ ?_
            refine wp_seq_k (fun K20 hK20 => ?_)
            refine wp_region_lit ?_
            refine sqv hf (r_move rfl) rfl rfl rfl ?_; clear hf fa; intro fa hf
            refine sqv hf (r_eq rfl rfl) rfl rfl rfl ?_; clear hf fa; intro fa hf
            apply wpList_nil
            (try simp only [Exit.then, Exit.inBlock, ↓reduceIte, Nat.reduceEqDiff])
            refine hK20 _ _ ?_
            refine wp_cond_false ((hf.ev rfl).trans (congrArg Value.bool (show (decide (cd = (0 : Int))) = false from hqt42_1b))) ?_
            refine wp_skip ?_
            (try simp only [Exit.then, Exit.inBlock, ↓reduceIte, Nat.reduceEqDiff])
            refine hK12 _ _ ?_
            refine wp_region_lit ?_
            refine sqv hf (r_move rfl) rfl rfl rfl ?_; clear hf fa; intro fa hf
            refine sqv hf (r_add (C := (((k : Nat) : Int) + (1 : Int))) rfl rfl (by rw [IntKind.wrap_i64]; omega)) rfl rfl rfl ?_; clear hf fa; intro fa hf
            refine sqv hf (r_assign rfl) rfl rfl rfl ?_; clear hf fa; intro fa hf
            apply wpList_nil
            (try simp only [Exit.then, Exit.inBlock, ↓reduceIte, Nat.reduceEqDiff])
            have hz0 : ¬ cd = 0 := hqt42_1
            have hsn : cd = firstE irightP (L.take (k + 1)) := by rw [firstE_snoc hyk, if_pos (by rw [← hcd]; exact hz0)]; exact hcd
            refine hKL1 _ _ _ (by omega) ⟨(k + 1), cd, wt, rfl, hf.sub ⟨rfl, rfl, rfl, (some_int (by first | rfl | omega)), trivial⟩, hb, by omega, hsn, fun h => absurd h hz0, by omega, hszn⟩
      · have hqt24_1b := hqt24_1
        replace hqt24_1 := Bool.eq_false_iff.1 hqt24_1
        try simp only [ne_eq, decide_eq_true_eq, Bool.and_eq_true, Bool.or_eq_true, Bool.not_eq_true', decide_eq_false_iff_not] at hqt24_1
        refine wp_exit ?_
        (try simp only [Exit.then, Exit.inBlock, ↓reduceIte, Nat.reduceEqDiff])
        refine hK8 _ _ ?_
        refine wp_seq_k (fun K21 hK21 => ?_)
        have hkk : L.take k = L := List.take_of_length_le (by omega)
        rw [hkk] at hcd hsz hwt
        have hBL := fm_len (f := encI) (B := 2500) L (fun y hy => jenclen (hok y hy) (hsz y hy))
        have huL := uL_len L.length (by omega)
        have hplz : firstE irightP L = 0 → jputl L = jencs L := fun h => by unfold jputl; rw [if_pos h]
        have hpln : ¬ firstE irightP L = 0 → jputl L = [] := fun h => by unfold jputl; rw [if_neg h]
        have hpll : (jputl L).length ≤ 10 + 2500 * L.length := by
          unfold jputl jencs
          split
          · rw [List.length_append]; omega
          · simp
        refine wp_region_lit ?_
        refine sqv hf (r_move rfl) rfl rfl rfl ?_; clear hf fa; intro fa hf
        refine sqdt hf (d_callX (vs := [(.slice a L.length c)]) rfl Try.func105 (by kernel_rfl) (by kernel_rfl) (jputall_any a L c _ (RdS.ext hl hb) hlc (by omega) hok hsz)) rfl rfl rfl ?_; clear hf fa; rintro fa _ w8 ⟨pa1, pc1, rfl, hr1, he6⟩ hf
        replace hr1 := Row.rebase hr1 hb.size
        replace hb := hb.trans (Below.mono he6 hb.size)
        have hchr1 := Row.caps hr1
        refine sqv hf (r_move rfl) rfl rfl rfl ?_; clear hf fa; intro fa hf
        refine sqv hf (r_extract rfl (i := 0) rfl) rfl rfl rfl ?_; clear hf fa; intro fa hf
        refine sqv hf (r_extract rfl (i := 1) rfl) rfl rfl rfl ?_; clear hf fa; intro fa hf
        refine sqv hf (r_assign rfl) rfl rfl rfl ?_; clear hf fa; intro fa hf
        refine sqv hf (r_assign rfl) rfl rfl rfl ?_; clear hf fa; intro fa hf
        apply wpList_nil
        (try simp only [Exit.then, Exit.inBlock, ↓reduceIte, Nat.reduceEqDiff])
        refine hK21 _ _ ?_
        refine wp_seq_k (fun K22 hK22 => ?_)
        refine wp_seq_k (fun K23 hK23 => ?_)
        refine wp_region_lit ?_
        refine sqv hf (r_move rfl) rfl rfl rfl ?_; clear hf fa; intro fa hf
        refine sqv hf (r_ne rfl rfl) rfl rfl rfl ?_; clear hf fa; intro fa hf
        apply wpList_nil
        (try simp only [Exit.then, Exit.inBlock, ↓reduceIte, Nat.reduceEqDiff])
        refine hK23 _ _ ?_
        refine wp_cond_split (t := (decide (cd ≠ (0 : Int)))) (hf.ev rfl) (fun hqt57_1 => ?_) (fun hqt57_1 => ?_)
        · have hqt57_1b := hqt57_1
          try simp only [decide_eq_true_eq, Bool.and_eq_true, Bool.or_eq_true, Bool.not_eq_true', decide_eq_false_iff_not, ne_eq, Bool.not_eq_true] at hqt57_1
          refine wp_seq_k (fun K24 hK24 => ?_)
          refine wp_region_lit ?_
          refine sqv hf (r_move rfl) rfl rfl rfl ?_; clear hf fa; intro fa hf
          refine sqv hf (r_lensl rfl Try.underlying47) rfl rfl rfl ?_; clear hf fa; intro fa hf
          refine sqv hf (r_eq rfl rfl) rfl rfl rfl ?_; clear hf fa; intro fa hf
          refine sqv hf (r_move rfl) rfl rfl rfl ?_; clear hf fa; intro fa hf
          refine sqgT (act := (decide ((((jputl L).length : Nat) : Int) = (0 : Int)))) (ag := true) (c := (decide ((((jputl L).length : Nat) : Int) = (0 : Int)))) (v := (.int .i64 ((firstE irightP L)))) hf rfl rfl rfl (fun hact => (r_move rfl)) rfl rfl ?_; clear hf fa; intro fa hf
          refine sqgT (act := (decide ((((jputl L).length : Nat) : Int) = (0 : Int)))) (ag := true) (c := (decide ((((jputl L).length : Nat) : Int) = (0 : Int)))) (v := (.int .i64 cd)) hf rfl rfl rfl (fun hact => (r_move rfl)) rfl rfl ?_; clear hf fa; intro fa hf
          refine sqgT (act := (decide ((((jputl L).length : Nat) : Int) = (0 : Int)))) (ag := true) (c := (decide ((((jputl L).length : Nat) : Int) = (0 : Int)))) (v := (.bool (decide (((firstE irightP L)) = cd)))) hf rfl rfl rfl (fun hact => (r_eq (gb_ev hact rfl) (gb_ev hact rfl))) rfl rfl ?_; clear hf fa; intro fa hf
          refine sqv hf (r_pickA (b := (decide ((((jputl L).length : Nat) : Int) = (0 : Int)))) (e := (decide (((firstE irightP L)) = cd))) rfl rfl rfl) rfl rfl rfl ?_; clear hf fa; intro fa hf
          refine sqv hf (r_assign rfl) rfl rfl rfl ?_; clear hf fa; intro fa hf
          apply wpList_nil
          (try simp only [Exit.then, Exit.inBlock, ↓reduceIte, Nat.reduceEqDiff])
          refine hK24 _ _ ?_
          refine wp_ret ?_
          (try simp only [Exit.then, Exit.inBlock])
          refine ret1 hf rfl rfl ?_
          have hz : ¬ cd = 0 := hqt57_1
          rw [hpln (by rw [← hcd]; exact hz), hcd]
          exact ⟨by simp, hb⟩
        · have hqt57_1b := hqt57_1
          replace hqt57_1 := Bool.eq_false_iff.1 hqt57_1
          try simp only [ne_eq, decide_eq_true_eq, Bool.and_eq_true, Bool.or_eq_true, Bool.not_eq_true', decide_eq_false_iff_not] at hqt57_1
          refine wp_skip ?_
          (try simp only [Exit.then, Exit.inBlock, ↓reduceIte, Nat.reduceEqDiff])
          refine hK22 _ _ ?_
          refine wp_seq_k (fun K25 hK25 => ?_)
          have hz : cd = 0 := by have h := hqt57_1; omega
          have hf0 : firstE irightP L = 0 := by rw [← hcd]; exact hz
          have hpz := hplz hf0
          have hrt := firstE_zero hf0
          have hl6 : ∀ y ∈ jputl L, 0 ≤ y ∧ y < 256 := by
            rw [hpz]; intro y hy
            unfold jencs at hy
            rcases List.mem_append.1 hy with h | h
            · exact uL_rng _ y h
            · obtain ⟨z, hz1, hz2⟩ := List.mem_flatMap.1 h
              exact (fun (z : MImp) (h : jokE z) => encI_rng h) z (hok z hz1) y hz2
          have hlm : (jputl L).length ≤ 1000000 := by omega
          have hAt : At (jputl L) 0 (uL L.length ++ L.flatMap encI) := by rw [hpz]; exact At.all _
          have hend : 0 + (uL L.length ++ L.flatMap encI).length = (jputl L).length := by rw [hpz, Nat.zero_add]; rfl
          have hwL := hwt hz
          refine wp_region_lit ?_
          refine sqv hf (r_move rfl) rfl rfl rfl ?_; clear hf fa; intro fa hf
          refine sqdt hf (d_callX (vs := [(.slice pa1 ((jputl L).length) pc1)]) rfl Try.func58 (by kernel_rfl) (by kernel_rfl) (over_any pa1 pc1 (jputl L) _ (Row.rd (by intros; rfl) hr1) (by first | omega | (simp only [Sl.list_length, List.length_set, List.length_take, List.length_append, List.length_replicate, List.length_cons, List.length_nil, List.length_map, nums_len]; omega)) (fun h => Row.nocap hr1 h))) rfl rfl rfl ?_; clear hf fa; rintro fa _ w9 ⟨sb1, sa1, sc1, rfl, hle2, hk3, hr2, he7⟩ hf
          have hBsb1 : w.heap.size ≤ sb1 := Nat.le_trans hb.size hle2
          replace hr2 := Row.rebase hr2 hb.size
          replace hr1 := Row.ext hr1 he7
          replace hb := hb.trans (Below.mono he7 hb.size)
          refine sqdt hf (d_alloc (z := (.pointer none)) (cs := #[(.pointer none)]) (by kernel_rfl) rfl) rfl rfl rfl ?_; clear hf fa; rintro fa _ w10 ⟨b2, rfl, hle3, hk4, he8⟩ hf
          have hBb2 : w.heap.size ≤ b2 := Nat.le_trans hb.size hle3
          have : sb1 < b2 := Nat.lt_of_lt_of_le (blk_lt hk3) hle3
          replace hk3 := blk_ext hk3 he8
          replace hr1 := Row.ext hr1 he8
          replace hr2 := Row.ext hr2 he8
          replace hb := hb.trans (Below.mono he8 hb.size)
          refine sqn hf (d_storeK (T := 87) (v := (.pointer (some ⟨sb1, 0, none⟩))) (cs := #[(.pointer none)]) (cs' := #[(.pointer (some ⟨sb1, 0, none⟩))]) rfl rfl (by kernel_rfl) (by kernel_rfl) hk4 (by kernel_rfl) (by kernel_rfl)) rfl rfl ?_; clear hf fa; rintro fa _ w11 ⟨hk5, hg2⟩ hf
          replace hk3 := blk_grown hk3 hg2 (by omega)
          replace hr1 := Row.grown hr1 hg2 (Row.ne_type hr1 hk4 rfl)
          replace hr2 := Row.grown hr2 hg2 (Row.ne_type hr2 hk4 rfl)
          replace hb := hb.trans (grown_below hg2 hb.size hBb2)
          apply wpList_nil
          (try simp only [Exit.then, Exit.inBlock, ↓reduceIte, Nat.reduceEqDiff])
          refine hK25 _ _ ?_
          refine wp_seq_k (fun K26 hK26 => ?_)
          refine wp_region_lit ?_
          refine sqv hf (r_makeFunc (vs := [(.pointer (some ⟨b2, 0, none⟩))]) rfl) rfl rfl rfl ?_; clear hf fa; intro fa hf
          refine sqdt hf (d_callX (vs := [(.func (.func 107) #[] #[(.pointer (some ⟨b2, 0, none⟩))])]) rfl Try.func106 (by kernel_rfl) (by kernel_rfl) (val_imps sb1 161 107 #[(.pointer (some ⟨b2, 0, none⟩))] #[(.slice sa1 (((jputl L)).length) sc1), (.int .i64 (((0 + (uL L.length ++ L.flatMap encI).length) : Nat) : Int))] L _ (blk_lt hk3) (enters Try.func107 (by kernel_rfl) (by kernel_rfl)) (fun w1 hw1 => jclo_any b2 sb1 w.heap.size 0 sa1 sc1 (jputl L) w1 (blk_ext hk3 hw1) (Row.ext hr2 hw1) (by omega) (by omega) (blk_ext hk5 hw1) hl6 hlm L hAt (by omega) hok hrt hend))) rfl rfl rfl ?_; clear hf fa; rintro fa _ w12 ⟨va1, vc1, rfl, hr3, hk6, hg3⟩ hf
          replace hr3 := Row.rebase hr3 hb.size
          have hcv := Row.caps hr3
          replace hk5 := blk_grown hk5 hg3 (by omega)
          replace hr1 := Row.grown hr1 hg3 (Row.ne_type hr1 hk3 rfl)
          replace hr2 := Row.grown hr2 hg3 (Row.ne_type hr2 hk3 rfl)
          replace hb := hb.trans (grown_below hg3 hb.size hBsb1)
          refine sqv hf (r_move rfl) rfl rfl rfl ?_; clear hf fa; intro fa hf
          refine sqv hf (r_extract rfl (i := 0) rfl) rfl rfl rfl ?_; clear hf fa; intro fa hf
          refine sqv hf (r_extract rfl (i := 1) rfl) rfl rfl rfl ?_; clear hf fa; intro fa hf
          refine sqdt hf (d_alloc (z := (.agg #[(.int .i64 (0 : Int)), (.int .i64 (0 : Int))])) (cs := #[(.int .i64 (0 : Int)), (.int .i64 (0 : Int))]) (by kernel_rfl) rfl) rfl rfl rfl ?_; clear hf fa; rintro fa _ w13 ⟨b3, rfl, hle4, hk7, he9⟩ hf
          have hBb3 : w.heap.size ≤ b3 := Nat.le_trans hb.size hle4
          have : sb1 < b3 := Nat.lt_of_lt_of_le (blk_lt hk6) hle4
          have : b2 < b3 := Nat.lt_of_lt_of_le (blk_lt hk5) hle4
          replace hk6 := blk_ext hk6 he9
          replace hk5 := blk_ext hk5 he9
          replace hr1 := Row.ext hr1 he9
          replace hr2 := Row.ext hr2 he9
          replace hr3 := Row.ext hr3 he9
          replace hb := hb.trans (Below.mono he9 hb.size)
          refine sqv hf (r_assign rfl) rfl rfl rfl ?_; clear hf fa; intro fa hf
          refine sqn hf (d_storeK (T := 90) (v := (.agg #[(.int .i64 (0 : Int)), (.int .i64 (0 : Int))])) (cs := #[(.int .i64 (0 : Int)), (.int .i64 (0 : Int))]) (cs' := #[(.int .i64 (0 : Int)), (.int .i64 (0 : Int))]) rfl rfl (by kernel_rfl) (by kernel_rfl) hk7 (by kernel_rfl) (by kernel_rfl)) rfl rfl ?_; clear hf fa; rintro fa _ w14 ⟨hk8, hg4⟩ hf
          replace hk6 := blk_grown hk6 hg4 (by omega)
          replace hk5 := blk_grown hk5 hg4 (by omega)
          replace hr1 := Row.grown hr1 hg4 (Row.ne_type hr1 hk7 rfl)
          replace hr2 := Row.grown hr2 hg4 (Row.ne_type hr2 hk7 rfl)
          replace hr3 := Row.grown hr3 hg4 (Row.ne_type hr3 hk7 rfl)
          replace hb := hb.trans (grown_below hg4 hb.size hBb3)
          apply wpList_nil
          (try simp only [Exit.then, Exit.inBlock, ↓reduceIte, Nat.reduceEqDiff])
          refine hK26 _ _ ?_
          refine wp_seq_k (fun K27 hK27 => ?_)
          refine wp_seq_k (fun K28 hK28 => ?_)
          refine wp_region_lit ?_
          refine sqv hf (r_move rfl) rfl rfl rfl ?_; clear hf fa; intro fa hf
          refine sqv hf (Runs.veq (r_ne rfl rfl) (congrArg Value.bool (show _ = false from (by rw [hf0]; rfl)))) rfl rfl rfl ?_; clear hf fa; intro fa hf
          refine sqv hf (r_move rfl) rfl rfl rfl ?_; clear hf fa; intro fa hf
          refine sqgd (act := true) (g := 2) (want := false) (ag := true) (c := false) hf (by rfl) (by rfl) rfl (fun _ =>  Runs.does (R := fun vq wq => vq = (.slice pa1 ((jputl L).length) pc1) ∧ w14 = wq) (r_move rfl) ⟨rfl, rfl⟩) (fun h => by cases h) rfl ?_; clear hf fa; rintro fa _ _ ⟨rfl, rfl⟩ hf
          change Fr _ _ ((76, (.slice pa1 ((jputl L).length) pc1)) :: _) at hf
          refine sqgd (act := true) (g := 2) (want := false) (ag := true) (c := false) hf (by rfl) (by rfl) rfl (fun _ =>  Runs.does (R := fun vq wq => vq = (.string (strOfNums (jputl L))) ∧ w14 = wq) (r_rowstr rfl Try.underlying47 Try.underlying5 Try.underlying9 hr1) ⟨rfl, rfl⟩) (fun h => by cases h) rfl ?_; clear hf fa; rintro fa _ _ ⟨rfl, rfl⟩ hf
          change Fr _ _ ((77, (.string (strOfNums (jputl L)))) :: _) at hf
          refine sqgd (act := true) (g := 2) (want := false) (ag := true) (c := false) hf (by rfl) (by rfl) rfl (fun _ =>  Runs.does (R := fun vq wq => vq = (.string wt) ∧ w14 = wq) (r_move rfl) ⟨rfl, rfl⟩) (fun h => by cases h) rfl ?_; clear hf fa; rintro fa _ _ ⟨rfl, rfl⟩ hf
          change Fr _ _ ((78, (.string wt)) :: _) at hf
          refine sqgd (act := true) (g := 2) (want := false) (ag := true) (c := false) hf (by rfl) (by rfl) rfl (fun _ =>  Runs.does (R := fun vq wq => vq = (.bool false) ∧ w14 = wq) (Runs.veq (r_sne rfl rfl) (congrArg Value.bool (show _ = false from (by rw [hpz, hwL]; simp [jencs])))) ⟨rfl, rfl⟩) (fun h => by cases h) rfl ?_; clear hf fa; rintro fa _ _ ⟨rfl, rfl⟩ hf
          change Fr _ _ ((79, (.bool false)) :: _) at hf
          refine sqv hf (r_pick (b := false) rfl rfl rfl rfl) rfl rfl rfl ?_; clear hf fa; intro fa hf
          refine sqv hf (r_move rfl) rfl rfl rfl ?_; clear hf fa; intro fa hf
          refine sqgd (act := true) (g := 8) (want := false) (ag := true) (c := false) hf (by rfl) (by rfl) rfl (fun _ =>  Runs.does (R := fun vq wq => vq = (.pointer (some ⟨b3, 0, none⟩)) ∧ w14 = wq) (r_fa rfl Try.underlying90 (f := 0) (q := 0) rfl (by kernel_rfl) rfl) ⟨rfl, rfl⟩) (fun h => by cases h) rfl ?_; clear hf fa; rintro fa _ _ ⟨rfl, rfl⟩ hf
          change Fr _ _ ((82, (.pointer (some ⟨b3, 0, none⟩))) :: _) at hf
          refine sqgd (act := true) (g := 8) (want := false) (ag := true) (c := false) hf (by rfl) (by rfl) rfl (fun _ =>  Runs.does (R := fun vq wq => vq = (.int .i64 (0 : Int)) ∧ w14 = wq) (r_load (v := (.int .i64 (0 : Int))) rfl Try.underlying39 rfl (cell_blk hk8 rfl)) ⟨rfl, rfl⟩) (fun h => by cases h) rfl ?_; clear hf fa; rintro fa _ _ ⟨rfl, rfl⟩ hf
          change Fr _ _ ((83, (.int .i64 (0 : Int))) :: _) at hf
          refine sqgd (act := true) (g := 8) (want := false) (ag := true) (c := false) hf (by rfl) (by rfl) rfl (fun _ =>  Runs.does (R := fun vq wq => vq = (.bool false) ∧ w14 = wq) (Runs.veq (r_ne rfl rfl) (congrArg Value.bool (show _ = false from rfl))) ⟨rfl, rfl⟩) (fun h => by cases h) rfl ?_; clear hf fa; rintro fa _ _ ⟨rfl, rfl⟩ hf
          change Fr _ _ ((84, (.bool false)) :: _) at hf
          refine sqv hf (r_pick (b := false) rfl rfl rfl rfl) rfl rfl rfl ?_; clear hf fa; intro fa hf
          refine sqv hf (r_move rfl) rfl rfl rfl ?_; clear hf fa; intro fa hf
          refine sqgd (act := true) (g := 13) (want := false) (ag := true) (c := false) hf (by rfl) (by rfl) rfl (fun _ =>  Runs.does (R := fun vq wq => vq = (.slice va1 L.length vc1) ∧ w14 = wq) (r_move rfl) ⟨rfl, rfl⟩) (fun h => by cases h) rfl ?_; clear hf fa; rintro fa _ _ ⟨rfl, rfl⟩ hf
          change Fr _ _ ((87, (.slice va1 L.length vc1)) :: _) at hf
          refine sqgd (act := true) (g := 13) (want := false) (ag := true) (c := false) hf (by rfl) (by rfl) rfl (fun _ =>  Runs.does (R := fun vq wq => vq = (.int .i64 ((L.length : Nat) : Int)) ∧ w14 = wq) (r_lensl rfl Try.underlying79) ⟨rfl, rfl⟩) (fun h => by cases h) rfl ?_; clear hf fa; rintro fa _ _ ⟨rfl, rfl⟩ hf
          change Fr _ _ ((88, (.int .i64 ((L.length : Nat) : Int))) :: _) at hf
          refine sqgd (act := true) (g := 13) (want := false) (ag := true) (c := false) hf (by rfl) (by rfl) rfl (fun _ =>  Runs.does (R := fun vq wq => vq = (.slice a L.length c) ∧ w14 = wq) (r_move rfl) ⟨rfl, rfl⟩) (fun h => by cases h) rfl ?_; clear hf fa; rintro fa _ _ ⟨rfl, rfl⟩ hf
          change Fr _ _ ((89, (.slice a L.length c)) :: _) at hf
          refine sqgd (act := true) (g := 13) (want := false) (ag := true) (c := false) hf (by rfl) (by rfl) rfl (fun _ =>  Runs.does (R := fun vq wq => vq = (.int .i64 ((L.length : Nat) : Int)) ∧ w14 = wq) (r_lensl rfl Try.underlying79) ⟨rfl, rfl⟩) (fun h => by cases h) rfl ?_; clear hf fa; rintro fa _ _ ⟨rfl, rfl⟩ hf
          change Fr _ _ ((90, (.int .i64 ((L.length : Nat) : Int))) :: _) at hf
          refine sqgd (act := true) (g := 13) (want := false) (ag := true) (c := false) hf (by rfl) (by rfl) rfl (fun _ =>  Runs.does (R := fun vq wq => vq = (.bool false) ∧ w14 = wq) (Runs.veq (r_ne rfl rfl) (congrArg Value.bool (show _ = false from (by simp)))) ⟨rfl, rfl⟩) (fun h => by cases h) rfl ?_; clear hf fa; rintro fa _ _ ⟨rfl, rfl⟩ hf
          change Fr _ _ ((91, (.bool false)) :: _) at hf
          refine sqv hf (r_pick (b := false) rfl rfl rfl rfl) rfl rfl rfl ?_; clear hf fa; intro fa hf
          apply wpList_nil
          (try simp only [Exit.then, Exit.inBlock, ↓reduceIte, Nat.reduceEqDiff])
          refine hK28 _ _ ?_
          refine wp_cond_false (hf.ev rfl) ?_
          refine wp_skip ?_
          (try simp only [Exit.then, Exit.inBlock, ↓reduceIte, Nat.reduceEqDiff])
          refine hK27 _ _ ?_
          refine wp_seq_k (fun K29 hK29 => ?_)
          refine wp_seq_k (fun K30 hK30 => ?_)
          refine wp_region_lit ?_
          refine sqv hf (r_assign rfl) rfl rfl rfl ?_; clear hf fa; intro fa hf
          apply wpList_nil
          (try simp only [Exit.then, Exit.inBlock, ↓reduceIte, Nat.reduceEqDiff])
          refine hK30 _ _ ?_
          refine wp_block ?_
          refine wp_loop_k (fun mq fa wr => ∃ (j : Nat) (rva : Option Addr) (rvc : Nat), mq = L.length - j ∧ Fr 109 fa [(0, (.slice a L.length c)), (12, (.int .i64 ((j : Nat) : Int))), (10, (.slice rva L.length rvc))] ∧ Below w.heap.size w wr ∧ Row 9 vMImp 81 (w.heap.size) wr (.slice rva (L.length) rvc) L ∧ (j ≤ L.length)) ?_ ?_
          · skip
            exact ⟨_, 0, va1, vc1, rfl, hf.sub ⟨rfl, (some_int (by first | rfl | omega)), rfl, trivial⟩, hb, hr3, by omega⟩
          · skip
            clear hf fa; intro mq2 fa w15 hI KL2 hKL2
            clear hb
            clear hk6
            clear hk5
            clear hk8
            clear hr1
            clear hr2
            clear hr3
            obtain ⟨j, rva, rvc, hmq2, hf, hb, hrv, hj⟩ := hI
            have hcrv := Row.caps hrv
            refine wp_seq_k (fun K31 hK31 => ?_)
            refine wp_seq_k (fun K32 hK32 => ?_)
            refine wp_region_lit ?_
            refine sqv hf (r_move rfl) rfl rfl rfl ?_; clear hf fa; intro fa hf
            refine sqv hf (r_move rfl) rfl rfl rfl ?_; clear hf fa; intro fa hf
            refine sqv hf (r_lensl rfl Try.underlying79) rfl rfl rfl ?_; clear hf fa; intro fa hf
            refine sqv hf (r_lt rfl rfl) rfl rfl rfl ?_; clear hf fa; intro fa hf
            apply wpList_nil
            (try simp only [Exit.then, Exit.inBlock, ↓reduceIte, Nat.reduceEqDiff])
            refine hK32 _ _ ?_
            refine wp_cond_split (t := (decide (((j : Nat) : Int) < ((L.length : Nat) : Int)))) (hf.ev rfl) (fun hqt96_1 => ?_) (fun hqt96_1 => ?_)
            · have hqt96_1b := hqt96_1
              try simp only [decide_eq_true_eq, Bool.and_eq_true, Bool.or_eq_true, Bool.not_eq_true', decide_eq_false_iff_not, ne_eq, Bool.not_eq_true] at hqt96_1
              refine wp_skip ?_
              (try simp only [Exit.then, Exit.inBlock, ↓reduceIte, Nat.reduceEqDiff])
              refine hK31 _ _ ?_
              refine wp_seq_k (fun K33 hK33 => ?_)
              refine wp_block ?_
              refine wp_seq_k (fun K34 hK34 => ?_)
              obtain ⟨z, hzj⟩ : ∃ z, L[j]? = some z := ⟨_, List.getElem?_eq_getElem (by omega)⟩
              obtain ⟨rb1, rfl, hbbrb1, hlbrb1⟩ := Row.some hrv (by first | omega | (simp only [Sl.list_length, List.length_set, List.length_take, List.length_append, List.length_replicate, List.length_cons, List.length_nil, List.length_map, nums_len]; omega))
              have hy2 : (L)[j]? = some z := hzj
              have hel2 := RdS.at (Row.rd (by intros; rfl) hrv) hy2
              obtain ⟨_, _, hab, hlr1, hel2⟩ := hel2
              cases hab
              have hy3 : (L)[j]? = some z := hzj
              obtain ⟨ab2, aoff2, rfl, hlb2, hel3⟩ := RdS.at hl hy3
              refine wp_region_un (fun wq => Below w15.heap.size w15 wq) (fun w w' => Below w.heap.size w w')
                (fun V => [(fun x _ => x = (.slice (some ⟨rb1, 0, none⟩) L.length rvc)), (fun x _ => x = (.int .i64 ((j : Nat) : Int))), (fun x _ => x = (.pointer (some ⟨rb1, (0 + j * 9), none⟩))), (fun x _ => x = (.agg #[(.string z.1), (.string z.2.1), (.int .u8 z.2.2.1), (.int .u32 z.2.2.2.1), (.int .u32 z.2.2.2.2.1.1), (.int .u32 z.2.2.2.2.1.2.1), (.bool z.2.2.2.2.1.2.2.1), (.int .u8 z.2.2.2.2.2.1.1), (.bool z.2.2.2.2.2.1.2.1)])), (fun x _ => x = (.slice (some ⟨ab2, aoff2, none⟩) L.length c)), (fun x _ => x = (.int .i64 ((j : Nat) : Int))), (fun x _ => x = (.pointer (some ⟨ab2, (aoff2 + j * 9), none⟩))), (fun x _ => x = (.agg #[(.string z.1), (.string z.2.1), (.int .u8 z.2.2.1), (.int .u32 z.2.2.2.1), (.int .u32 z.2.2.2.2.1.1), (.int .u32 z.2.2.2.2.1.2.1), (.bool z.2.2.2.2.1.2.2.1), (.int .u8 z.2.2.2.2.2.1.1), (.bool z.2.2.2.2.2.1.2.1)])), (fun x _ => x = (.bool true)), (fun x _ => x = (.bool false))])
                []
                [[], [], [0, 1], [2], [], [], [4, 5], [6], [3, 7], [8]]
                hf (by kernel_rfl) (by kernel_rfl) (fun _ => rfl) ((Below.refl _ _).drew) (fun a b h1 h2 => h1.trans (h2.mono h1.size)) (fun _ _ h => h.size) (fun V => ⟨kept_eq, kept_eq, kept_eq, kept_eq, kept_eq, kept_eq, kept_eq, kept_eq, kept_eq, kept_eq, trivial⟩) (fun _ _ _ _ _ => rfl) ?_ ?_
              · skip
                intro V
                refine ⟨fun wu0 hC hd => ?_, ?_⟩
                · clear hd
                  replace hb := hb.trans (hC.mono hb.size)
                  replace hrv := Row.ext hrv hC
                  exact Runs.does (r_move rfl) ⟨Below.refl _ _, rfl, nofr rfl⟩
                refine ⟨fun wu1 hC hd => ?_, ?_⟩
                · clear hd
                  replace hb := hb.trans (hC.mono hb.size)
                  replace hrv := Row.ext hrv hC
                  exact Runs.does (r_move rfl) ⟨Below.refl _ _, rfl, nofr rfl⟩
                refine ⟨fun wu2 hC hd => ?_, ?_⟩
                · obtain ⟨h0, h1, _⟩ := hd
                  skip
                  skip
                  replace h0 : V 0 = (.slice (some ⟨rb1, 0, none⟩) L.length rvc) := h0
                  replace h1 : V 1 = (.int .i64 ((j : Nat) : Int)) := h1
                  replace hb := hb.trans (hC.mono hb.size)
                  replace hrv := Row.ext hrv hC
                  exact Runs.does (r_ixa (sz := 9) (j := j) (congrArg some h0) (congrArg some h1) Try.underlying79 (by kernel_rfl) rfl (by omega) rfl) ⟨Below.refl _ _, rfl, nofr rfl⟩
                refine ⟨fun wu3 hC hd => ?_, ?_⟩
                · obtain ⟨h2, _⟩ := hd
                  skip
                  replace h2 : V 2 = (.pointer (some ⟨rb1, (0 + j * 9), none⟩)) := h2
                  replace hb := hb.trans (hC.mono hb.size)
                  replace hrv := Row.ext hrv hC
                  exact Runs.does (r_loadA (cs := [(.string z.1), (.string z.2.1), (.int .u8 z.2.2.1), (.int .u32 z.2.2.2.1), (.int .u32 z.2.2.2.2.1.1), (.int .u32 z.2.2.2.2.1.2.1), (.bool z.2.2.2.2.1.2.2.1), (.int .u8 z.2.2.2.2.2.1.1), (.bool z.2.2.2.2.2.1.2.1)]) (congrArg some h2) Try.underlying81 rfl (by kernel_rfl) (cellsAt_below hel2 hC hlr1)) ⟨Below.refl _ _, rfl, nofr rfl⟩
                refine ⟨fun wu4 hC hd => ?_, ?_⟩
                · clear hd
                  replace hb := hb.trans (hC.mono hb.size)
                  replace hrv := Row.ext hrv hC
                  exact Runs.does (r_move rfl) ⟨Below.refl _ _, rfl, nofr rfl⟩
                refine ⟨fun wu5 hC hd => ?_, ?_⟩
                · clear hd
                  replace hb := hb.trans (hC.mono hb.size)
                  replace hrv := Row.ext hrv hC
                  exact Runs.does (r_move rfl) ⟨Below.refl _ _, rfl, nofr rfl⟩
                refine ⟨fun wu6 hC hd => ?_, ?_⟩
                · obtain ⟨h4, h5, _⟩ := hd
                  skip
                  skip
                  replace h4 : V 4 = (.slice (some ⟨ab2, aoff2, none⟩) L.length c) := h4
                  replace h5 : V 5 = (.int .i64 ((j : Nat) : Int)) := h5
                  replace hb := hb.trans (hC.mono hb.size)
                  replace hrv := Row.ext hrv hC
                  exact Runs.does (r_ixa (sz := 9) (j := j) (congrArg some h4) (congrArg some h5) Try.underlying79 (by kernel_rfl) rfl (by omega) rfl) ⟨Below.refl _ _, rfl, nofr rfl⟩
                refine ⟨fun wu7 hC hd => ?_, ?_⟩
                · obtain ⟨h6, _⟩ := hd
                  skip
                  replace h6 : V 6 = (.pointer (some ⟨ab2, (aoff2 + j * 9), none⟩)) := h6
                  replace hb := hb.trans (hC.mono hb.size)
                  replace hrv := Row.ext hrv hC
                  exact Runs.does (r_loadA (cs := [(.string z.1), (.string z.2.1), (.int .u8 z.2.2.1), (.int .u32 z.2.2.2.1), (.int .u32 z.2.2.2.2.1.1), (.int .u32 z.2.2.2.2.1.2.1), (.bool z.2.2.2.2.1.2.2.1), (.int .u8 z.2.2.2.2.2.1.1), (.bool z.2.2.2.2.2.1.2.1)]) (congrArg some h6) Try.underlying81 rfl (by kernel_rfl) (cellsAt_below hel3 hb hlb2)) ⟨Below.refl _ _, rfl, nofr rfl⟩
                refine ⟨fun wu8 hC hd => ?_, ?_⟩
                · obtain ⟨h3, h7, _⟩ := hd
                  skip
                  skip
                  replace h3 : V 3 = (.agg #[(.string z.1), (.string z.2.1), (.int .u8 z.2.2.1), (.int .u32 z.2.2.2.1), (.int .u32 z.2.2.2.2.1.1), (.int .u32 z.2.2.2.2.1.2.1), (.bool z.2.2.2.2.1.2.2.1), (.int .u8 z.2.2.2.2.2.1.1), (.bool z.2.2.2.2.2.1.2.1)]) := h3
                  replace h7 : V 7 = (.agg #[(.string z.1), (.string z.2.1), (.int .u8 z.2.2.1), (.int .u32 z.2.2.2.1), (.int .u32 z.2.2.2.2.1.1), (.int .u32 z.2.2.2.2.1.2.1), (.bool z.2.2.2.2.1.2.2.1), (.int .u8 z.2.2.2.2.2.1.1), (.bool z.2.2.2.2.2.1.2.1)]) := h7
                  replace hb := hb.trans (hC.mono hb.size)
                  replace hrv := Row.ext hrv hC
                  refine Does.mono (d_callB (vs := [(.agg #[(.string z.1), (.string z.2.1), (.int .u8 z.2.2.1), (.int .u32 z.2.2.2.1), (.int .u32 z.2.2.2.2.1.1), (.int .u32 z.2.2.2.2.1.2.1), (.bool z.2.2.2.2.1.2.2.1), (.int .u8 z.2.2.2.2.2.1.1), (.bool z.2.2.2.2.2.1.2.1)]), (.agg #[(.string z.1), (.string z.2.1), (.int .u8 z.2.2.1), (.int .u32 z.2.2.2.1), (.int .u32 z.2.2.2.2.1.1), (.int .u32 z.2.2.2.2.1.2.1), (.bool z.2.2.2.2.1.2.2.1), (.int .u8 z.2.2.2.2.2.1.1), (.bool z.2.2.2.2.2.1.2.1)])]) (show [some (V 3), some (V 7)] = [some (.agg #[(.string z.1), (.string z.2.1), (.int .u8 z.2.2.1), (.int .u32 z.2.2.2.1), (.int .u32 z.2.2.2.2.1.1), (.int .u32 z.2.2.2.2.1.2.1), (.bool z.2.2.2.2.1.2.2.1), (.int .u8 z.2.2.2.2.2.1.1), (.bool z.2.2.2.2.2.1.2.1)]), some (.agg #[(.string z.1), (.string z.2.1), (.int .u8 z.2.2.1), (.int .u32 z.2.2.2.1), (.int .u32 z.2.2.2.2.1.1), (.int .u32 z.2.2.2.2.1.2.1), (.bool z.2.2.2.2.1.2.2.1), (.int .u8 z.2.2.2.2.2.1.1), (.bool z.2.2.2.2.2.1.2.1)])] from by rw [h3, h7]) Try.func103 (by kernel_rfl) (by kernel_rfl) (isame_any z _)) (fun _ _ h => ⟨h.2, h.1, nofr rfl⟩)
                refine ⟨fun wu9 hC hd => ?_, ?_⟩
                · obtain ⟨h8, _⟩ := hd
                  skip
                  replace h8 : V 8 = (.bool true) := h8
                  replace hb := hb.trans (hC.mono hb.size)
                  replace hrv := Row.ext hrv hC
                  exact Runs.does (Runs.veq (v' := (.bool false)) (r_not (congrArg some h8)) rfl) ⟨Below.refl _ _, rfl, nofr rfl⟩
                trivial
              · skip
                clear hf fa; intro V w16 fa he10 hp hnb hf
                have hv0 : V 0 = (.slice (some ⟨rb1, 0, none⟩) L.length rvc) := postsHold_at hp 0 rfl
                have hv1 : V 1 = (.int .i64 ((j : Nat) : Int)) := postsHold_at hp 1 rfl
                have hv2 : V 2 = (.pointer (some ⟨rb1, (0 + j * 9), none⟩)) := postsHold_at hp 2 rfl
                have hv3 : V 3 = (.agg #[(.string z.1), (.string z.2.1), (.int .u8 z.2.2.1), (.int .u32 z.2.2.2.1), (.int .u32 z.2.2.2.2.1.1), (.int .u32 z.2.2.2.2.1.2.1), (.bool z.2.2.2.2.1.2.2.1), (.int .u8 z.2.2.2.2.2.1.1), (.bool z.2.2.2.2.2.1.2.1)]) := postsHold_at hp 3 rfl
                have hv4 : V 4 = (.slice (some ⟨ab2, aoff2, none⟩) L.length c) := postsHold_at hp 4 rfl
                have hv5 : V 5 = (.int .i64 ((j : Nat) : Int)) := postsHold_at hp 5 rfl
                have hv6 : V 6 = (.pointer (some ⟨ab2, (aoff2 + j * 9), none⟩)) := postsHold_at hp 6 rfl
                have hv7 : V 7 = (.agg #[(.string z.1), (.string z.2.1), (.int .u8 z.2.2.1), (.int .u32 z.2.2.2.1), (.int .u32 z.2.2.2.2.1.1), (.int .u32 z.2.2.2.2.1.2.1), (.bool z.2.2.2.2.1.2.2.1), (.int .u8 z.2.2.2.2.2.1.1), (.bool z.2.2.2.2.2.1.2.1)]) := postsHold_at hp 7 rfl
                have hv8 : V 8 = (.bool true) := postsHold_at hp 8 rfl
                have hv9 : V 9 = (.bool false) := postsHold_at hp 9 rfl
                simp only [List.take_succ_cons, List.take_zero, insAll, ins, hv0, hv1, hv2, hv3, hv4, hv5, hv6, hv7, hv8, hv9] at hf
                clear hp hnb hv0 hv1 hv2 hv3 hv4 hv5 hv6 hv7 hv8 hv9
                replace hrv := Row.ext hrv he10
                replace hb := hb.trans (Below.mono he10 hb.size)
                (try simp only [Exit.then, Exit.inBlock, ↓reduceIte, Nat.reduceEqDiff])
                refine hK34 _ _ ?_
                refine wp_cond_false (hf.ev rfl) ?_
                refine wp_skip ?_
                (try simp only [Exit.then, Exit.inBlock, ↓reduceIte, Nat.reduceEqDiff])
                refine hK33 _ _ ?_
                refine wp_region_lit ?_
                refine sqv hf (r_move rfl) rfl rfl rfl ?_; clear hf fa; intro fa hf
                refine sqv hf (r_add (C := (((j : Nat) : Int) + (1 : Int))) rfl rfl (by rw [IntKind.wrap_i64]; omega)) rfl rfl rfl ?_; clear hf fa; intro fa hf
                refine sqv hf (r_assign rfl) rfl rfl rfl ?_; clear hf fa; intro fa hf
                apply wpList_nil
                (try simp only [Exit.then, Exit.inBlock, ↓reduceIte, Nat.reduceEqDiff])
                refine hKL2 _ _ _ (by omega) ⟨(j + 1), (some ⟨rb1, 0, none⟩), rvc, rfl, hf.sub ⟨rfl, (some_int (by first | rfl | omega)), rfl, trivial⟩, hb, hrv, by omega⟩
            · have hqt96_1b := hqt96_1
              replace hqt96_1 := Bool.eq_false_iff.1 hqt96_1
              try simp only [ne_eq, decide_eq_true_eq, Bool.and_eq_true, Bool.or_eq_true, Bool.not_eq_true', decide_eq_false_iff_not] at hqt96_1
              refine wp_exit ?_
              (try simp only [Exit.then, Exit.inBlock, ↓reduceIte, Nat.reduceEqDiff])
              refine hK29 _ _ ?_
              refine wp_seq_k (fun K35 hK35 => ?_)
              refine wp_region_lit ?_
              refine sqv hf (r_assign rfl) rfl rfl rfl ?_; clear hf fa; intro fa hf
              apply wpList_nil
              (try simp only [Exit.then, Exit.inBlock, ↓reduceIte, Nat.reduceEqDiff])
              refine hK35 _ _ ?_
              refine wp_ret ?_
              (try simp only [Exit.then, Exit.inBlock])
              refine ret1 hf rfl rfl ?_
              exact ⟨rfl, hb⟩
end Go.Proofs.Ytcmdajkkdognfaa
