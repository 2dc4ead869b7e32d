/- What is proved here: GaugeRanks walked. -/
import Derived.Test.YtbllifhcfgjdlaaGgL
namespace Go.Proofs.Ytbllifhcfgjdlaa
open Go.RowKit
set_option linter.unusedVariables false
set_option linter.unusedSimpArgs false
theorem take_sum (b : List Int) (i : Nat) : (b.take (i + 1)).sum = (b.take i).sum + b.getD i 0 := by
  rw [List.take_add_one, List.sum_append, List.getD_eq_getElem?_getD]
  cases b[i]? <;> simp
theorem sum_bound {b : List Int} (h : BB b 100) : ∀ i, 0 ≤ (b.take i).sum ∧ (b.take i).sum ≤ 100 * (i : Int)
  | 0 => by simp
  | i + 1 => by
    rw [take_sum]
    have h1 := sum_bound h i
    have h2 := h i
    omega

set_option maxHeartbeats 1000000 in
set_option maxRecDepth 100000 in
theorem same27_any (a b : Option Addr) (l : List Int) (c d : Nat) (w : World) (hl : RdS 1 (vInt .i64) w a l) (hm : RdS 1 (vInt .i64) w b l) (hlc : l.length ≤ 9223372036854775807) : Calls Try.prog 17 #[(.slice a l.length c), (.slice b l.length d)] w fun e w' => e = .returned (.bool true) ∧ Below w.heap.size w w' := by
  refine sx_enter (L := [(0, (.slice a l.length c)), (1, (.slice b l.length d))]) Try.func17 rfl rfl rfl rfl (fun fa hf => ?_)
  have hb : Below w.heap.size w w := Below.refl _ _
  refine wp_seq_k (fun K1 hK1 => ?_)
  refine wp_region_lit ?_
  refine sqv hf (r_assign rfl) rfl rfl rfl ?_; clear hf fa; intro fa hf
  apply wpList_nil
  (try simp only [Exit.then, Exit.inBlock, ↓reduceIte, Nat.reduceEqDiff])
  refine hK1 _ _ ?_
  refine wp_seq_k (fun K2 hK2 => ?_)
  refine wp_seq_k (fun K3 hK3 => ?_)
  refine wp_region_lit ?_
  refine sqv hf (r_move rfl) rfl rfl rfl ?_; clear hf fa; intro fa hf
  refine sqv hf (r_lensl rfl Try.underlying31) rfl rfl rfl ?_; clear hf fa; intro fa hf
  refine sqv hf (r_move rfl) rfl rfl rfl ?_; clear hf fa; intro fa hf
  refine sqv hf (r_lensl rfl Try.underlying31) rfl rfl rfl ?_; clear hf fa; intro fa hf
  refine sqv hf (Runs.veq (r_ne rfl rfl) (congrArg Value.bool (show _ = false from (by simp)))) rfl rfl rfl ?_; clear hf fa; intro fa hf
  apply wpList_nil
  (try simp only [Exit.then, Exit.inBlock, ↓reduceIte, Nat.reduceEqDiff])
  refine hK3 _ _ ?_
  refine wp_cond_false (hf.ev rfl) ?_
  refine wp_skip ?_
  (try simp only [Exit.then, Exit.inBlock, ↓reduceIte, Nat.reduceEqDiff])
  refine hK2 _ _ ?_
  refine wp_seq_k (fun K4 hK4 => ?_)
  refine wp_seq_k (fun K5 hK5 => ?_)
  refine wp_region_lit ?_
  refine sqv hf (r_assign rfl) rfl rfl rfl ?_; clear hf fa; intro fa hf
  apply wpList_nil
  (try simp only [Exit.then, Exit.inBlock, ↓reduceIte, Nat.reduceEqDiff])
  refine hK5 _ _ ?_
  refine wp_block ?_
  refine wp_loop_k (fun mq fa wr => ∃ (k : Nat), mq = l.length - k ∧ Fr 26 fa [(0, (.slice a l.length c)), (1, (.slice b l.length d)), (5, (.int .i64 ((k : Nat) : Int)))] ∧ Below w.heap.size w wr ∧ (k ≤ l.length)) ?_ ?_
  · skip
    exact ⟨_, 0, rfl, hf.sub ⟨rfl, rfl, (some_int (by first | rfl | omega)), trivial⟩, hb, by omega⟩
  · skip
    clear hf fa; intro mq1 fa w1 hI KL1 hKL1
    clear hb
    obtain ⟨k, hmq1, hf, hb, hk⟩ := hI
    refine wp_seq_k (fun K6 hK6 => ?_)
    refine wp_seq_k (fun K7 hK7 => ?_)
    refine wp_region_lit ?_
    refine sqv hf (r_move rfl) rfl rfl rfl ?_; clear hf fa; intro fa hf
    refine sqv hf (r_move rfl) rfl rfl rfl ?_; clear hf fa; intro fa hf
    refine sqv hf (r_lensl rfl Try.underlying31) rfl rfl rfl ?_; clear hf fa; intro fa hf
    refine sqv hf (r_lt rfl rfl) rfl rfl rfl ?_; clear hf fa; intro fa hf
    apply wpList_nil
    (try simp only [Exit.then, Exit.inBlock, ↓reduceIte, Nat.reduceEqDiff])
    refine hK7 _ _ ?_
    refine wp_cond_split (t := (decide (((k : Nat) : Int) < ((l.length : Nat) : Int)))) (hf.ev rfl) (fun hqt14_1 => ?_) (fun hqt14_1 => ?_)
    · have hqt14_1b := hqt14_1
      try simp only [decide_eq_true_eq, Bool.and_eq_true, Bool.or_eq_true, Bool.not_eq_true', decide_eq_false_iff_not, ne_eq, Bool.not_eq_true] at hqt14_1
      refine wp_skip ?_
      (try simp only [Exit.then, Exit.inBlock, ↓reduceIte, Nat.reduceEqDiff])
      refine hK6 _ _ ?_
      refine wp_seq_k (fun K8 hK8 => ?_)
      refine wp_block ?_
      refine wp_seq_k (fun K9 hK9 => ?_)
      obtain ⟨y, hy⟩ : ∃ x, l[k]? = some x := ⟨_, List.getElem?_eq_getElem (by omega)⟩
      have hy1 : (l)[k]? = some y := hy
      obtain ⟨ab1, aoff1, hat1, hlb1, hel1⟩ := RdS.at hl hy1
      have hy2 : (l)[k]? = some y := hy
      obtain ⟨ab2, aoff2, hat2, hlb2, hel2⟩ := RdS.at hm hy2
      refine wp_region_un (fun wq => Below w1.heap.size w1 wq) (fun w w' => Below w.heap.size w w')
        (fun V => [(fun x _ => x = (.slice a l.length c)), (fun x _ => x = (.int .i64 ((k : Nat) : Int))), (fun x _ => x = (.pointer (some ⟨ab1, (aoff1 + k * 1), none⟩))), (fun x _ => x = (.int .i64 y)), (fun x _ => x = (.slice b l.length d)), (fun x _ => x = (.int .i64 ((k : Nat) : Int))), (fun x _ => x = (.pointer (some ⟨ab2, (aoff2 + k * 1), none⟩))), (fun x _ => x = (.int .i64 y)), (fun x _ => x = (.bool false))])
        []
        [[], [], [0, 1], [2], [], [], [4, 5], [6], [3, 7]]
        hf (by kernel_rfl) (by kernel_rfl) (fun _ => rfl) ((Below.refl _ _).drew) (fun a b h1 h2 => h1.trans (h2.mono h1.size)) (fun _ _ h => h.size) (fun V => ⟨kept_eq, kept_eq, kept_eq, kept_eq, kept_eq, kept_eq, kept_eq, kept_eq, kept_eq, trivial⟩) (fun _ _ _ _ _ => rfl) ?_ ?_
      · skip
        intro V
        refine ⟨fun wu0 hC hd => ?_, ?_⟩
        · clear hd
          replace hb := hb.trans (hC.mono hb.size)
          exact Runs.does (r_move rfl) ⟨Below.refl _ _, rfl, nofr rfl⟩
        refine ⟨fun wu1 hC hd => ?_, ?_⟩
        · clear hd
          replace hb := hb.trans (hC.mono hb.size)
          exact Runs.does (r_move rfl) ⟨Below.refl _ _, rfl, nofr rfl⟩
        refine ⟨fun wu2 hC hd => ?_, ?_⟩
        · obtain ⟨h0, h1, _⟩ := hd
          skip
          skip
          replace h0 : V 0 = (.slice a l.length c) := h0
          replace h1 : V 1 = (.int .i64 ((k : Nat) : Int)) := h1
          replace hb := hb.trans (hC.mono hb.size)
          exact Runs.does (r_ixa (sz := 1) (j := k) (evAt (congrArg some h0) hat1) (congrArg some h1) Try.underlying31 (by kernel_rfl) rfl (by omega) rfl) ⟨Below.refl _ _, rfl, nofr rfl⟩
        refine ⟨fun wu3 hC hd => ?_, ?_⟩
        · obtain ⟨h2, _⟩ := hd
          skip
          replace h2 : V 2 = (.pointer (some ⟨ab1, (aoff1 + k * 1), none⟩)) := h2
          replace hb := hb.trans (hC.mono hb.size)
          exact Runs.does (r_load (v := (.int .i64 y)) (congrArg some h2) Try.underlying3 rfl (cellsAt_cell (cellsAt_below hel1 hb hlb1) (i := 0) rfl rfl)) ⟨Below.refl _ _, rfl, nofr rfl⟩
        refine ⟨fun wu4 hC hd => ?_, ?_⟩
        · clear hd
          replace hb := hb.trans (hC.mono hb.size)
          exact Runs.does (r_move rfl) ⟨Below.refl _ _, rfl, nofr rfl⟩
        refine ⟨fun wu5 hC hd => ?_, ?_⟩
        · clear hd
          replace hb := hb.trans (hC.mono hb.size)
          exact Runs.does (r_move rfl) ⟨Below.refl _ _, rfl, nofr rfl⟩
        refine ⟨fun wu6 hC hd => ?_, ?_⟩
        · obtain ⟨h4, h5, _⟩ := hd
          skip
          skip
          replace h4 : V 4 = (.slice b l.length d) := h4
          replace h5 : V 5 = (.int .i64 ((k : Nat) : Int)) := h5
          replace hb := hb.trans (hC.mono hb.size)
          exact Runs.does (r_ixa (sz := 1) (j := k) (evAt (congrArg some h4) hat2) (congrArg some h5) Try.underlying31 (by kernel_rfl) rfl (by omega) rfl) ⟨Below.refl _ _, rfl, nofr rfl⟩
        refine ⟨fun wu7 hC hd => ?_, ?_⟩
        · obtain ⟨h6, _⟩ := hd
          skip
          replace h6 : V 6 = (.pointer (some ⟨ab2, (aoff2 + k * 1), none⟩)) := h6
          replace hb := hb.trans (hC.mono hb.size)
          exact Runs.does (r_load (v := (.int .i64 y)) (congrArg some h6) Try.underlying3 rfl (cellsAt_cell (cellsAt_below hel2 hb hlb2) (i := 0) rfl rfl)) ⟨Below.refl _ _, rfl, nofr rfl⟩
        refine ⟨fun wu8 hC hd => ?_, ?_⟩
        · obtain ⟨h3, h7, _⟩ := hd
          skip
          skip
          replace h3 : V 3 = (.int .i64 y) := h3
          replace h7 : V 7 = (.int .i64 y) := h7
          replace hb := hb.trans (hC.mono hb.size)
          exact Runs.does (Runs.veq (r_ne (congrArg some h3) (congrArg some h7)) (congrArg Value.bool (show _ = false from (by simp)))) ⟨Below.refl _ _, rfl, nofr rfl⟩
        trivial
      · skip
        clear hf fa; intro V w2 fa he1 hp hnb hf
        have hv0 : V 0 = (.slice a l.length c) := postsHold_at hp 0 rfl
        have hv1 : V 1 = (.int .i64 ((k : Nat) : Int)) := postsHold_at hp 1 rfl
        have hv2 : V 2 = (.pointer (some ⟨ab1, (aoff1 + k * 1), none⟩)) := postsHold_at hp 2 rfl
        have hv3 : V 3 = (.int .i64 y) := postsHold_at hp 3 rfl
        have hv4 : V 4 = (.slice b l.length d) := postsHold_at hp 4 rfl
        have hv5 : V 5 = (.int .i64 ((k : Nat) : Int)) := postsHold_at hp 5 rfl
        have hv6 : V 6 = (.pointer (some ⟨ab2, (aoff2 + k * 1), none⟩)) := postsHold_at hp 6 rfl
        have hv7 : V 7 = (.int .i64 y) := postsHold_at hp 7 rfl
        have hv8 : V 8 = (.bool false) := postsHold_at hp 8 rfl
        simp only [List.take_succ_cons, List.take_zero, insAll, ins, hv0, hv1, hv2, hv3, hv4, hv5, hv6, hv7, hv8] at hf
        clear hp hnb hv0 hv1 hv2 hv3 hv4 hv5 hv6 hv7 hv8
        replace hb := hb.trans (Below.mono he1 hb.size)
        (try simp only [Exit.then, Exit.inBlock, ↓reduceIte, Nat.reduceEqDiff])
        refine hK9 _ _ ?_
        refine wp_cond_false (hf.ev rfl) ?_
        refine wp_skip ?_
        (try simp only [Exit.then, Exit.inBlock, ↓reduceIte, Nat.reduceEqDiff])
        refine hK8 _ _ ?_
        refine wp_region_lit ?_
        refine sqv hf (r_move rfl) rfl rfl rfl ?_; clear hf fa; intro fa hf
        refine sqv hf (r_add (C := (((k : Nat) : Int) + (1 : Int))) rfl rfl (by rw [IntKind.wrap_i64]; omega)) rfl rfl rfl ?_; clear hf fa; intro fa hf
        refine sqv hf (r_assign rfl) rfl rfl rfl ?_; clear hf fa; intro fa hf
        apply wpList_nil
        (try simp only [Exit.then, Exit.inBlock, ↓reduceIte, Nat.reduceEqDiff])
        refine hKL1 _ _ _ (by omega) ⟨(k + 1), rfl, hf.sub ⟨rfl, rfl, (some_int (by first | rfl | omega)), trivial⟩, hb, by omega⟩
    · have hqt14_1b := hqt14_1
      replace hqt14_1 := Bool.eq_false_iff.1 hqt14_1
      try simp only [ne_eq, decide_eq_true_eq, Bool.and_eq_true, Bool.or_eq_true, Bool.not_eq_true', decide_eq_false_iff_not] at hqt14_1
      refine wp_exit ?_
      (try simp only [Exit.then, Exit.inBlock, ↓reduceIte, Nat.reduceEqDiff])
      refine hK4 _ _ ?_
      refine wp_seq_k (fun K10 hK10 => ?_)
      refine wp_region_lit ?_
      refine sqv hf (r_assign rfl) rfl rfl rfl ?_; clear hf fa; intro fa hf
      apply wpList_nil
      (try simp only [Exit.then, Exit.inBlock, ↓reduceIte, Nat.reduceEqDiff])
      refine hK10 _ _ ?_
      refine wp_ret ?_
      (try simp only [Exit.then, Exit.inBlock])
      refine ret1 hf rfl rfl ?_
      exact ⟨rfl, hb⟩

set_option maxHeartbeats 1000000 in
set_option maxRecDepth 100000 in
theorem ranks_ok (qq : Nat) (hqq : qq < 18446744073709551616) (k : Nat) (hk1 : 1 ≤ k) (hk2 : k ≤ 1000) (a : Option Addr) (c : Nat) (l : List Nat) (w : World) (hl : RdS 1 vFlt w a l) (hlm : l.length ≤ 9223372036854775807) (hW : allW l) : Calls Try.prog 4 #[(.float .f64 qq), (.int .i64 ((k : Nat) : Int)), (.slice a l.length c)] w fun e w' => e = .returned (.bool true) ∧ Below w.heap.size w w' := by
  refine sx_enter (L := [(0, (.float .f64 qq)), (1, (.int .i64 ((k : Nat) : Int))), (2, (.slice a l.length c))]) Try.func4 rfl rfl rfl rfl (fun fa hf => ?_)
  have hb : Below w.heap.size w w := Below.refl _ _
  refine wp_seq_k (fun K1 hK1 => ?_)
  refine wp_region_lit ?_
  refine sqv hf (r_assign rfl) rfl rfl rfl ?_; clear hf fa; intro fa hf
  apply wpList_nil
  (try simp only [Exit.then, Exit.inBlock, ↓reduceIte, Nat.reduceEqDiff])
  refine hK1 _ _ ?_
  refine wp_seq_k (fun K2 hK2 => ?_)
  refine wp_seq_k (fun K3 hK3 => ?_)
  refine wp_region_lit ?_
  refine sqdt hf (d_callB (vs := []) rfl Try.func6 (by kernel_rfl) (by kernel_rfl) (awake48_any _)) rfl rfl rfl ?_; clear hf fa; rintro fa _ w1 ⟨rfl, he1⟩ hf
  replace hb := hb.trans (Below.mono he1 hb.size)
  refine sqv hf (Runs.veq (v' := (.bool false)) (r_not rfl) rfl) rfl rfl rfl ?_; clear hf fa; intro fa hf
  apply wpList_nil
  (try simp only [Exit.then, Exit.inBlock, ↓reduceIte, Nat.reduceEqDiff])
  refine hK3 _ _ ?_
  refine wp_cond_false (hf.ev rfl) ?_
  refine wp_skip ?_
  (try simp only [Exit.then, Exit.inBlock, ↓reduceIte, Nat.reduceEqDiff])
  refine hK2 _ _ ?_
  refine wp_seq_k (fun K4 hK4 => ?_)
  refine wp_seq_k (fun K5 hK5 => ?_)
  refine wp_region_lit ?_
  refine sqv hf (r_move rfl) rfl rfl rfl ?_; clear hf fa; intro fa hf
  refine sqv hf (r_lensl rfl Try.underlying30) rfl rfl rfl ?_; clear hf fa; intro fa hf
  refine sqv hf (r_gt rfl rfl) rfl rfl rfl ?_; clear hf fa; intro fa hf
  apply wpList_nil
  (try simp only [Exit.then, Exit.inBlock, ↓reduceIte, Nat.reduceEqDiff])
  refine hK5 _ _ ?_
  refine wp_cond_split (t := (decide ((100 : Int) < ((l.length : Nat) : Int)))) (hf.ev rfl) (fun hqt14_1 => ?_) (fun hqt14_1 => ?_)
  · have hqt14_1b := hqt14_1
    try simp only [decide_eq_true_eq, Bool.and_eq_true, Bool.or_eq_true, Bool.not_eq_true', decide_eq_false_iff_not, ne_eq, Bool.not_eq_true] at hqt14_1
    refine wp_seq_k (fun K6 hK6 => ?_)
    refine wp_region_lit ?_
    refine sqv hf (r_assign rfl) rfl rfl rfl ?_; clear hf fa; intro fa hf
    apply wpList_nil
    (try simp only [Exit.then, Exit.inBlock, ↓reduceIte, Nat.reduceEqDiff])
    refine hK6 _ _ ?_
    refine wp_ret ?_
    (try simp only [Exit.then, Exit.inBlock])
    refine ret1 hf rfl rfl ?_
    exact ⟨rfl, hb⟩
  · have hqt14_1b := hqt14_1
    replace hqt14_1 := Bool.eq_false_iff.1 hqt14_1
    try simp only [ne_eq, decide_eq_true_eq, Bool.and_eq_true, Bool.or_eq_true, Bool.not_eq_true', decide_eq_false_iff_not] at hqt14_1
    refine wp_skip ?_
    (try simp only [Exit.then, Exit.inBlock, ↓reduceIte, Nat.reduceEqDiff])
    refine hK4 _ _ ?_
    refine wp_seq_k (fun K7 hK7 => ?_)
    refine wp_region_lit ?_
    refine sqv hf (r_move rfl) rfl rfl rfl ?_; clear hf fa; intro fa hf
    refine sqv hf (r_move rfl) rfl rfl rfl ?_; clear hf fa; intro fa hf
    refine sqdt hf (d_callX (vs := [(.int .i64 ((k : Nat) : Int)), (.slice a l.length c)]) rfl Try.func13 (by kernel_rfl) (by kernel_rfl) (bars_any k hk1 hk2 a c l _ (RdS.ext hl hb) (by omega) hW)) rfl rfl rfl ?_; clear hf fa; rintro fa v w2 ⟨hr1, he2⟩ hf; obtain ⟨ra1, rc1, rfl, hcrc1, hmrc1⟩ := Row.slice hr1
    replace hr1 := Row.rebase hr1 hb.size
    replace hb := hb.trans (Below.mono he2 hb.size)
    refine sqv hf (r_assign rfl) rfl rfl rfl ?_; clear hf fa; intro fa hf
    apply wpList_nil
    (try simp only [Exit.then, Exit.inBlock, ↓reduceIte, Nat.reduceEqDiff])
    refine hK7 _ _ ?_
    refine wp_seq_k (fun K8 hK8 => ?_)
    refine wp_region_lit ?_
    refine sqv hf (r_assign rfl) rfl rfl rfl ?_; clear hf fa; intro fa hf
    apply wpList_nil
    (try simp only [Exit.then, Exit.inBlock, ↓reduceIte, Nat.reduceEqDiff])
    refine hK8 _ _ ?_
    refine wp_seq_k (fun K9 hK9 => ?_)
    refine wp_seq_k (fun K10 hK10 => ?_)
    refine wp_region_lit ?_
    refine sqv hf (r_assign rfl) rfl rfl rfl ?_; clear hf fa; intro fa hf
    apply wpList_nil
    (try simp only [Exit.then, Exit.inBlock, ↓reduceIte, Nat.reduceEqDiff])
    refine hK10 _ _ ?_
    refine wp_block ?_
    refine wp_loop_k (fun mq fa wr => ∃ (i : Nat) (rba : Option Addr) (rbc : Nat), mq = (barsP k l).length - i ∧ Fr 57 fa [(0, (.float .f64 qq)), (1, (.int .i64 ((k : Nat) : Int))), (2, (.slice a l.length c)), (8, (.int .i64 (((barsP k l).take i).sum))), (9, (.int .i64 ((i : Nat) : Int))), (7, (.slice rba (((barsP k l)).length) rbc))] ∧ Below w.heap.size w wr ∧ Row 1 (vInt .i64) 3 (w.heap.size) wr (.slice rba (((barsP k l)).length) rbc) (barsP k l) ∧ (i ≤ (barsP k l).length)) ?_ ?_
    · skip
      exact ⟨_, 0, ra1, rc1, rfl, hf.sub ⟨rfl, rfl, rfl, (some_int (by first | rfl | omega)), (some_int (by first | rfl | omega)), rfl, trivial⟩, hb, (Row.relen hr1), (by omega)⟩
    · skip
      clear hf fa; intro mq1 fa w3 hI KL1 hKL1
      clear hb
      clear hr1
      obtain ⟨i, rba, rbc, hmq1, hf, hb, hrb, hi⟩ := hI
      have hcrb := Row.caps hrb
      have hbl := barsP_len k l
      have hbb := bb_bars k l l.length
      rw [List.take_length] at hbb
      have hb100 : BB (barsP k l) 100 := fun j => by have := hbb j; omega
      have hsb := sum_bound hb100 i
      have hb9 := hb100 i
      refine wp_seq_k (fun K11 hK11 => ?_)
      refine wp_seq_k (fun K12 hK12 => ?_)
      refine wp_region_lit ?_
      refine sqv hf (r_move rfl) rfl rfl rfl ?_; clear hf fa; intro fa hf
      refine sqv hf (r_move rfl) rfl rfl rfl ?_; clear hf fa; intro fa hf
      refine sqv hf (r_lensl rfl Try.underlying31) rfl rfl rfl ?_; clear hf fa; intro fa hf
      refine sqv hf (r_lt rfl rfl) rfl rfl rfl ?_; clear hf fa; intro fa hf
      apply wpList_nil
      (try simp only [Exit.then, Exit.inBlock, ↓reduceIte, Nat.reduceEqDiff])
      refine hK12 _ _ ?_
      refine wp_cond_split (t := (decide (((i : Nat) : Int) < ((((barsP k l)).length : Nat) : Int)))) (hf.ev rfl) (fun hqt21_1 => ?_) (fun hqt21_1 => ?_)
      · have hqt21_1b := hqt21_1
        try simp only [decide_eq_true_eq, Bool.and_eq_true, Bool.or_eq_true, Bool.not_eq_true', decide_eq_false_iff_not, ne_eq, Bool.not_eq_true] at hqt21_1
        refine wp_skip ?_
        (try simp only [Exit.then, Exit.inBlock, ↓reduceIte, Nat.reduceEqDiff])
        refine hK11 _ _ ?_
        refine wp_seq_k (fun K13 hK13 => ?_)
        refine wp_block ?_
        refine wp_region_lit ?_
        refine sqv hf (r_move rfl) rfl rfl rfl ?_; clear hf fa; intro fa hf
        refine sqv hf (r_move rfl) rfl rfl rfl ?_; clear hf fa; intro fa hf
        refine sqv hf (r_move rfl) rfl rfl rfl ?_; clear hf fa; intro fa hf
        obtain ⟨rb1, rfl, hbbrb1, hlbrb1⟩ := Row.some hrb (by first | omega | (simp only [Sl.list_length, List.length_set, List.length_take, List.length_append, List.length_replicate, List.length_cons, List.length_nil, List.length_map, nums_len]; omega))
        have hy1 := getD_at (l := (barsP k l)) (j := i) (0 : Int) (by first | omega | (simp only [Sl.list_length, List.length_set, List.length_take, List.length_append, List.length_replicate, List.length_cons, List.length_nil, List.length_map, nums_len]; omega))
        have hel1 := RdS.at (Row.rd (by intros; rfl) hrb) hy1
        obtain ⟨_, _, hab, hlr1, hel1⟩ := hel1
        cases hab
        refine sqv hf (r_ixa (sz := 1) (j := i) rfl rfl Try.underlying31 (by kernel_rfl) rfl (by omega) rfl) rfl rfl rfl ?_; clear hf fa; intro fa hf
        refine sqv hf (r_load (v := (.int .i64 (((barsP k l).getD i (0 : Int))))) rfl Try.underlying3 rfl (cellsAt_cell hel1 (i := 0) rfl rfl)) rfl rfl rfl ?_; clear hf fa; intro fa hf
        refine sqv hf (r_add (C := ((((barsP k l).take i).sum) + (((barsP k l).getD i (0 : Int))))) rfl rfl (by rw [IntKind.wrap_i64]; omega)) rfl rfl rfl ?_; clear hf fa; intro fa hf
        refine sqv hf (r_assign rfl) rfl rfl rfl ?_; clear hf fa; intro fa hf
        apply wpList_nil
        (try simp only [Exit.then, Exit.inBlock, ↓reduceIte, Nat.reduceEqDiff])
        refine hK13 _ _ ?_
        refine wp_region_lit ?_
        refine sqv hf (r_move rfl) rfl rfl rfl ?_; clear hf fa; intro fa hf
        refine sqv hf (r_add (C := (((i : Nat) : Int) + (1 : Int))) rfl rfl (by rw [IntKind.wrap_i64]; omega)) rfl rfl rfl ?_; clear hf fa; intro fa hf
        refine sqv hf (r_assign rfl) rfl rfl rfl ?_; clear hf fa; intro fa hf
        apply wpList_nil
        (try simp only [Exit.then, Exit.inBlock, ↓reduceIte, Nat.reduceEqDiff])
        have hts := take_sum (barsP k l) i
        refine hKL1 _ _ _ (by omega) ⟨(i + 1), (some ⟨rb1, 0, none⟩), rbc, rfl, hf.sub ⟨rfl, rfl, rfl, (some_int (by first | rfl | omega)), (some_int (by first | rfl | omega)), rfl, trivial⟩, hb, (Row.relen hrb), (by omega)⟩
      · have hqt21_1b := hqt21_1
        replace hqt21_1 := Bool.eq_false_iff.1 hqt21_1
        try simp only [ne_eq, decide_eq_true_eq, Bool.and_eq_true, Bool.or_eq_true, Bool.not_eq_true', decide_eq_false_iff_not] at hqt21_1
        refine wp_exit ?_
        (try simp only [Exit.then, Exit.inBlock, ↓reduceIte, Nat.reduceEqDiff])
        refine hK9 _ _ ?_
        refine wp_seq_k (fun K14 hK14 => ?_)
        refine wp_seq_k (fun K15 hK15 => ?_)
        have hsm := sum_barsP (k := k) (by omega) l
        have hi9 : i = (barsP k l).length := by omega
        have hsum : ((barsP k l).take i).sum = ((numsL l).length : Nat) := by rw [hi9, List.take_length]; exact hsm
        refine wp_region_lit ?_
        refine sqv hf (r_move rfl) rfl rfl rfl ?_; clear hf fa; intro fa hf
        refine sqv hf (Runs.veq (r_ge rfl rfl) (congrArg Value.bool (show _ = true from (decide_eq_true (by omega))))) rfl rfl rfl ?_; clear hf fa; intro fa hf
        refine sqv hf (r_move rfl) rfl rfl rfl ?_; clear hf fa; intro fa hf
        refine sqgd (act := true) (g := 2) (want := true) (ag := true) (c := true) hf (by rfl) (by rfl) rfl (fun _ =>  Runs.does (R := fun vq wq => vq = (.int .i64 ((k : Nat) : Int)) ∧ w3 = wq) (r_move rfl) ⟨rfl, rfl⟩) (fun h => by cases h) rfl ?_; clear hf fa; rintro fa _ _ ⟨rfl, rfl⟩ hf
        change Fr _ _ ((33, (.int .i64 ((k : Nat) : Int))) :: _) at hf
        refine sqgd (act := true) (g := 2) (want := true) (ag := true) (c := true) hf (by rfl) (by rfl) rfl (fun _ =>  Runs.does (R := fun vq wq => vq = (.bool true) ∧ w3 = wq) (Runs.veq (r_le rfl rfl) (congrArg Value.bool (show _ = true from (decide_eq_true (by omega))))) ⟨rfl, rfl⟩) (fun h => by cases h) rfl ?_; clear hf fa; rintro fa _ _ ⟨rfl, rfl⟩ hf
        change Fr _ _ ((34, (.bool true)) :: _) at hf
        refine sqv hf (r_pick (b := true) rfl rfl rfl rfl) rfl rfl rfl ?_; clear hf fa; intro fa hf
        refine sqv hf (r_move rfl) rfl rfl rfl ?_; clear hf fa; intro fa hf
        refine sqgd (act := true) (g := 6) (want := true) (ag := true) (c := true) hf (by rfl) (by rfl) rfl (fun _ =>  Runs.does (R := fun vq wq => vq = (.int .i64 (((barsP k l).take i).sum)) ∧ w3 = wq) (r_move rfl) ⟨rfl, rfl⟩) (fun h => by cases h) rfl ?_; clear hf fa; rintro fa _ _ ⟨rfl, rfl⟩ hf
        change Fr _ _ ((37, (.int .i64 (((barsP k l).take i).sum))) :: _) at hf
        refine sqgd (act := true) (g := 6) (want := true) (ag := true) (c := true) hf (by rfl) (by rfl) rfl (fun _ =>  Runs.does (R := fun vq wq => vq = (.slice a l.length c) ∧ w3 = wq) (r_move rfl) ⟨rfl, rfl⟩) (fun h => by cases h) rfl ?_; clear hf fa; rintro fa _ _ ⟨rfl, rfl⟩ hf
        change Fr _ _ ((38, (.slice a l.length c)) :: _) at hf
        refine sqgd (act := true) (g := 6) (want := true) (ag := true) (c := true) hf (by rfl) (by rfl) rfl (fun _ =>  (d_callX (vs := [(.slice a l.length c)]) rfl Try.func14 (by kernel_rfl) (by kernel_rfl) (numbers_any a c l _ (RdS.ext hl hb) (by omega) hW)) ) (fun h => by cases h) rfl ?_; clear hf fa; rintro fa v w4 ⟨hr2, he3⟩ hf; obtain ⟨ra2, rc2, rfl, hcrc2, hmrc2⟩ := Row.slice hr2
        replace hr2 := Row.rebase hr2 hb.size
        replace hrb := Row.ext hrb he3
        replace hb := hb.trans (Below.mono he3 hb.size)
        change Fr _ _ ((39, (.slice ra2 (((numsL l)).length) rc2)) :: _) at hf
        refine sqgd (act := true) (g := 6) (want := true) (ag := true) (c := true) hf (by rfl) (by rfl) rfl (fun _ =>  Runs.does (R := fun vq wq => vq = (.int .i64 ((((numsL l)).length : Nat) : Int)) ∧ w4 = wq) (r_lensl rfl Try.underlying30) ⟨rfl, rfl⟩) (fun h => by cases h) rfl ?_; clear hf fa; rintro fa _ _ ⟨rfl, rfl⟩ hf
        change Fr _ _ ((40, (.int .i64 ((((numsL l)).length : Nat) : Int))) :: _) at hf
        refine sqgd (act := true) (g := 6) (want := true) (ag := true) (c := true) hf (by rfl) (by rfl) rfl (fun _ =>  Runs.does (R := fun vq wq => vq = (.bool false) ∧ w4 = wq) (Runs.veq (r_ne rfl rfl) (congrArg Value.bool (show _ = false from (decide_eq_false (by omega))))) ⟨rfl, rfl⟩) (fun h => by cases h) rfl ?_; clear hf fa; rintro fa _ _ ⟨rfl, rfl⟩ hf
        change Fr _ _ ((41, (.bool false)) :: _) at hf
        refine sqv hf (r_pick (b := true) rfl rfl rfl rfl) rfl rfl rfl ?_; clear hf fa; intro fa hf
        apply wpList_nil
        (try simp only [Exit.then, Exit.inBlock, ↓reduceIte, Nat.reduceEqDiff])
        refine hK15 _ _ ?_
        refine wp_cond_false (hf.ev rfl) ?_
        refine wp_skip ?_
        (try simp only [Exit.then, Exit.inBlock, ↓reduceIte, Nat.reduceEqDiff])
        refine hK14 _ _ ?_
        refine wp_seq_k (fun K16 hK16 => ?_)
        refine wp_region_lit ?_
        refine sqv hf (r_move rfl) rfl rfl rfl ?_; clear hf fa; intro fa hf
        refine sqv hf (r_move rfl) rfl rfl rfl ?_; clear hf fa; intro fa hf
        refine sqdt hf (d_callX (vs := [(.float .f64 qq), (.slice a l.length c)]) rfl Try.func15 (by kernel_rfl) (by kernel_rfl) (rank_any qq hqq a c l _ (RdS.ext hl hb) (by omega) hW)) rfl rfl rfl ?_; clear hf fa; rintro fa _ w5 ⟨⟨fk1, rfl, hfk1⟩, he4⟩ hf
        replace hrb := Row.ext hrb he4
        replace hr2 := Row.ext hr2 he4
        replace hb := hb.trans (Below.mono he4 hb.size)
        refine sqv hf (r_move rfl) rfl rfl rfl ?_; clear hf fa; intro fa hf
        refine sqv hf (r_move rfl) rfl rfl rfl ?_; clear hf fa; intro fa hf
        refine sqdt hf (d_callX (vs := [(.float .f64 qq), (.slice a l.length c)]) rfl Try.func16 (by kernel_rfl) (by kernel_rfl) (rrank_any qq hqq a c l _ (RdS.ext hl hb) (by omega) hW)) rfl rfl rfl ?_; clear hf fa; rintro fa _ w6 ⟨⟨fk2, rfl, hfk2⟩, he5⟩ hf
        replace hrb := Row.ext hrb he5
        replace hr2 := Row.ext hr2 he5
        replace hb := hb.trans (Below.mono he5 hb.size)
        refine sqdt hf (d_callB (vs := [(.float .f64 fk1), (.float .f64 fk2)]) rfl Try.func11 (by kernel_rfl) (by kernel_rfl) (Calls.mono (rsame_any fk1 fk2 hfk1.1 hfk2.1 _) (fun e w2 h => ⟨by rw [h.1, rank_tell hW hfk1 hfk2], h.2⟩))) rfl rfl rfl ?_; clear hf fa; rintro fa _ w7 ⟨rfl, he6⟩ hf
        replace hrb := Row.ext hrb he6
        replace hr2 := Row.ext hr2 he6
        replace hb := hb.trans (Below.mono he6 hb.size)
        refine sqv hf (r_move rfl) rfl rfl rfl ?_; clear hf fa; intro fa hf
        refine sqgd (act := true) (g := 7) (want := true) (ag := true) (c := true) hf (by rfl) (by rfl) rfl (fun _ =>  Runs.does (R := fun vq wq => vq = (.slice rba (((barsP k l)).length) rbc) ∧ w7 = wq) (r_move rfl) ⟨rfl, rfl⟩) (fun h => by cases h) rfl ?_; clear hf fa; rintro fa _ _ ⟨rfl, rfl⟩ hf
        change Fr _ _ ((51, (.slice rba (((barsP k l)).length) rbc)) :: _) at hf
        refine sqgd (act := true) (g := 7) (want := true) (ag := true) (c := true) hf (by rfl) (by rfl) rfl (fun _ =>  Runs.does (R := fun vq wq => vq = (.int .i64 ((k : Nat) : Int)) ∧ w7 = wq) (r_move rfl) ⟨rfl, rfl⟩) (fun h => by cases h) rfl ?_; clear hf fa; rintro fa _ _ ⟨rfl, rfl⟩ hf
        change Fr _ _ ((52, (.int .i64 ((k : Nat) : Int))) :: _) at hf
        refine sqgd (act := true) (g := 7) (want := true) (ag := true) (c := true) hf (by rfl) (by rfl) rfl (fun _ =>  Runs.does (R := fun vq wq => vq = (.slice a l.length c) ∧ w7 = wq) (r_move rfl) ⟨rfl, rfl⟩) (fun h => by cases h) rfl ?_; clear hf fa; rintro fa _ _ ⟨rfl, rfl⟩ hf
        change Fr _ _ ((53, (.slice a l.length c)) :: _) at hf
        refine sqgd (act := true) (g := 7) (want := true) (ag := true) (c := true) hf (by rfl) (by rfl) rfl (fun _ =>  (d_callX (vs := [(.int .i64 ((k : Nat) : Int)), (.slice a l.length c)]) rfl Try.func18 (by kernel_rfl) (by kernel_rfl) (rbars_any k hk1 hk2 a c l _ (RdS.ext hl hb) (by omega) hW)) ) (fun h => by cases h) rfl ?_; clear hf fa; rintro fa v w8 ⟨hr3, he7⟩ hf; obtain ⟨ra3, rc3, rfl, hcrc3, hmrc3⟩ := Row.slice hr3
        replace hr3 := Row.rebase hr3 hb.size
        replace hrb := Row.ext hrb he7
        replace hr2 := Row.ext hr2 he7
        replace hb := hb.trans (Below.mono he7 hb.size)
        change Fr _ _ ((54, (.slice ra3 (((barsP k l)).length) rc3)) :: _) at hf
        refine sqgd (act := true) (g := 7) (want := true) (ag := true) (c := true) hf (by rfl) (by rfl) rfl (fun _ =>  (d_callB (vs := [(.slice rba (((barsP k l)).length) rbc), (.slice ra3 (((barsP k l)).length) rc3)]) rfl Try.func17 (by kernel_rfl) (by kernel_rfl) (same27_any _ _ (barsP k l) _ _ _ (Row.rd (by intros; rfl) hrb) (Row.rd (by intros; rfl) hr3) (by rw [barsP_len]; omega))) ) (fun h => by cases h) rfl ?_; clear hf fa; rintro fa _ w9 ⟨rfl, he8⟩ hf
        replace hrb := Row.ext hrb he8
        replace hr2 := Row.ext hr2 he8
        replace hr3 := Row.ext hr3 he8
        replace hb := hb.trans (Below.mono he8 hb.size)
        change Fr _ _ ((55, (.bool true)) :: _) at hf
        refine sqv hf (r_pick (b := true) rfl rfl rfl rfl) rfl rfl rfl ?_; clear hf fa; intro fa hf
        refine sqv hf (r_assign rfl) rfl rfl rfl ?_; clear hf fa; intro fa hf
        apply wpList_nil
        (try simp only [Exit.then, Exit.inBlock, ↓reduceIte, Nat.reduceEqDiff])
        refine hK16 _ _ ?_
        refine wp_ret ?_
        (try simp only [Exit.then, Exit.inBlock])
        refine ret1 hf rfl rfl ?_
        exact ⟨rfl, hb⟩

set_option maxHeartbeats 1000000 in
set_option maxRecDepth 100000 in
theorem ranks_bad (qq : Nat) (hqq : qq < 18446744073709551616) (kk : Int) (hkk : kk < 1 ∨ 1000 < kk) (a : Option Addr) (c : Nat) (l : List Nat) (w : World) (hl : RdS 1 vFlt w a l) (hlm : l.length ≤ 9223372036854775807) (hW : allW l) : Calls Try.prog 4 #[(.float .f64 qq), (.int .i64 kk), (.slice a l.length c)] w fun e w' => e = .returned (.bool true) ∧ Below w.heap.size w w' := by
  refine sx_enter (L := [(0, (.float .f64 qq)), (1, (.int .i64 kk)), (2, (.slice a l.length c))]) Try.func4 rfl rfl rfl rfl (fun fa hf => ?_)
  have hb : Below w.heap.size w w := Below.refl _ _
  refine wp_seq_k (fun K1 hK1 => ?_)
  refine wp_region_lit ?_
  refine sqv hf (r_assign rfl) rfl rfl rfl ?_; clear hf fa; intro fa hf
  apply wpList_nil
  (try simp only [Exit.then, Exit.inBlock, ↓reduceIte, Nat.reduceEqDiff])
  refine hK1 _ _ ?_
  refine wp_seq_k (fun K2 hK2 => ?_)
  refine wp_seq_k (fun K3 hK3 => ?_)
  refine wp_region_lit ?_
  refine sqdt hf (d_callB (vs := []) rfl Try.func6 (by kernel_rfl) (by kernel_rfl) (awake48_any _)) rfl rfl rfl ?_; clear hf fa; rintro fa _ w1 ⟨rfl, he1⟩ hf
  replace hb := hb.trans (Below.mono he1 hb.size)
  refine sqv hf (Runs.veq (v' := (.bool false)) (r_not rfl) rfl) rfl rfl rfl ?_; clear hf fa; intro fa hf
  apply wpList_nil
  (try simp only [Exit.then, Exit.inBlock, ↓reduceIte, Nat.reduceEqDiff])
  refine hK3 _ _ ?_
  refine wp_cond_false (hf.ev rfl) ?_
  refine wp_skip ?_
  (try simp only [Exit.then, Exit.inBlock, ↓reduceIte, Nat.reduceEqDiff])
  refine hK2 _ _ ?_
  refine wp_seq_k (fun K4 hK4 => ?_)
  refine wp_seq_k (fun K5 hK5 => ?_)
  refine wp_region_lit ?_
  refine sqv hf (r_move rfl) rfl rfl rfl ?_; clear hf fa; intro fa hf
  refine sqv hf (r_lensl rfl Try.underlying30) rfl rfl rfl ?_; clear hf fa; intro fa hf
  refine sqv hf (r_gt rfl rfl) rfl rfl rfl ?_; clear hf fa; intro fa hf
  apply wpList_nil
  (try simp only [Exit.then, Exit.inBlock, ↓reduceIte, Nat.reduceEqDiff])
  refine hK5 _ _ ?_
  refine wp_cond_split (t := (decide ((100 : Int) < ((l.length : Nat) : Int)))) (hf.ev rfl) (fun hqt14_1 => ?_) (fun hqt14_1 => ?_)
  · have hqt14_1b := hqt14_1
    try simp only [decide_eq_true_eq, Bool.and_eq_true, Bool.or_eq_true, Bool.not_eq_true', decide_eq_false_iff_not, ne_eq, Bool.not_eq_true] at hqt14_1
    refine wp_seq_k (fun K6 hK6 => ?_)
    refine wp_region_lit ?_
    refine sqv hf (r_assign rfl) rfl rfl rfl ?_; clear hf fa; intro fa hf
    apply wpList_nil
    (try simp only [Exit.then, Exit.inBlock, ↓reduceIte, Nat.reduceEqDiff])
    refine hK6 _ _ ?_
    refine wp_ret ?_
    (try simp only [Exit.then, Exit.inBlock])
    refine ret1 hf rfl rfl ?_
    exact ⟨rfl, hb⟩
  · have hqt14_1b := hqt14_1
    replace hqt14_1 := Bool.eq_false_iff.1 hqt14_1
    try simp only [ne_eq, decide_eq_true_eq, Bool.and_eq_true, Bool.or_eq_true, Bool.not_eq_true', decide_eq_false_iff_not] at hqt14_1
    refine wp_skip ?_
    (try simp only [Exit.then, Exit.inBlock, ↓reduceIte, Nat.reduceEqDiff])
    refine hK4 _ _ ?_
    refine wp_seq_k (fun K7 hK7 => ?_)
    refine wp_region_lit ?_
    refine sqv hf (r_move rfl) rfl rfl rfl ?_; clear hf fa; intro fa hf
    refine sqv hf (r_move rfl) rfl rfl rfl ?_; clear hf fa; intro fa hf
    refine sqdt hf (d_callB (vs := [(.int .i64 kk), (.slice a l.length c)]) rfl Try.func13 (by kernel_rfl) (by kernel_rfl) (bars_none kk hkk a c l _ (RdS.ext hl hb) (by omega) hW)) rfl rfl rfl ?_; clear hf fa; rintro fa _ w2 ⟨rfl, he2⟩ hf
    replace hb := hb.trans (Below.mono he2 hb.size)
    refine sqv hf (r_assign rfl) rfl rfl rfl ?_; clear hf fa; intro fa hf
    apply wpList_nil
    (try simp only [Exit.then, Exit.inBlock, ↓reduceIte, Nat.reduceEqDiff])
    refine hK7 _ _ ?_
    refine wp_seq_k (fun K8 hK8 => ?_)
    refine wp_region_lit ?_
    refine sqv hf (r_assign rfl) rfl rfl rfl ?_; clear hf fa; intro fa hf
    apply wpList_nil
    (try simp only [Exit.then, Exit.inBlock, ↓reduceIte, Nat.reduceEqDiff])
    refine hK8 _ _ ?_
    refine wp_seq_k (fun K9 hK9 => ?_)
    refine wp_seq_k (fun K10 hK10 => ?_)
    refine wp_region_lit ?_
    refine sqv hf (r_assign rfl) rfl rfl rfl ?_; clear hf fa; intro fa hf
    apply wpList_nil
    (try simp only [Exit.then, Exit.inBlock, ↓reduceIte, Nat.reduceEqDiff])
    refine hK10 _ _ ?_
    refine wp_block ?_
    refine wp_loop_k (fun mq fa wr => mq = 0 ∧ Fr 57 fa [(0, (.float .f64 qq)), (1, (.int .i64 kk)), (2, (.slice a l.length c)), (7, (.slice none 0 0)), (8, (.int .i64 (0 : Int))), (9, (.int .i64 (0 : Int)))] ∧ Below w.heap.size w wr) ?_ ?_
    · skip
      exact ⟨_, rfl, hf.sub ⟨rfl, rfl, rfl, rfl, rfl, rfl, trivial⟩, hb⟩
    · skip
      clear hf fa; intro mq1 fa w3 hI KL1 hKL1
      clear hb
      obtain ⟨hmq1, hf, hb⟩ := hI
      refine wp_seq_k (fun K11 hK11 => ?_)
      refine wp_seq_k (fun K12 hK12 => ?_)
      refine wp_region_lit ?_
      refine sqv hf (r_move rfl) rfl rfl rfl ?_; clear hf fa; intro fa hf
      refine sqv hf (r_move rfl) rfl rfl rfl ?_; clear hf fa; intro fa hf
      refine sqv hf (r_lensl rfl Try.underlying31) rfl rfl rfl ?_; clear hf fa; intro fa hf
      refine sqv hf (r_lt rfl rfl) rfl rfl rfl ?_; clear hf fa; intro fa hf
      apply wpList_nil
      (try simp only [Exit.then, Exit.inBlock, ↓reduceIte, Nat.reduceEqDiff])
      refine hK12 _ _ ?_
      refine wp_cond_split (t := (decide ((0 : Int) < (0 : Int)))) (hf.ev rfl) (fun hqt21_1 => ?_) (fun hqt21_1 => ?_)
      · have hqt21_1b := hqt21_1
        try simp only [decide_eq_true_eq, Bool.and_eq_true, Bool.or_eq_true, Bool.not_eq_true', decide_eq_false_iff_not, ne_eq, Bool.not_eq_true] at hqt21_1
        exfalso; omega
      · have hqt21_1b := hqt21_1
        replace hqt21_1 := Bool.eq_false_iff.1 hqt21_1
        try simp only [ne_eq, decide_eq_true_eq, Bool.and_eq_true, Bool.or_eq_true, Bool.not_eq_true', decide_eq_false_iff_not] at hqt21_1
        refine wp_exit ?_
        (try simp only [Exit.then, Exit.inBlock, ↓reduceIte, Nat.reduceEqDiff])
        refine hK9 _ _ ?_
        refine wp_seq_k (fun K13 hK13 => ?_)
        refine wp_seq_k (fun K14 hK14 => ?_)
        refine wp_region_lit ?_
        refine sqv hf (r_move rfl) rfl rfl rfl ?_; clear hf fa; intro fa hf
        refine sqv hf (r_ge rfl rfl) rfl rfl rfl ?_; clear hf fa; intro fa hf
        refine sqv hf (r_move rfl) rfl rfl rfl ?_; clear hf fa; intro fa hf
        refine sqgT (act := (decide ((1 : Int) ≤ kk))) (ag := true) (c := (decide ((1 : Int) ≤ kk))) (v := (.int .i64 kk)) hf rfl rfl rfl (fun hact => (r_move rfl)) rfl rfl ?_; clear hf fa; intro fa hf
        refine sqgT (act := (decide ((1 : Int) ≤ kk))) (ag := true) (c := (decide ((1 : Int) ≤ kk))) (v := (.bool (decide (kk ≤ (1000 : Int))))) hf rfl rfl rfl (fun hact => (r_le (gb_ev hact rfl) rfl)) rfl rfl ?_; clear hf fa; intro fa hf
        refine sqv hf (Runs.veq (r_pickA (b := (decide ((1 : Int) ≤ kk))) (e := (decide (kk ≤ (1000 : Int)))) rfl rfl rfl) (congrArg Value.bool (show _ = false from (by rw [Bool.and_eq_false_iff, decide_eq_false_iff_not, decide_eq_false_iff_not]; omega)))) rfl rfl rfl ?_; clear hf fa; intro fa hf
        refine sqv hf (r_move rfl) rfl rfl rfl ?_; clear hf fa; intro fa hf
        refine sqgT (act := false) (ag := true) (c := false) (v := .bool false) hf rfl rfl rfl (fun hact => by cases hact) rfl rfl ?_; clear hf fa; intro fa hf
        refine sqgT (act := false) (ag := true) (c := false) (v := .bool false) hf rfl rfl rfl (fun hact => by cases hact) rfl rfl ?_; clear hf fa; intro fa hf
        refine sqgT (act := false) (ag := true) (c := false) (v := .bool false) hf rfl rfl rfl (fun hact => by cases hact) rfl rfl ?_; clear hf fa; intro fa hf
        refine sqgT (act := false) (ag := true) (c := false) (v := .bool false) hf rfl rfl rfl (fun hact => by cases hact) rfl rfl ?_; clear hf fa; intro fa hf
        refine sqgT (act := false) (ag := true) (c := false) (v := .bool false) hf rfl rfl rfl (fun hact => by cases hact) rfl rfl ?_; clear hf fa; intro fa hf
        refine sqv hf (r_pick (b := false) rfl rfl rfl rfl) rfl rfl rfl ?_; clear hf fa; intro fa hf
        apply wpList_nil
        (try simp only [Exit.then, Exit.inBlock, ↓reduceIte, Nat.reduceEqDiff])
        refine hK14 _ _ ?_
        refine wp_cond_false (hf.ev rfl) ?_
        refine wp_skip ?_
        (try simp only [Exit.then, Exit.inBlock, ↓reduceIte, Nat.reduceEqDiff])
        refine hK13 _ _ ?_
        refine wp_seq_k (fun K15 hK15 => ?_)
        refine wp_region_lit ?_
        refine sqv hf (r_move rfl) rfl rfl rfl ?_; clear hf fa; intro fa hf
        refine sqv hf (r_move rfl) rfl rfl rfl ?_; clear hf fa; intro fa hf
        refine sqdt hf (d_callX (vs := [(.float .f64 qq), (.slice a l.length c)]) rfl Try.func15 (by kernel_rfl) (by kernel_rfl) (rank_any qq hqq a c l _ (RdS.ext hl hb) (by omega) hW)) rfl rfl rfl ?_; clear hf fa; rintro fa _ w4 ⟨⟨fk1, rfl, hfk1⟩, he3⟩ hf
        replace hb := hb.trans (Below.mono he3 hb.size)
        refine sqv hf (r_move rfl) rfl rfl rfl ?_; clear hf fa; intro fa hf
        refine sqv hf (r_move rfl) rfl rfl rfl ?_; clear hf fa; intro fa hf
        refine sqdt hf (d_callX (vs := [(.float .f64 qq), (.slice a l.length c)]) rfl Try.func16 (by kernel_rfl) (by kernel_rfl) (rrank_any qq hqq a c l _ (RdS.ext hl hb) (by omega) hW)) rfl rfl rfl ?_; clear hf fa; rintro fa _ w5 ⟨⟨fk2, rfl, hfk2⟩, he4⟩ hf
        replace hb := hb.trans (Below.mono he4 hb.size)
        refine sqdt hf (d_callB (vs := [(.float .f64 fk1), (.float .f64 fk2)]) rfl Try.func11 (by kernel_rfl) (by kernel_rfl) (Calls.mono (rsame_any fk1 fk2 hfk1.1 hfk2.1 _) (fun e w2 h => ⟨by rw [h.1, rank_tell hW hfk1 hfk2], h.2⟩))) rfl rfl rfl ?_; clear hf fa; rintro fa _ w6 ⟨rfl, he5⟩ hf
        replace hb := hb.trans (Below.mono he5 hb.size)
        refine sqv hf (r_move rfl) rfl rfl rfl ?_; clear hf fa; intro fa hf
        refine sqgd (act := true) (g := 7) (want := true) (ag := true) (c := true) hf (by rfl) (by rfl) rfl (fun _ =>  Runs.does (R := fun vq wq => vq = (.slice none 0 0) ∧ w6 = wq) (r_move rfl) ⟨rfl, rfl⟩) (fun h => by cases h) rfl ?_; clear hf fa; rintro fa _ _ ⟨rfl, rfl⟩ hf
        change Fr _ _ ((51, (.slice none 0 0)) :: _) at hf
        refine sqgd (act := true) (g := 7) (want := true) (ag := true) (c := true) hf (by rfl) (by rfl) rfl (fun _ =>  Runs.does (R := fun vq wq => vq = (.int .i64 kk) ∧ w6 = wq) (r_move rfl) ⟨rfl, rfl⟩) (fun h => by cases h) rfl ?_; clear hf fa; rintro fa _ _ ⟨rfl, rfl⟩ hf
        change Fr _ _ ((52, (.int .i64 kk)) :: _) at hf
        refine sqgd (act := true) (g := 7) (want := true) (ag := true) (c := true) hf (by rfl) (by rfl) rfl (fun _ =>  Runs.does (R := fun vq wq => vq = (.slice a l.length c) ∧ w6 = wq) (r_move rfl) ⟨rfl, rfl⟩) (fun h => by cases h) rfl ?_; clear hf fa; rintro fa _ _ ⟨rfl, rfl⟩ hf
        change Fr _ _ ((53, (.slice a l.length c)) :: _) at hf
        refine sqgd (act := true) (g := 7) (want := true) (ag := true) (c := true) hf (by rfl) (by rfl) rfl (fun _ =>  (d_callB (vs := [(.int .i64 kk), (.slice a l.length c)]) rfl Try.func18 (by kernel_rfl) (by kernel_rfl) (rbars_none kk hkk a c l _ (RdS.ext hl hb) (by omega) hW)) ) (fun h => by cases h) rfl ?_; clear hf fa; rintro fa _ w7 ⟨rfl, he6⟩ hf
        replace hb := hb.trans (Below.mono he6 hb.size)
        change Fr _ _ ((54, (.slice none 0 0)) :: _) at hf
        refine sqgd (act := true) (g := 7) (want := true) (ag := true) (c := true) hf (by rfl) (by rfl) rfl (fun _ =>  (d_callB (vs := [(.slice none 0 0), (.slice none 0 0)]) rfl Try.func17 (by kernel_rfl) (by kernel_rfl) (same27_any _ _ [] _ _ _ RdS.nil RdS.nil (by decide))) ) (fun h => by cases h) rfl ?_; clear hf fa; rintro fa _ w8 ⟨rfl, he7⟩ hf
        replace hb := hb.trans (Below.mono he7 hb.size)
        change Fr _ _ ((55, (.bool true)) :: _) at hf
        refine sqv hf (r_pick (b := true) rfl rfl rfl rfl) rfl rfl rfl ?_; clear hf fa; intro fa hf
        refine sqv hf (r_assign rfl) rfl rfl rfl ?_; clear hf fa; intro fa hf
        apply wpList_nil
        (try simp only [Exit.then, Exit.inBlock, ↓reduceIte, Nat.reduceEqDiff])
        refine hK15 _ _ ?_
        refine wp_ret ?_
        (try simp only [Exit.then, Exit.inBlock])
        refine ret1 hf rfl rfl ?_
        exact ⟨rfl, hb⟩
end Go.Proofs.Ytbllifhcfgjdlaa
