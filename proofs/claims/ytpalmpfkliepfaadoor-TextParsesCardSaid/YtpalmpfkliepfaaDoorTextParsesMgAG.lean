/- What is proved here: a line read, by the document: creelref46.Parse. -/
import Derived.Test.YtpalmpfkliepfaaDoorTextParsesMgAF
namespace Go.Proofs.YtpalmpfkliepfaaDoor
open Go.RowKit Ut
set_option linter.unusedVariables false
set_option linter.unusedSimpArgs false
attribute [local irreducible] infP ofP chkP rchkP

theorem Below_go {B : Nat} {w0 w w1 : World} {b : Nat} {v : Value} (h : Below B w0 w) (h2 : GO w b v w1) (hB : B ≤ w.heap.size) (hm : B ≤ b) (hv : ∀ q, v.ownBlock = some q → B ≤ q) : Below B w0 w1 :=
  h.trans ⟨h2.os, h2.tape, h2.output, h2.size, fun k hk => h2.block k (by omega) (by rintro rfl; omega) (fun e => by have := hv k e.symm; omega)⟩
theorem cellsAt_go {w w1 : World} {b k o : Nat} {v : Value} {cs : List Value} (h : cellsAt w k o cs) (hg : GO w b v w1) (hl : k < w.heap.size) (h1 : k ≠ b) (h2 : v.ownBlock ≠ some k) : cellsAt w1 k o cs := fun j u hu => by
  have e := h j u hu
  have hb := hg.block k hl h1 (fun e => h2 e.symm)
  unfold World.cell? at e ⊢
  rw [hb]
  exact e
theorem rows_pos : 0 < (rowsT 256).length := by decide +kernel
theorem wd_size (s : ByteArray) (j : Nat) : (wd (wordsS s) j).size ≤ s.size := by
  unfold wd
  rw [List.getD_eq_getElem?_getD]
  cases hk : (wordsS s)[j]? with
  | none => exact Nat.zero_le _
  | some y => exact (words_len s).2.2 y (List.mem_of_getElem? hk)
def qO (s : ByteArray) : Int := if (findP (w0P s)).2 = true then ((opN s : Nat) : Int) else 0
def qA (s : ByteArray) : Int := if (findP (w0P s)).2 = true then rqA s else 0
def qB (s : ByteArray) : Int := if (findP (w0P s)).2 = true then rqB s else 0
def qL (s : ByteArray) : List Int := if (findP (w0P s)).2 = true then rqL s else []
theorem q_yes {s : ByteArray} (h : (findP (w0P s)).2 = true) : qO s = ((opN s : Nat) : Int) ∧ qA s = rqA s ∧ qB s = rqB s ∧ qL s = rqL s := by
  unfold qO qA qB qL
  rw [if_pos h, if_pos h, if_pos h, if_pos h]
  exact ⟨rfl, rfl, rfl, rfl⟩
theorem q_no {s : ByteArray} (h : (findP (w0P s)).2 = false) : qO s = 0 ∧ qA s = 0 ∧ qB s = 0 ∧ qL s = [] ∧ rK s = false := by
  have h2 : ¬ (findP (w0P s)).2 = true := by rw [h]; decide
  unfold qO qA qB qL rK
  rw [if_neg h2, if_neg h2, if_neg h2, if_neg h2, h]
  exact ⟨rfl, rfl, rfl, rfl, rfl⟩
theorem rK_is {s : ByteArray} {A B : Int} {L : List Int} (h : (findP (w0P s)).2 = true) (hA : rqA s = A) (hB : rqB s = B) (hL : rqL s = L) : rK s = decide (lineP (opN s) A B L = s) := by
  unfold rK
  rw [h, hA, hB, hL]; rfl

set_option maxHeartbeats 1000000 in
set_option maxRecDepth 100000 in
theorem rparse_any (s : ByteArray) (w : World) (hs : s.size ≤ 50000) : Calls Tryd.prog 12 #[(.string s)] w fun e w' => ∃ v, e = .returned v ∧ ∃ aL cL, v = (.tuple #[.agg #[.int .u8 (qO s), .int .u64 (qA s), .int .u64 (qB s), .slice aL (qL s).length cL], .bool (rK s)]) ∧ Row 1 (vInt .u32) 62 w.heap.size w' (.slice aL (qL s).length cL) (qL s) ∧ Below w.heap.size w w' := by
  have hop := (opN_lt s).1
  have hwn := words_len s
  have hwl : (wsP s).length = (wordsS s).length - 1 := by unfold wsP; rw [List.length_drop]
  have hrl := rowsT_len 256
  refine sx_enter (L := [(0, (.string s))]) Tryd.func12 rfl rfl rfl rfl (fun fa hf => ?_)
  have hb : Below w.heap.size w w := Below.refl _ _
  refine wp_seq_k (fun K1 hK1 => ?_)
  refine wp_region_lit ?_
  refine sqdt hf (d_alloc (z := (.agg #[(.int .u8 (0 : Int)), (.int .u64 (0 : Int)), (.int .u64 (0 : Int)), (.slice none 0 0)])) (cs := #[(.int .u8 (0 : Int)), (.int .u64 (0 : Int)), (.int .u64 (0 : Int)), (.slice none 0 0)]) (by kernel_rfl) rfl) rfl rfl rfl ?_; clear hf fa; rintro fa _ w1 ⟨b1, rfl, hle1, hk1, he1⟩ hf
  have hBb1 : w.heap.size ≤ b1 := Nat.le_trans hb.size hle1
  replace hb := hb.trans (Below.mono he1 hb.size)
  refine sqv hf (r_assign rfl) rfl rfl rfl ?_; clear hf fa; intro fa hf
  apply wpList_nil
  (try simp only [Exit.then, Exit.inBlock, ↓reduceIte, Nat.reduceEqDiff])
  refine hK1 _ _ ?_
  refine wp_seq_k (fun K2 hK2 => ?_)
  refine wp_region_lit ?_
  refine sqv hf (r_move rfl) rfl rfl rfl ?_; clear hf fa; intro fa hf
  refine sqdt hf (d_callX (vs := [(.string s)]) rfl Tryd.func31 (by kernel_rfl) (by kernel_rfl) (rwords_any s _ (by omega))) rfl rfl rfl ?_; clear hf fa; rintro fa v w2 ⟨hr1, he2⟩ hf; obtain ⟨ra1, rc1, rfl, hcrc1, hmrc1⟩ := Row.slice hr1
  replace hr1 := Row.rebase hr1 hb.size
  replace hk1 := blk_ext hk1 he2
  replace hb := hb.trans (Below.mono he2 hb.size)
  refine sqv hf (r_assign rfl) rfl rfl rfl ?_; clear hf fa; intro fa hf
  apply wpList_nil
  (try simp only [Exit.then, Exit.inBlock, ↓reduceIte, Nat.reduceEqDiff])
  refine hK2 _ _ ?_
  refine wp_seq_k (fun K3 hK3 => ?_)
  refine wp_region_lit ?_
  refine sqdt hf (d_callX (vs := []) rfl Tryd.func32 (by kernel_rfl) (by kernel_rfl) (rows_any _)) rfl rfl rfl ?_; clear hf fa; rintro fa v w3 ⟨hr2, he3⟩ hf; obtain ⟨ra2, rc2, rfl, hcrc2, hmrc2⟩ := Row.slice hr2
  replace hr2 := Row.rebase hr2 hb.size
  replace hk1 := blk_ext hk1 he3
  replace hr1 := Row.ext hr1 he3
  replace hb := hb.trans (Below.mono he3 hb.size)
  refine sqv hf (r_assign rfl) rfl rfl rfl ?_; clear hf fa; intro fa hf
  apply wpList_nil
  (try simp only [Exit.then, Exit.inBlock, ↓reduceIte, Nat.reduceEqDiff])
  refine hK3 _ _ ?_
  refine wp_seq_k (fun K4 hK4 => ?_)
  refine wp_seq_k (fun K5 hK5 => ?_)
  refine wp_region_lit ?_
  obtain ⟨rb1, rfl, hbbrb1, hlbrb1⟩ := Row.some hr1 (by first | exact rows_pos | omega)
  obtain ⟨rb2, rfl, hbbrb2, hlbrb2⟩ := Row.some hr2 (by first | exact rows_pos | omega)
  refine sqv hf (r_assign rfl) rfl rfl rfl ?_; clear hf fa; intro fa hf
  apply wpList_nil
  (try simp only [Exit.then, Exit.inBlock, ↓reduceIte, Nat.reduceEqDiff])
  refine hK5 _ _ ?_
  refine wp_block ?_
  refine wp_loop_k (fun mq fa wr => ∃ (k : Nat), mq = (rowsT 256).length - k ∧ Fr 112 fa [(0, (.string s)), (2, (.pointer (some ⟨b1, 0, none⟩))), (3, (.bool false)), (4, (.slice (some ⟨rb1, 0, none⟩) (((wordsS s)).length) rc1)), (5, (.slice (some ⟨rb2, 0, none⟩) (((rowsT 256)).length) rc2)), (6, (.int .i64 ((k : Nat) : Int)))] ∧ Below w.heap.size w wr ∧ Row 1 vStr 9 (w.heap.size) wr (.slice (some ⟨rb1, 0, none⟩) ((((wordsS s)).length)) rc1) (wordsS s) ∧ Row 6 vMGr 57 (w.heap.size) wr (.slice (some ⟨rb2, 0, none⟩) ((((rowsT 256)).length)) rc2) (rowsT 256) ∧ wr.heap[b1]? = some (.cells #[(.int .u8 (0 : Int)), (.int .u64 (0 : Int)), (.int .u64 (0 : Int)), (.slice none 0 0)] 25 (0, 0)) ∧ (k ≤ (rowsT 256).length) ∧ (∀ j, j < k → ∀ r, (rowsT 256)[j]? = some r → r.2.1 ≠ w0P s)) ?_ ?_
  · skip
    exact ⟨_, 0, rfl, hf.sub ⟨rfl, rfl, rfl, rfl, rfl, (some_int (by first | rfl | omega)), trivial⟩, hb, hr1, hr2, hk1, by omega, (fun j hj => absurd hj (Nat.not_lt_zero j))⟩
  · skip
    clear hf fa; intro mq1 fa w4 hI KL1 hKL1
    clear hb
    clear hk1
    clear hr1
    clear hr2
    obtain ⟨k, hmq1, hf, hb, hra1, hra2, hkb1, hk, hno⟩ := hI
    have hcra1 := Row.caps hra1
    have hcra2 := Row.caps hra2
    refine wp_seq_k (fun K6 hK6 => ?_)
    refine wp_seq_k (fun K7 hK7 => ?_)
    refine wp_region_lit ?_
    refine sqv hf (r_move rfl) rfl rfl rfl ?_; clear hf fa; intro fa hf
    refine sqv hf (r_move rfl) rfl rfl rfl ?_; clear hf fa; intro fa hf
    refine sqv hf (r_lensl rfl Tryd.underlying70) rfl rfl rfl ?_; clear hf fa; intro fa hf
    refine sqv hf (r_lt rfl rfl) rfl rfl rfl ?_; clear hf fa; intro fa hf
    apply wpList_nil
    (try simp only [Exit.then, Exit.inBlock, ↓reduceIte, Nat.reduceEqDiff])
    refine hK7 _ _ ?_
    refine wp_cond_split (t := (decide (((k : Nat) : Int) < (((((rowsT 256)).length) : Nat) : Int)))) (hf.ev rfl) (fun hqt16_1 => ?_) (fun hqt16_1 => ?_)
    · have hqt16_1b := hqt16_1
      try simp only [decide_eq_true_eq, Bool.and_eq_true, Bool.or_eq_true, Bool.not_eq_true', decide_eq_false_iff_not, ne_eq, Bool.not_eq_true] at hqt16_1
      refine wp_skip ?_
      (try simp only [Exit.then, Exit.inBlock, ↓reduceIte, Nat.reduceEqDiff])
      refine hK6 _ _ ?_
      refine wp_seq_k (fun K8 hK8 => ?_)
      refine wp_block ?_
      refine wp_seq_k (fun K9 hK9 => ?_)
      refine wp_seq_k (fun K10 hK10 => ?_)
      obtain ⟨r, hr⟩ : ∃ r, (rowsT 256)[k]? = some r := ⟨_, List.getElem?_eq_getElem (by omega)⟩
      have hy1 : ((rowsT 256))[k]? = some r := hr
      have hel1 := RdS.at (Row.rd (by intros; rfl) hra2) hy1
      obtain ⟨_, _, hab, hlr1, hel1⟩ := hel1
      cases hab
      have hy2 : ((wordsS s))[0]? = some (w0P s) := (wd_at (by omega))
      have hel2 := RdS.at (Row.rd (by intros; rfl) hra1) hy2
      obtain ⟨_, _, hab, hlr2, hel2⟩ := hel2
      cases hab
      refine wp_region_un (fun wq => Below w4.heap.size w4 wq) (fun w w' => Below w.heap.size w w')
        (fun V => [(fun x _ => x = (.slice (some ⟨rb2, 0, none⟩) ((((rowsT 256)).length)) rc2)), (fun x _ => x = (.int .i64 ((k : Nat) : Int))), (fun x _ => x = (.pointer (some ⟨rb2, (0 + k * 6), none⟩))), (fun x _ => x = (.pointer (some ⟨rb2, ((0 + k * 6) + 1), none⟩))), (fun x _ => x = (.string r.2.1)), (fun x _ => x = (.slice (some ⟨rb1, 0, none⟩) ((((wordsS s)).length)) rc1)), (fun x _ => x = (.pointer (some ⟨rb1, (0 + 0 * 1), none⟩))), (fun x _ => x = (.string (w0P s))), (fun x _ => x = (.bool (decide (r.2.1 ≠ (w0P s)))))])
        []
        [[], [], [0, 1], [2], [3], [], [5], [6], [4, 7]]
        hf (by kernel_rfl) (by kernel_rfl) (fun _ => rfl) ((Below.refl _ _).drew) (fun a b h1 h2 => h1.trans (h2.mono h1.size)) (fun _ _ h => h.size) (fun V => ⟨kept_eq, kept_eq, kept_eq, kept_eq, kept_eq, kept_eq, kept_eq, kept_eq, kept_eq, trivial⟩) (fun _ _ _ _ _ => rfl) ?_ ?_
      · skip
        intro V
        refine ⟨fun wu0 hC hd => ?_, ?_⟩
        · clear hd
          replace hb := hb.trans (hC.mono hb.size)
          replace hkb1 := blk_ext hkb1 hC
          replace hra1 := Row.ext hra1 hC
          replace hra2 := Row.ext hra2 hC
          exact Runs.does (r_move rfl) ⟨Below.refl _ _, rfl, nofr rfl⟩
        refine ⟨fun wu1 hC hd => ?_, ?_⟩
        · clear hd
          replace hb := hb.trans (hC.mono hb.size)
          replace hkb1 := blk_ext hkb1 hC
          replace hra1 := Row.ext hra1 hC
          replace hra2 := Row.ext hra2 hC
          exact Runs.does (r_move rfl) ⟨Below.refl _ _, rfl, nofr rfl⟩
        refine ⟨fun wu2 hC hd => ?_, ?_⟩
        · obtain ⟨h0, h1, _⟩ := hd
          skip
          skip
          replace h0 : V 0 = (.slice (some ⟨rb2, 0, none⟩) ((((rowsT 256)).length)) rc2) := h0
          replace h1 : V 1 = (.int .i64 ((k : Nat) : Int)) := h1
          replace hb := hb.trans (hC.mono hb.size)
          replace hkb1 := blk_ext hkb1 hC
          replace hra1 := Row.ext hra1 hC
          replace hra2 := Row.ext hra2 hC
          exact Runs.does (r_ixa (sz := 6) (j := k) (congrArg some h0) (congrArg some h1) Tryd.underlying70 (by kernel_rfl) rfl (by omega) rfl) ⟨Below.refl _ _, rfl, nofr rfl⟩
        refine ⟨fun wu3 hC hd => ?_, ?_⟩
        · obtain ⟨h2, _⟩ := hd
          skip
          replace h2 : V 2 = (.pointer (some ⟨rb2, (0 + k * 6), none⟩)) := h2
          replace hb := hb.trans (hC.mono hb.size)
          replace hkb1 := blk_ext hkb1 hC
          replace hra1 := Row.ext hra1 hC
          replace hra2 := Row.ext hra2 hC
          exact Runs.does (r_fa (congrArg some h2) Tryd.underlying57 (f := 1) (q := ((0 + k * 6) + 1)) rfl (by kernel_rfl) rfl) ⟨Below.refl _ _, rfl, nofr rfl⟩
        refine ⟨fun wu4 hC hd => ?_, ?_⟩
        · obtain ⟨h3, _⟩ := hd
          skip
          replace h3 : V 3 = (.pointer (some ⟨rb2, ((0 + k * 6) + 1), none⟩)) := h3
          replace hb := hb.trans (hC.mono hb.size)
          replace hkb1 := blk_ext hkb1 hC
          replace hra1 := Row.ext hra1 hC
          replace hra2 := Row.ext hra2 hC
          exact Runs.does (r_load (v := (.string r.2.1)) (congrArg some h3) Tryd.underlying9 rfl (cellsAt_cell (cellsAt_below hel1 hC hlr1) (i := 1) rfl rfl)) ⟨Below.refl _ _, rfl, nofr rfl⟩
        refine ⟨fun wu5 hC hd => ?_, ?_⟩
        · clear hd
          replace hb := hb.trans (hC.mono hb.size)
          replace hkb1 := blk_ext hkb1 hC
          replace hra1 := Row.ext hra1 hC
          replace hra2 := Row.ext hra2 hC
          exact Runs.does (r_move rfl) ⟨Below.refl _ _, rfl, nofr rfl⟩
        refine ⟨fun wu6 hC hd => ?_, ?_⟩
        · obtain ⟨h5, _⟩ := hd
          skip
          replace h5 : V 5 = (.slice (some ⟨rb1, 0, none⟩) ((((wordsS s)).length)) rc1) := h5
          replace hb := hb.trans (hC.mono hb.size)
          replace hkb1 := blk_ext hkb1 hC
          replace hra1 := Row.ext hra1 hC
          replace hra2 := Row.ext hra2 hC
          exact Runs.does (r_ixa (sz := 1) (j := 0) (congrArg some h5) rfl Tryd.underlying43 (by kernel_rfl) rfl (by omega) rfl) ⟨Below.refl _ _, rfl, nofr rfl⟩
        refine ⟨fun wu7 hC hd => ?_, ?_⟩
        · obtain ⟨h6, _⟩ := hd
          skip
          replace h6 : V 6 = (.pointer (some ⟨rb1, (0 + 0 * 1), none⟩)) := h6
          replace hb := hb.trans (hC.mono hb.size)
          replace hkb1 := blk_ext hkb1 hC
          replace hra1 := Row.ext hra1 hC
          replace hra2 := Row.ext hra2 hC
          exact Runs.does (r_load (v := (.string (w0P s))) (congrArg some h6) Tryd.underlying9 rfl (cellsAt_cell (cellsAt_below hel2 hC hlr2) (i := 0) rfl rfl)) ⟨Below.refl _ _, rfl, nofr rfl⟩
        refine ⟨fun wu8 hC hd => ?_, ?_⟩
        · obtain ⟨h4, h7, _⟩ := hd
          skip
          skip
          replace h4 : V 4 = (.string r.2.1) := h4
          replace h7 : V 7 = (.string (w0P s)) := h7
          replace hb := hb.trans (hC.mono hb.size)
          replace hkb1 := blk_ext hkb1 hC
          replace hra1 := Row.ext hra1 hC
          replace hra2 := Row.ext hra2 hC
          exact Runs.does (r_sne (congrArg some h4) (congrArg some h7)) ⟨Below.refl _ _, rfl, nofr rfl⟩
        trivial
      · skip
        clear hf fa; intro V w5 fa he4 hp hnb hf
        have hv0 : V 0 = (.slice (some ⟨rb2, 0, none⟩) ((((rowsT 256)).length)) rc2) := postsHold_at hp 0 rfl
        have hv1 : V 1 = (.int .i64 ((k : Nat) : Int)) := postsHold_at hp 1 rfl
        have hv2 : V 2 = (.pointer (some ⟨rb2, (0 + k * 6), none⟩)) := postsHold_at hp 2 rfl
        have hv3 : V 3 = (.pointer (some ⟨rb2, ((0 + k * 6) + 1), none⟩)) := postsHold_at hp 3 rfl
        have hv4 : V 4 = (.string r.2.1) := postsHold_at hp 4 rfl
        have hv5 : V 5 = (.slice (some ⟨rb1, 0, none⟩) ((((wordsS s)).length)) rc1) := postsHold_at hp 5 rfl
        have hv6 : V 6 = (.pointer (some ⟨rb1, (0 + 0 * 1), none⟩)) := postsHold_at hp 6 rfl
        have hv7 : V 7 = (.string (w0P s)) := postsHold_at hp 7 rfl
        have hv8 : V 8 = (.bool (decide (r.2.1 ≠ (w0P s)))) := postsHold_at hp 8 rfl
        simp only [List.take_succ_cons, List.take_zero, insAll, ins, hv0, hv1, hv2, hv3, hv4, hv5, hv6, hv7, hv8] at hf
        clear hp hnb hv0 hv1 hv2 hv3 hv4 hv5 hv6 hv7 hv8
        replace hkb1 := blk_ext hkb1 he4
        replace hra1 := Row.ext hra1 he4
        replace hra2 := Row.ext hra2 he4
        replace hb := hb.trans (Below.mono he4 hb.size)
        (try simp only [Exit.then, Exit.inBlock, ↓reduceIte, Nat.reduceEqDiff])
        refine hK10 _ _ ?_
        refine wp_cond_split (t := (decide (r.2.1 ≠ (w0P s)))) (hf.ev rfl) (fun hqt27_1 => ?_) (fun hqt27_1 => ?_)
        · have hqt27_1b := hqt27_1
          try simp only [decide_eq_true_eq, Bool.and_eq_true, Bool.or_eq_true, Bool.not_eq_true', decide_eq_false_iff_not, ne_eq, Bool.not_eq_true] at hqt27_1
          refine wp_exit ?_
          (try simp only [Exit.then, Exit.inBlock, ↓reduceIte, Nat.reduceEqDiff])
          refine hK8 _ _ ?_
          refine wp_region_lit ?_
          refine sqv hf (r_move rfl) rfl rfl rfl ?_; clear hf fa; intro fa hf
          refine sqv hf (r_add (C := (((k : Nat) : Int) + (1 : Int))) rfl rfl (by rw [IntKind.wrap_i64]; omega)) rfl rfl rfl ?_; clear hf fa; intro fa hf
          refine sqv hf (r_assign rfl) rfl rfl rfl ?_; clear hf fa; intro fa hf
          apply wpList_nil
          (try simp only [Exit.then, Exit.inBlock, ↓reduceIte, Nat.reduceEqDiff])
          refine hKL1 _ _ _ (by omega) ⟨(k + 1), rfl, hf.sub ⟨rfl, rfl, rfl, (some_sl (by first | omega | rfl | (simp only [List.length_append, List.length_cons, List.length_nil]; omega) | (simp <;> omega)) rfl), (some_sl (by first | omega | rfl | (simp only [List.length_append, List.length_cons, List.length_nil]; omega) | (simp <;> omega)) rfl), (some_int (by first | rfl | omega)), trivial⟩, hb, hra1, hra2, hkb1, by omega, (fun j hj r2 hr2 => by rcases Nat.lt_or_ge j k with h | h; exact hno j h r2 hr2; have e : j = k := (by omega); rw [e] at hr2; obtain rfl := Option.some.inj (hr.symm.trans hr2); exact hqt27_1)⟩
        · have hqt27_1b := hqt27_1
          replace hqt27_1 := Bool.eq_false_iff.1 hqt27_1
          try simp only [ne_eq, decide_eq_true_eq, Bool.and_eq_true, Bool.or_eq_true, Bool.not_eq_true', decide_eq_false_iff_not] at hqt27_1
          refine wp_skip ?_
          (try simp only [Exit.then, Exit.inBlock, ↓reduceIte, Nat.reduceEqDiff])
          refine hK9 _ _ ?_
          refine wp_seq_k (fun K11 hK11 => ?_)
          have hh := row_hit hr (Classical.not_not.1 hqt27_1)
          refine wp_region_lit ?_
          refine sqv hf (r_move rfl) rfl rfl rfl ?_; clear hf fa; intro fa hf
          refine sqv hf (r_move rfl) rfl rfl rfl ?_; clear hf fa; intro fa hf
          have hy3 : ((rowsT 256))[k]? = some r := hr
          have hel3 := RdS.at (Row.rd (by intros; rfl) hra2) hy3
          obtain ⟨_, _, hab, hlr3, hel3⟩ := hel3
          cases hab
          refine sqv hf (r_ixa (sz := 6) (j := k) rfl rfl Tryd.underlying70 (by kernel_rfl) rfl (by omega) rfl) rfl rfl rfl ?_; clear hf fa; intro fa hf
          refine sqv hf (r_fa rfl Tryd.underlying57 (f := 0) (q := (0 + k * 6)) rfl (by kernel_rfl) rfl) rfl rfl rfl ?_; clear hf fa; intro fa hf
          refine sqv hf (r_load (v := (.int .i64 r.1)) rfl Tryd.underlying3 rfl (cellsAt_cell hel3 (i := 0) rfl rfl)) rfl rfl rfl ?_; clear hf fa; intro fa hf
          refine sqv hf (r_conv (C := (((opN s : Nat) : Int))) rfl Tryd.underlying3 Tryd.underlying5 (by rw [hh.2.1, IntKind.wrap_u8]; omega)) rfl rfl rfl ?_; clear hf fa; intro fa hf
          refine sqv hf (r_build (vs := [(0, (.int .u8 (((opN s : Nat) : Int))))]) (cs := #[(.int .u8 (((opN s : Nat) : Int))), (.int .u64 (0 : Int)), (.int .u64 (0 : Int)), (.slice none 0 0)]) rfl (fun _ => by kernel_rfl)) rfl rfl rfl ?_; clear hf fa; intro fa hf
          refine sqdt hf (d_alloc (z := (.agg #[(.int .u8 (0 : Int)), (.int .u64 (0 : Int)), (.int .u64 (0 : Int)), (.slice none 0 0)])) (cs := #[(.int .u8 (0 : Int)), (.int .u64 (0 : Int)), (.int .u64 (0 : Int)), (.slice none 0 0)]) (by kernel_rfl) rfl) rfl rfl rfl ?_; clear hf fa; rintro fa _ w6 ⟨b2, rfl, hle2, hk2, he5⟩ hf
          have hBb2 : w.heap.size ≤ b2 := Nat.le_trans hb.size hle2
          have : b1 < b2 := Nat.lt_of_lt_of_le (blk_lt hkb1) hle2
          have : rb1 < b2 := Nat.lt_of_lt_of_le (Row.lt hra1 _ rfl).2 hle2
          have : rb2 < b2 := Nat.lt_of_lt_of_le (Row.lt hra2 _ rfl).2 hle2
          replace hkb1 := blk_ext hkb1 he5
          replace hra1 := Row.ext hra1 he5
          replace hra2 := Row.ext hra2 he5
          replace hb := hb.trans (Below.mono he5 hb.size)
          refine sqn hf (d_storeK (T := 25) (v := (.agg #[(.int .u8 (((opN s : Nat) : Int))), (.int .u64 (0 : Int)), (.int .u64 (0 : Int)), (.slice none 0 0)])) (cs := #[(.int .u8 (0 : Int)), (.int .u64 (0 : Int)), (.int .u64 (0 : Int)), (.slice none 0 0)]) (cs' := #[(.int .u8 (((opN s : Nat) : Int))), (.int .u64 (0 : Int)), (.int .u64 (0 : Int)), (.slice none 0 0)]) rfl rfl (by kernel_rfl) (by kernel_rfl) hk2 (by kernel_rfl) (by kernel_rfl)) rfl rfl ?_; clear hf fa; rintro fa _ w7 ⟨hk3, hg1⟩ hf
          replace hkb1 := blk_grown hkb1 hg1 (by omega)
          replace hra1 := Row.grown hra1 hg1 (Row.ne_type hra1 hk2 rfl)
          replace hra2 := Row.grown hra2 hg1 (Row.ne_type hra2 hk2 rfl)
          replace hb := hb.trans (grown_below hg1 hb.size hBb2)
          apply wpList_nil
          (try simp only [Exit.then, Exit.inBlock, ↓reduceIte, Nat.reduceEqDiff])
          refine hK11 _ _ ?_
          refine wp_seq_k (fun K12 hK12 => ?_)
          refine wp_region_lit ?_
          refine sqv hf (r_move rfl) rfl rfl rfl ?_; clear hf fa; intro fa hf
          refine sqv hf (r_move rfl) rfl rfl rfl ?_; clear hf fa; intro fa hf
          refine sqv hf (r_lensl rfl Tryd.underlying43) rfl rfl rfl ?_; clear hf fa; intro fa hf
          refine sqv hf (r_sub (C := ((((((wordsS s)).length) : Nat) : Int) - (1 : Int))) rfl rfl (by rw [IntKind.wrap_i64]; omega)) rfl rfl rfl ?_; clear hf fa; intro fa hf
          have hy4 : ((wordsS s))[(((((wordsS s)).length)) - 1)]? = some (lastP s) := (wd_at (by omega))
          have hel4 := RdS.at (Row.rd (by intros; rfl) hra1) hy4
          obtain ⟨_, _, hab, hlr4, hel4⟩ := hel4
          cases hab
          refine sqv hf (r_ixa (sz := 1) (j := (((((wordsS s)).length)) - 1)) rfl rfl Tryd.underlying43 (by kernel_rfl) (by omega) (by omega) rfl) rfl rfl rfl ?_; clear hf fa; intro fa hf
          refine sqv hf (r_load (v := (.string (lastP s))) rfl Tryd.underlying9 rfl (cellsAt_cell hel4 (i := 0) rfl rfl)) rfl rfl rfl ?_; clear hf fa; intro fa hf
          refine sqv hf (r_assign rfl) rfl rfl rfl ?_; clear hf fa; intro fa hf
          apply wpList_nil
          (try simp only [Exit.then, Exit.inBlock, ↓reduceIte, Nat.reduceEqDiff])
          refine hK12 _ _ ?_
          refine wp_seq_k (fun K13 hK13 => ?_)
          refine wp_seq_k (fun K14 hK14 => ?_)
          refine wp_region_lit ?_
          refine sqv hf (r_move rfl) rfl rfl rfl ?_; clear hf fa; intro fa hf
          refine sqv hf (r_move rfl) rfl rfl rfl ?_; clear hf fa; intro fa hf
          have hy5 : ((rowsT 256))[k]? = some r := hr
          have hel5 := RdS.at (Row.rd (by intros; rfl) hra2) hy5
          obtain ⟨_, _, hab, hlr5, hel5⟩ := hel5
          cases hab
          refine sqv hf (r_ixa (sz := 6) (j := k) rfl rfl Tryd.underlying70 (by kernel_rfl) rfl (by omega) rfl) rfl rfl rfl ?_; clear hf fa; intro fa hf
          refine sqv hf (r_fa rfl Tryd.underlying57 (f := 2) (q := ((0 + k * 6) + 2)) rfl (by kernel_rfl) rfl) rfl rfl rfl ?_; clear hf fa; intro fa hf
          refine sqv hf (Runs.veq (v' := (.int .i64 (((infP (opN s)).2.1)))) (r_load (v := (.int .i64 r.2.2.1)) rfl Tryd.underlying3 rfl (cellsAt_cell hel5 (i := 2) rfl rfl)) (congrArg (Value.int .i64) hh.2.2)) rfl rfl rfl ?_; clear hf fa; intro fa hf
          apply wpList_nil
          (try simp only [Exit.then, Exit.inBlock, ↓reduceIte, Nat.reduceEqDiff])
          refine hK14 _ _ ?_
          refine wp_block ?_
          refine wp_seq_k (fun K15 hK15 => ?_)
          refine wp_seq_k (fun K16 hK16 => ?_)
          refine wp_region_lit ?_
          refine sqv hf (r_eq rfl rfl) rfl rfl rfl ?_; clear hf fa; intro fa hf
          refine sqv hf (r_assign rfl) rfl rfl rfl ?_; clear hf fa; intro fa hf
          apply wpList_nil
          (try simp only [Exit.then, Exit.inBlock, ↓reduceIte, Nat.reduceEqDiff])
          refine hK16 _ _ ?_
          refine wp_cond_split (t := (decide ((((infP (opN s)).2.1)) = (0 : Int)))) (hf.ev rfl) (fun hqt49_1 => ?_) (fun hqt49_1 => ?_)
          · have hqt49_1b := hqt49_1
            try simp only [decide_eq_true_eq, Bool.and_eq_true, Bool.or_eq_true, Bool.not_eq_true', decide_eq_false_iff_not, ne_eq, Bool.not_eq_true] at hqt49_1
            refine wp_skip ?_
            (try simp only [Exit.then, Exit.inBlock, ↓reduceIte, Nat.reduceEqDiff])
            refine hK15 _ _ ?_
            refine wp_cond_true ((hf.ev rfl).trans (congrArg Value.bool (show (decide ((((infP (opN s)).2.1)) = (0 : Int))) = true from hqt49_1b))) ?_
            refine wp_skip ?_
            (try simp only [Exit.then, Exit.inBlock, ↓reduceIte, Nat.reduceEqDiff])
            refine hK13 _ _ ?_
            refine wp_seq_k (fun K17 hK17 => ?_)
            skip
            have hne_hel4 : rb1 ≠ b1 := fun e => (Row.ne_type hra1 hkb1 rfl) (congrArg some e)
            have hne_hel5 : rb2 ≠ b1 := fun e => (Row.ne_type hra2 hkb1 rfl) (congrArg some e)
            refine wp_region_unT 6 (fun wc => (w7.grownBy wc (some b1) ∧ (wc.heap[b1]? = some (.cells #[(.int .u8 (0 : Int)), (.int .u64 (0 : Int)), (.int .u64 (0 : Int)), (.slice none 0 0)] 25 (0, 0)) ∨ wc.heap[b1]? = some (.cells #[(.int .u8 (((opN s : Nat) : Int))), (.int .u64 (0 : Int)), (.int .u64 (0 : Int)), (.slice none 0 0)] 25 (0, 0))))) (fun wa wc => ((w7.grownBy wa (some b1) ∧ (wa.heap[b1]? = some (.cells #[(.int .u8 (0 : Int)), (.int .u64 (0 : Int)), (.int .u64 (0 : Int)), (.slice none 0 0)] 25 (0, 0)) ∨ wa.heap[b1]? = some (.cells #[(.int .u8 (((opN s : Nat) : Int))), (.int .u64 (0 : Int)), (.int .u64 (0 : Int)), (.slice none 0 0)] 25 (0, 0)))) → (w7.grownBy wc (some b1) ∧ (wc.heap[b1]? = some (.cells #[(.int .u8 (0 : Int)), (.int .u64 (0 : Int)), (.int .u64 (0 : Int)), (.slice none 0 0)] 25 (0, 0)) ∨ wc.heap[b1]? = some (.cells #[(.int .u8 (((opN s : Nat) : Int))), (.int .u64 (0 : Int)), (.int .u64 (0 : Int)), (.slice none 0 0)] 25 (0, 0))))) ∧ wa.heap.size ≤ wc.heap.size ∧ (wa.heap[b1]? = some (.cells #[(.int .u8 (((opN s : Nat) : Int))), (.int .u64 (0 : Int)), (.int .u64 (0 : Int)), (.slice none 0 0)] 25 (0, 0)) → wc.heap[b1]? = some (.cells #[(.int .u8 (((opN s : Nat) : Int))), (.int .u64 (0 : Int)), (.int .u64 (0 : Int)), (.slice none 0 0)] 25 (0, 0))))
              (fun V => [(fun x _ => x = (.agg #[(.int .u8 (((opN s : Nat) : Int))), (.int .u64 (0 : Int)), (.int .u64 (0 : Int)), (.slice none 0 0)])), (fun x _ => x = (.agg #[(.int .u8 (((opN s : Nat) : Int))), (.int .u64 (0 : Int)), (.int .u64 (0 : Int)), (.slice none 0 0)])), (fun x _ => x = (.string (lineP (opN s) (0 : Int) (0 : Int) []))), (fun x _ => x = (.string s)), (fun x _ => x = (.bool (decide ((lineP (opN s) (0 : Int) (0 : Int) []) = s)))), (fun _ wq => wq.heap[b1]? = some (.cells #[(.int .u8 (((opN s : Nat) : Int))), (.int .u64 (0 : Int)), (.int .u64 (0 : Int)), (.slice none 0 0)] 25 (0, 0)))])
              []
              [[], [], [1], [], [2, 3], [0, 2], []]
              hf (by kernel_rfl) (by kernel_rfl) (by kernel_rfl) (fun _ => rfl) ⟨below_grown (Below.refl _ _).drew, .inl (blk_ext hkb1 (Below.refl _ _).drew)⟩ (fun a b h1 h2 => h2.1 h1) (fun _ _ h => h.2.1) (fun V => ⟨(fun _ _ _ h _ => h), (fun _ _ _ h _ => h), (fun _ _ _ h _ => h), (fun _ _ _ h _ => h), (fun _ _ _ h _ => h), (fun _ _ _ h hG => hG.2.2 h), trivial⟩) (fun _ _ _ _ _ => rfl) ?_ ?_
            · skip
              intro V
              refine ⟨fun wu0 hC hd => ?_, ?_⟩
              · clear hd
                have hgC := hC.1
                replace hk3 := blk_grown hk3 hgC (by omega)
                replace hra1 := Row.grown hra1 hgC (Row.ne_type hra1 hkb1 rfl)
                replace hra2 := Row.grown hra2 hgC (Row.ne_type hra2 hkb1 rfl)
                replace hb := hb.trans (grown_below hgC hb.size hBb1)
                exact Runs.does (r_loadA (cs := [(.int .u8 (((opN s : Nat) : Int))), (.int .u64 (0 : Int)), (.int .u64 (0 : Int)), (.slice none 0 0)]) rfl Tryd.underlying25 rfl (by kernel_rfl) (cellsAt_blk hk3)) ⟨⟨id, Nat.le_refl _, id⟩, rfl, nofr rfl⟩
              refine ⟨fun wu1 hC hd => ?_, ?_⟩
              · clear hd
                have hgC := hC.1
                replace hk3 := blk_grown hk3 hgC (by omega)
                replace hra1 := Row.grown hra1 hgC (Row.ne_type hra1 hkb1 rfl)
                replace hra2 := Row.grown hra2 hgC (Row.ne_type hra2 hkb1 rfl)
                replace hb := hb.trans (grown_below hgC hb.size hBb1)
                exact Runs.does (r_loadA (cs := [(.int .u8 (((opN s : Nat) : Int))), (.int .u64 (0 : Int)), (.int .u64 (0 : Int)), (.slice none 0 0)]) rfl Tryd.underlying25 rfl (by kernel_rfl) (cellsAt_blk hk3)) ⟨⟨id, Nat.le_refl _, id⟩, rfl, nofr rfl⟩
              refine ⟨fun wu2 hC hd => ?_, ?_⟩
              · obtain ⟨h1, _⟩ := hd
                replace h1 : V 1 = (.agg #[(.int .u8 (((opN s : Nat) : Int))), (.int .u64 (0 : Int)), (.int .u64 (0 : Int)), (.slice none 0 0)]) := h1
                have hgC := hC.1
                replace hk3 := blk_grown hk3 hgC (by omega)
                replace hra1 := Row.grown hra1 hgC (Row.ne_type hra1 hkb1 rfl)
                replace hra2 := Row.grown hra2 hgC (Row.ne_type hra2 hkb1 rfl)
                replace hb := hb.trans (grown_below hgC hb.size hBb1)
                refine Does.mono (d_callB (vs := [(.agg #[(.int .u8 (((opN s : Nat) : Int))), (.int .u64 (0 : Int)), (.int .u64 (0 : Int)), (.slice none 0 0)])]) (show [some (V 1)] = [some (.agg #[(.int .u8 (((opN s : Nat) : Int))), (.int .u64 (0 : Int)), (.int .u64 (0 : Int)), (.slice none 0 0)])] from by rw [h1]) Tryd.func8 (by kernel_rfl) (by kernel_rfl) (rline_any (opN s) (0 : Int) (0 : Int) [] none 0 _ RdS.nil (fun y hy => by cases hy) hop (by first | decide | exact tailP_rng _ _ | omega) (by first | decide | exact tailP_rng _ _ | omega) (Nat.le_refl 0) (by decide))) (fun _ _ h => ⟨⟨fun hc => ⟨grown_trans hc.1 (below_grown h.2), hc.2.imp (fun z => blk_ext z h.2) (fun z => blk_ext z h.2)⟩, h.2.size, fun z => blk_ext z h.2⟩, h.1, nofr rfl⟩)
              refine ⟨fun wu3 hC hd => ?_, ?_⟩
              · clear hd
                have hgC := hC.1
                replace hk3 := blk_grown hk3 hgC (by omega)
                replace hra1 := Row.grown hra1 hgC (Row.ne_type hra1 hkb1 rfl)
                replace hra2 := Row.grown hra2 hgC (Row.ne_type hra2 hkb1 rfl)
                replace hb := hb.trans (grown_below hgC hb.size hBb1)
                exact Runs.does (r_move rfl) ⟨⟨id, Nat.le_refl _, id⟩, rfl, nofr rfl⟩
              refine ⟨fun wu4 hC hd => ?_, ?_⟩
              · obtain ⟨h2, h3, _⟩ := hd
                replace h2 : V 2 = (.string (lineP (opN s) (0 : Int) (0 : Int) [])) := h2
                replace h3 : V 3 = (.string s) := h3
                have hgC := hC.1
                replace hk3 := blk_grown hk3 hgC (by omega)
                replace hra1 := Row.grown hra1 hgC (Row.ne_type hra1 hkb1 rfl)
                replace hra2 := Row.grown hra2 hgC (Row.ne_type hra2 hkb1 rfl)
                replace hb := hb.trans (grown_below hgC hb.size hBb1)
                exact Runs.does (r_seq (congrArg some h2) (congrArg some h3)) ⟨⟨id, Nat.le_refl _, id⟩, rfl, nofr rfl⟩
              refine ⟨fun wu5 hC hd => ?_, ?_⟩
              · obtain ⟨h0, h2, _⟩ := hd
                replace h0 : V 0 = (.agg #[(.int .u8 (((opN s : Nat) : Int))), (.int .u64 (0 : Int)), (.int .u64 (0 : Int)), (.slice none 0 0)]) := h0
                replace h2 : V 2 = (.string (lineP (opN s) (0 : Int) (0 : Int) [])) := h2
                have hgC := hC.1
                replace hk3 := blk_grown hk3 hgC (by omega)
                replace hra1 := Row.grown hra1 hgC (Row.ne_type hra1 hkb1 rfl)
                replace hra2 := Row.grown hra2 hgC (Row.ne_type hra2 hkb1 rfl)
                replace hb := hb.trans (grown_below hgC hb.size hBb1)
                rcases hC.2 with hX | hX
                · refine Does.mono (d_storeK (T := 25) (v := (.agg #[(.int .u8 (((opN s : Nat) : Int))), (.int .u64 (0 : Int)), (.int .u64 (0 : Int)), (.slice none 0 0)])) (cs := #[(.int .u8 (0 : Int)), (.int .u64 (0 : Int)), (.int .u64 (0 : Int)), (.slice none 0 0)]) (cs' := #[(.int .u8 (((opN s : Nat) : Int))), (.int .u64 (0 : Int)), (.int .u64 (0 : Int)), (.slice none 0 0)]) rfl (congrArg some h0) (by kernel_rfl) (by kernel_rfl) hX (by kernel_rfl) (by kernel_rfl)) ?_
                  rintro _ wz ⟨hY, hgY⟩
                  exact ⟨⟨fun _ => ⟨grownBy_trans hgC hgY, .inr hY⟩, hgY.size, fun _ => hY⟩, hY, nofr rfl⟩
                · refine Does.mono (d_storeK (T := 25) (v := (.agg #[(.int .u8 (((opN s : Nat) : Int))), (.int .u64 (0 : Int)), (.int .u64 (0 : Int)), (.slice none 0 0)])) (cs := #[(.int .u8 (((opN s : Nat) : Int))), (.int .u64 (0 : Int)), (.int .u64 (0 : Int)), (.slice none 0 0)]) (cs' := #[(.int .u8 (((opN s : Nat) : Int))), (.int .u64 (0 : Int)), (.int .u64 (0 : Int)), (.slice none 0 0)]) rfl (congrArg some h0) (by kernel_rfl) (by kernel_rfl) hX (by kernel_rfl) (by kernel_rfl)) ?_
                  rintro _ wz ⟨hY, hgY⟩
                  exact ⟨⟨fun _ => ⟨grownBy_trans hgC hgY, .inr hY⟩, hgY.size, fun _ => hY⟩, hY, nofr rfl⟩
              trivial
            · skip
              clear hf fa; intro V w8 fa he6 hp hnb hf
              have hg2 := he6.1
              have hv0 : V 0 = (.agg #[(.int .u8 (((opN s : Nat) : Int))), (.int .u64 (0 : Int)), (.int .u64 (0 : Int)), (.slice none 0 0)]) := postsHold_at hp 0 rfl
              have hv1 : V 1 = (.agg #[(.int .u8 (((opN s : Nat) : Int))), (.int .u64 (0 : Int)), (.int .u64 (0 : Int)), (.slice none 0 0)]) := postsHold_at hp 1 rfl
              have hv2 : V 2 = (.string (lineP (opN s) (0 : Int) (0 : Int) [])) := postsHold_at hp 2 rfl
              have hv3 : V 3 = (.string s) := postsHold_at hp 3 rfl
              have hv4 : V 4 = (.bool (decide ((lineP (opN s) (0 : Int) (0 : Int) []) = s))) := postsHold_at hp 4 rfl
              have hk4 := postsHold_at hp 5 rfl
              simp only [List.take_succ_cons, List.take_zero, insAll, ins, hv0, hv1, hv2, hv3, hv4] at hf
              clear hp hnb hv0 hv1 hv2 hv3 hv4
              replace hk3 := blk_grown hk3 hg2 (by omega)
              replace hra1 := Row.grown hra1 hg2 (Row.ne_type hra1 hkb1 rfl)
              replace hra2 := Row.grown hra2 hg2 (Row.ne_type hra2 hkb1 rfl)
              replace hb := hb.trans (grown_below hg2 hb.size hBb1)
              replace hk4 : w8.heap[b1]? = some (.cells #[(.int .u8 (((opN s : Nat) : Int))), (.int .u64 (0 : Int)), (.int .u64 (0 : Int)), (.slice none 0 0)] 25 (0, 0)) := hk4
              simp only [List.drop_succ_cons, List.drop_zero]
              refine sqv hf (r_assign rfl) rfl rfl rfl ?_; clear hf fa; intro fa hf
              apply wpList_nil
              (try simp only [Exit.then, Exit.inBlock, ↓reduceIte, Nat.reduceEqDiff])
              refine hK17 _ _ ?_
              refine wp_ret ?_
              (try simp only [Exit.then, Exit.inBlock])
              refine retCT hf rfl rfl hk4 Tryd.underlying25 rfl (by kernel_rfl) rfl ?_
              obtain ⟨e1, e2, e3, e4⟩ := q_yes hh.1
              have hA : rqA s = (0 : Int) := by unfold rqA qaW; rw [if_pos (by have h0 := hqt49_1; omega)]
              have hB : rqB s = (0 : Int) := by unfold rqB qbW; rw [if_neg (by have h0 := hqt49_1; omega)]
              have hL : rqL s = [] := by unfold rqL qlW; rw [if_neg (by have h0 := hqt49_1; omega)]
              have hK := rK_is hh.1 hA hB hL
              rw [e1, e2, e3, e4, hA, hB, hL, hK]
              exact ⟨_, rfl, _, _, rfl, Row.nil, hb⟩
          · have hqt49_1b := hqt49_1
            replace hqt49_1 := Bool.eq_false_iff.1 hqt49_1
            try simp only [ne_eq, decide_eq_true_eq, Bool.and_eq_true, Bool.or_eq_true, Bool.not_eq_true', decide_eq_false_iff_not] at hqt49_1
            refine wp_region_lit ?_
            refine sqv hf (r_eq rfl rfl) rfl rfl rfl ?_; clear hf fa; intro fa hf
            refine sqv hf (r_assign rfl) rfl rfl rfl ?_; clear hf fa; intro fa hf
            apply wpList_nil
            (try simp only [Exit.then, Exit.inBlock, ↓reduceIte, Nat.reduceEqDiff])
            refine hK15 _ _ ?_
            refine wp_cond_split (t := (decide ((((infP (opN s)).2.1)) = (9 : Int)))) (hf.ev rfl) (fun hqt49_3 => ?_) (fun hqt49_3 => ?_)
            · have hqt49_3b := hqt49_3
              try simp only [decide_eq_true_eq, Bool.and_eq_true, Bool.or_eq_true, Bool.not_eq_true', decide_eq_false_iff_not, ne_eq, Bool.not_eq_true] at hqt49_3
              refine wp_skip ?_
              (try simp only [Exit.then, Exit.inBlock, ↓reduceIte, Nat.reduceEqDiff])
              refine hK13 _ _ ?_
              refine wp_seq_k (fun K18 hK18 => ?_)
              skip
              have hne_hel4 : rb1 ≠ b1 := fun e => (Row.ne_type hra1 hkb1 rfl) (congrArg some e)
              have hne_hel5 : rb2 ≠ b1 := fun e => (Row.ne_type hra2 hkb1 rfl) (congrArg some e)
              refine wp_region_unT 6 (fun wc => (w7.grownBy wc (some b1) ∧ (wc.heap[b1]? = some (.cells #[(.int .u8 (0 : Int)), (.int .u64 (0 : Int)), (.int .u64 (0 : Int)), (.slice none 0 0)] 25 (0, 0)) ∨ wc.heap[b1]? = some (.cells #[(.int .u8 (((opN s : Nat) : Int))), (.int .u64 (0 : Int)), (.int .u64 (0 : Int)), (.slice none 0 0)] 25 (0, 0))))) (fun wa wc => ((w7.grownBy wa (some b1) ∧ (wa.heap[b1]? = some (.cells #[(.int .u8 (0 : Int)), (.int .u64 (0 : Int)), (.int .u64 (0 : Int)), (.slice none 0 0)] 25 (0, 0)) ∨ wa.heap[b1]? = some (.cells #[(.int .u8 (((opN s : Nat) : Int))), (.int .u64 (0 : Int)), (.int .u64 (0 : Int)), (.slice none 0 0)] 25 (0, 0)))) → (w7.grownBy wc (some b1) ∧ (wc.heap[b1]? = some (.cells #[(.int .u8 (0 : Int)), (.int .u64 (0 : Int)), (.int .u64 (0 : Int)), (.slice none 0 0)] 25 (0, 0)) ∨ wc.heap[b1]? = some (.cells #[(.int .u8 (((opN s : Nat) : Int))), (.int .u64 (0 : Int)), (.int .u64 (0 : Int)), (.slice none 0 0)] 25 (0, 0))))) ∧ wa.heap.size ≤ wc.heap.size ∧ (wa.heap[b1]? = some (.cells #[(.int .u8 (((opN s : Nat) : Int))), (.int .u64 (0 : Int)), (.int .u64 (0 : Int)), (.slice none 0 0)] 25 (0, 0)) → wc.heap[b1]? = some (.cells #[(.int .u8 (((opN s : Nat) : Int))), (.int .u64 (0 : Int)), (.int .u64 (0 : Int)), (.slice none 0 0)] 25 (0, 0))))
                (fun V => [(fun x _ => x = (.agg #[(.int .u8 (((opN s : Nat) : Int))), (.int .u64 (0 : Int)), (.int .u64 (0 : Int)), (.slice none 0 0)])), (fun x _ => x = (.agg #[(.int .u8 (((opN s : Nat) : Int))), (.int .u64 (0 : Int)), (.int .u64 (0 : Int)), (.slice none 0 0)])), (fun x _ => x = (.string (lineP (opN s) (0 : Int) (0 : Int) []))), (fun x _ => x = (.string s)), (fun x _ => x = (.bool (decide ((lineP (opN s) (0 : Int) (0 : Int) []) = s)))), (fun _ wq => wq.heap[b1]? = some (.cells #[(.int .u8 (((opN s : Nat) : Int))), (.int .u64 (0 : Int)), (.int .u64 (0 : Int)), (.slice none 0 0)] 25 (0, 0)))])
                []
                [[], [], [1], [], [2, 3], [0, 2], []]
                hf (by kernel_rfl) (by kernel_rfl) (by kernel_rfl) (fun _ => rfl) ⟨below_grown (Below.refl _ _).drew, .inl (blk_ext hkb1 (Below.refl _ _).drew)⟩ (fun a b h1 h2 => h2.1 h1) (fun _ _ h => h.2.1) (fun V => ⟨(fun _ _ _ h _ => h), (fun _ _ _ h _ => h), (fun _ _ _ h _ => h), (fun _ _ _ h _ => h), (fun _ _ _ h _ => h), (fun _ _ _ h hG => hG.2.2 h), trivial⟩) (fun _ _ _ _ _ => rfl) ?_ ?_
              · skip
                intro V
                refine ⟨fun wu0 hC hd => ?_, ?_⟩
                · clear hd
                  have hgC := hC.1
                  replace hk3 := blk_grown hk3 hgC (by omega)
                  replace hra1 := Row.grown hra1 hgC (Row.ne_type hra1 hkb1 rfl)
                  replace hra2 := Row.grown hra2 hgC (Row.ne_type hra2 hkb1 rfl)
                  replace hb := hb.trans (grown_below hgC hb.size hBb1)
                  exact Runs.does (r_loadA (cs := [(.int .u8 (((opN s : Nat) : Int))), (.int .u64 (0 : Int)), (.int .u64 (0 : Int)), (.slice none 0 0)]) rfl Tryd.underlying25 rfl (by kernel_rfl) (cellsAt_blk hk3)) ⟨⟨id, Nat.le_refl _, id⟩, rfl, nofr rfl⟩
                refine ⟨fun wu1 hC hd => ?_, ?_⟩
                · clear hd
                  have hgC := hC.1
                  replace hk3 := blk_grown hk3 hgC (by omega)
                  replace hra1 := Row.grown hra1 hgC (Row.ne_type hra1 hkb1 rfl)
                  replace hra2 := Row.grown hra2 hgC (Row.ne_type hra2 hkb1 rfl)
                  replace hb := hb.trans (grown_below hgC hb.size hBb1)
                  exact Runs.does (r_loadA (cs := [(.int .u8 (((opN s : Nat) : Int))), (.int .u64 (0 : Int)), (.int .u64 (0 : Int)), (.slice none 0 0)]) rfl Tryd.underlying25 rfl (by kernel_rfl) (cellsAt_blk hk3)) ⟨⟨id, Nat.le_refl _, id⟩, rfl, nofr rfl⟩
                refine ⟨fun wu2 hC hd => ?_, ?_⟩
                · obtain ⟨h1, _⟩ := hd
                  replace h1 : V 1 = (.agg #[(.int .u8 (((opN s : Nat) : Int))), (.int .u64 (0 : Int)), (.int .u64 (0 : Int)), (.slice none 0 0)]) := h1
                  have hgC := hC.1
                  replace hk3 := blk_grown hk3 hgC (by omega)
                  replace hra1 := Row.grown hra1 hgC (Row.ne_type hra1 hkb1 rfl)
                  replace hra2 := Row.grown hra2 hgC (Row.ne_type hra2 hkb1 rfl)
                  replace hb := hb.trans (grown_below hgC hb.size hBb1)
                  refine Does.mono (d_callB (vs := [(.agg #[(.int .u8 (((opN s : Nat) : Int))), (.int .u64 (0 : Int)), (.int .u64 (0 : Int)), (.slice none 0 0)])]) (show [some (V 1)] = [some (.agg #[(.int .u8 (((opN s : Nat) : Int))), (.int .u64 (0 : Int)), (.int .u64 (0 : Int)), (.slice none 0 0)])] from by rw [h1]) Tryd.func8 (by kernel_rfl) (by kernel_rfl) (rline_any (opN s) (0 : Int) (0 : Int) [] none 0 _ RdS.nil (fun y hy => by cases hy) hop (by first | decide | exact tailP_rng _ _ | omega) (by first | decide | exact tailP_rng _ _ | omega) (Nat.le_refl 0) (by decide))) (fun _ _ h => ⟨⟨fun hc => ⟨grown_trans hc.1 (below_grown h.2), hc.2.imp (fun z => blk_ext z h.2) (fun z => blk_ext z h.2)⟩, h.2.size, fun z => blk_ext z h.2⟩, h.1, nofr rfl⟩)
                refine ⟨fun wu3 hC hd => ?_, ?_⟩
                · clear hd
                  have hgC := hC.1
                  replace hk3 := blk_grown hk3 hgC (by omega)
                  replace hra1 := Row.grown hra1 hgC (Row.ne_type hra1 hkb1 rfl)
                  replace hra2 := Row.grown hra2 hgC (Row.ne_type hra2 hkb1 rfl)
                  replace hb := hb.trans (grown_below hgC hb.size hBb1)
                  exact Runs.does (r_move rfl) ⟨⟨id, Nat.le_refl _, id⟩, rfl, nofr rfl⟩
                refine ⟨fun wu4 hC hd => ?_, ?_⟩
                · obtain ⟨h2, h3, _⟩ := hd
                  replace h2 : V 2 = (.string (lineP (opN s) (0 : Int) (0 : Int) [])) := h2
                  replace h3 : V 3 = (.string s) := h3
                  have hgC := hC.1
                  replace hk3 := blk_grown hk3 hgC (by omega)
                  replace hra1 := Row.grown hra1 hgC (Row.ne_type hra1 hkb1 rfl)
                  replace hra2 := Row.grown hra2 hgC (Row.ne_type hra2 hkb1 rfl)
                  replace hb := hb.trans (grown_below hgC hb.size hBb1)
                  exact Runs.does (r_seq (congrArg some h2) (congrArg some h3)) ⟨⟨id, Nat.le_refl _, id⟩, rfl, nofr rfl⟩
                refine ⟨fun wu5 hC hd => ?_, ?_⟩
                · obtain ⟨h0, h2, _⟩ := hd
                  replace h0 : V 0 = (.agg #[(.int .u8 (((opN s : Nat) : Int))), (.int .u64 (0 : Int)), (.int .u64 (0 : Int)), (.slice none 0 0)]) := h0
                  replace h2 : V 2 = (.string (lineP (opN s) (0 : Int) (0 : Int) [])) := h2
                  have hgC := hC.1
                  replace hk3 := blk_grown hk3 hgC (by omega)
                  replace hra1 := Row.grown hra1 hgC (Row.ne_type hra1 hkb1 rfl)
                  replace hra2 := Row.grown hra2 hgC (Row.ne_type hra2 hkb1 rfl)
                  replace hb := hb.trans (grown_below hgC hb.size hBb1)
                  rcases hC.2 with hX | hX
                  · refine Does.mono (d_storeK (T := 25) (v := (.agg #[(.int .u8 (((opN s : Nat) : Int))), (.int .u64 (0 : Int)), (.int .u64 (0 : Int)), (.slice none 0 0)])) (cs := #[(.int .u8 (0 : Int)), (.int .u64 (0 : Int)), (.int .u64 (0 : Int)), (.slice none 0 0)]) (cs' := #[(.int .u8 (((opN s : Nat) : Int))), (.int .u64 (0 : Int)), (.int .u64 (0 : Int)), (.slice none 0 0)]) rfl (congrArg some h0) (by kernel_rfl) (by kernel_rfl) hX (by kernel_rfl) (by kernel_rfl)) ?_
                    rintro _ wz ⟨hY, hgY⟩
                    exact ⟨⟨fun _ => ⟨grownBy_trans hgC hgY, .inr hY⟩, hgY.size, fun _ => hY⟩, hY, nofr rfl⟩
                  · refine Does.mono (d_storeK (T := 25) (v := (.agg #[(.int .u8 (((opN s : Nat) : Int))), (.int .u64 (0 : Int)), (.int .u64 (0 : Int)), (.slice none 0 0)])) (cs := #[(.int .u8 (((opN s : Nat) : Int))), (.int .u64 (0 : Int)), (.int .u64 (0 : Int)), (.slice none 0 0)]) (cs' := #[(.int .u8 (((opN s : Nat) : Int))), (.int .u64 (0 : Int)), (.int .u64 (0 : Int)), (.slice none 0 0)]) rfl (congrArg some h0) (by kernel_rfl) (by kernel_rfl) hX (by kernel_rfl) (by kernel_rfl)) ?_
                    rintro _ wz ⟨hY, hgY⟩
                    exact ⟨⟨fun _ => ⟨grownBy_trans hgC hgY, .inr hY⟩, hgY.size, fun _ => hY⟩, hY, nofr rfl⟩
                trivial
              · skip
                clear hf fa; intro V w9 fa he7 hp hnb hf
                have hg3 := he7.1
                have hv0 : V 0 = (.agg #[(.int .u8 (((opN s : Nat) : Int))), (.int .u64 (0 : Int)), (.int .u64 (0 : Int)), (.slice none 0 0)]) := postsHold_at hp 0 rfl
                have hv1 : V 1 = (.agg #[(.int .u8 (((opN s : Nat) : Int))), (.int .u64 (0 : Int)), (.int .u64 (0 : Int)), (.slice none 0 0)]) := postsHold_at hp 1 rfl
                have hv2 : V 2 = (.string (lineP (opN s) (0 : Int) (0 : Int) [])) := postsHold_at hp 2 rfl
                have hv3 : V 3 = (.string s) := postsHold_at hp 3 rfl
                have hv4 : V 4 = (.bool (decide ((lineP (opN s) (0 : Int) (0 : Int) []) = s))) := postsHold_at hp 4 rfl
                have hk5 := postsHold_at hp 5 rfl
                simp only [List.take_succ_cons, List.take_zero, insAll, ins, hv0, hv1, hv2, hv3, hv4] at hf
                clear hp hnb hv0 hv1 hv2 hv3 hv4
                replace hk3 := blk_grown hk3 hg3 (by omega)
                replace hra1 := Row.grown hra1 hg3 (Row.ne_type hra1 hkb1 rfl)
                replace hra2 := Row.grown hra2 hg3 (Row.ne_type hra2 hkb1 rfl)
                replace hb := hb.trans (grown_below hg3 hb.size hBb1)
                replace hk5 : w9.heap[b1]? = some (.cells #[(.int .u8 (((opN s : Nat) : Int))), (.int .u64 (0 : Int)), (.int .u64 (0 : Int)), (.slice none 0 0)] 25 (0, 0)) := hk5
                simp only [List.drop_succ_cons, List.drop_zero]
                refine sqv hf (r_assign rfl) rfl rfl rfl ?_; clear hf fa; intro fa hf
                apply wpList_nil
                (try simp only [Exit.then, Exit.inBlock, ↓reduceIte, Nat.reduceEqDiff])
                refine hK18 _ _ ?_
                refine wp_ret ?_
                (try simp only [Exit.then, Exit.inBlock])
                refine retCT hf rfl rfl hk5 Tryd.underlying25 rfl (by kernel_rfl) rfl ?_
                obtain ⟨e1, e2, e3, e4⟩ := q_yes hh.1
                have hA : rqA s = (0 : Int) := by unfold rqA qaW; rw [if_pos (by have h0 := hqt49_1; have h1 := hqt49_3; omega)]
                have hB : rqB s = (0 : Int) := by unfold rqB qbW; rw [if_neg (by have h0 := hqt49_1; have h1 := hqt49_3; omega)]
                have hL : rqL s = [] := by unfold rqL qlW; rw [if_neg (by have h0 := hqt49_1; have h1 := hqt49_3; omega)]
                have hK := rK_is hh.1 hA hB hL
                rw [e1, e2, e3, e4, hA, hB, hL, hK]
                exact ⟨_, rfl, _, _, rfl, Row.nil, hb⟩
            · have hqt49_3b := hqt49_3
              replace hqt49_3 := Bool.eq_false_iff.1 hqt49_3
              try simp only [ne_eq, decide_eq_true_eq, Bool.and_eq_true, Bool.or_eq_true, Bool.not_eq_true', decide_eq_false_iff_not] at hqt49_3
              refine wp_seq_k (fun K19 hK19 => ?_)
              refine wp_region_lit ?_
              refine sqv hf (r_eq rfl rfl) rfl rfl rfl ?_; clear hf fa; intro fa hf
              refine sqv hf (r_assign rfl) rfl rfl rfl ?_; clear hf fa; intro fa hf
              apply wpList_nil
              (try simp only [Exit.then, Exit.inBlock, ↓reduceIte, Nat.reduceEqDiff])
              refine hK19 _ _ ?_
              refine wp_cond_split (t := (decide ((((infP (opN s)).2.1)) = (1 : Int)))) (hf.ev rfl) (fun hqt52_1 => ?_) (fun hqt52_1 => ?_)
              · have hqt52_1b := hqt52_1
                try simp only [decide_eq_true_eq, Bool.and_eq_true, Bool.or_eq_true, Bool.not_eq_true', decide_eq_false_iff_not, ne_eq, Bool.not_eq_true] at hqt52_1
                refine wp_seq_k (fun K20 hK20 => ?_)
                refine wp_region_lit ?_
                refine sqv hf (r_fa rfl Tryd.underlying25 (f := 1) (q := 1) rfl (by kernel_rfl) rfl) rfl rfl rfl ?_; clear hf fa; intro fa hf
                refine sqn hf (d_storeK (T := 25) (v := (.int .u64 (64 : Int))) (cs := #[(.int .u8 (((opN s : Nat) : Int))), (.int .u64 (0 : Int)), (.int .u64 (0 : Int)), (.slice none 0 0)]) (cs' := #[(.int .u8 (((opN s : Nat) : Int))), (.int .u64 (64 : Int)), (.int .u64 (0 : Int)), (.slice none 0 0)]) rfl rfl (by kernel_rfl) (by kernel_rfl) hk3 (by kernel_rfl) (by kernel_rfl)) rfl rfl ?_; clear hf fa; rintro fa _ w10 ⟨hk6, hg4⟩ hf
                replace hkb1 := blk_grown hkb1 hg4 (by omega)
                replace hra1 := Row.grown hra1 hg4 (Row.ne_type hra1 hk3 rfl)
                replace hra2 := Row.grown hra2 hg4 (Row.ne_type hra2 hk3 rfl)
                replace hb := hb.trans (grown_below hg4 hb.size hBb2)
                apply wpList_nil
                (try simp only [Exit.then, Exit.inBlock, ↓reduceIte, Nat.reduceEqDiff])
                refine hK20 _ _ ?_
                refine wp_seq_k (fun K21 hK21 => ?_)
                refine wp_seq_k (fun K22 hK22 => ?_)
                refine wp_region_lit ?_
                refine sqv hf (r_move rfl) rfl rfl rfl ?_; clear hf fa; intro fa hf
                refine sqv hf (r_seq rfl rfl) rfl rfl rfl ?_; clear hf fa; intro fa hf
                apply wpList_nil
                (try simp only [Exit.then, Exit.inBlock, ↓reduceIte, Nat.reduceEqDiff])
                refine hK22 _ _ ?_
                refine wp_cond_split (t := (decide ((lastP s) = ⟨#[105, 51, 50]⟩))) (hf.ev rfl) (fun hqt56_1 => ?_) (fun hqt56_1 => ?_)
                · have hqt56_1b := hqt56_1
                  try simp only [decide_eq_true_eq, Bool.and_eq_true, Bool.or_eq_true, Bool.not_eq_true', decide_eq_false_iff_not, ne_eq, Bool.not_eq_true] at hqt56_1
                  refine wp_region_lit ?_
                  refine sqv hf (r_fa rfl Tryd.underlying25 (f := 1) (q := 1) rfl (by kernel_rfl) rfl) rfl rfl rfl ?_; clear hf fa; intro fa hf
                  refine sqn hf (d_storeK (T := 25) (v := (.int .u64 (127 : Int))) (cs := #[(.int .u8 (((opN s : Nat) : Int))), (.int .u64 (64 : Int)), (.int .u64 (0 : Int)), (.slice none 0 0)]) (cs' := #[(.int .u8 (((opN s : Nat) : Int))), (.int .u64 (127 : Int)), (.int .u64 (0 : Int)), (.slice none 0 0)]) rfl rfl (by kernel_rfl) (by kernel_rfl) hk6 (by kernel_rfl) (by kernel_rfl)) rfl rfl ?_; clear hf fa; rintro fa _ w11 ⟨hk7, hg5⟩ hf
                  replace hkb1 := blk_grown hkb1 hg5 (by omega)
                  replace hra1 := Row.grown hra1 hg5 (Row.ne_type hra1 hk6 rfl)
                  replace hra2 := Row.grown hra2 hg5 (Row.ne_type hra2 hk6 rfl)
                  replace hb := hb.trans (grown_below hg5 hb.size hBb2)
                  apply wpList_nil
                  (try simp only [Exit.then, Exit.inBlock, ↓reduceIte, Nat.reduceEqDiff])
                  refine hK21 _ _ ?_
                  refine wp_seq_k (fun K23 hK23 => ?_)
                  refine wp_region_lit ?_
                  refine sqv hf (r_move rfl) rfl rfl rfl ?_; clear hf fa; intro fa hf
                  refine sqv hf (r_seq rfl rfl) rfl rfl rfl ?_; clear hf fa; intro fa hf
                  apply wpList_nil
                  (try simp only [Exit.then, Exit.inBlock, ↓reduceIte, Nat.reduceEqDiff])
                  refine hK23 _ _ ?_
                  refine wp_cond_split (t := (decide ((lastP s) = ⟨#[105, 54, 52]⟩))) (hf.ev rfl) (fun hqt59_1 => ?_) (fun hqt59_1 => ?_)
                  · have hqt59_1b := hqt59_1
                    try simp only [decide_eq_true_eq, Bool.and_eq_true, Bool.or_eq_true, Bool.not_eq_true', decide_eq_false_iff_not, ne_eq, Bool.not_eq_true] at hqt59_1
                    refine wp_region_lit ?_
                    refine sqv hf (r_fa rfl Tryd.underlying25 (f := 1) (q := 1) rfl (by kernel_rfl) rfl) rfl rfl rfl ?_; clear hf fa; intro fa hf
                    refine sqn hf (d_storeK (T := 25) (v := (.int .u64 (126 : Int))) (cs := #[(.int .u8 (((opN s : Nat) : Int))), (.int .u64 (127 : Int)), (.int .u64 (0 : Int)), (.slice none 0 0)]) (cs' := #[(.int .u8 (((opN s : Nat) : Int))), (.int .u64 (126 : Int)), (.int .u64 (0 : Int)), (.slice none 0 0)]) rfl rfl (by kernel_rfl) (by kernel_rfl) hk7 (by kernel_rfl) (by kernel_rfl)) rfl rfl ?_; clear hf fa; rintro fa _ w12 ⟨hk8, hg6⟩ hf
                    replace hkb1 := blk_grown hkb1 hg6 (by omega)
                    replace hra1 := Row.grown hra1 hg6 (Row.ne_type hra1 hk7 rfl)
                    replace hra2 := Row.grown hra2 hg6 (Row.ne_type hra2 hk7 rfl)
                    replace hb := hb.trans (grown_below hg6 hb.size hBb2)
                    apply wpList_nil
                    (try simp only [Exit.then, Exit.inBlock, ↓reduceIte, Nat.reduceEqDiff])
                    refine hK13 _ _ ?_
                    refine wp_seq_k (fun K24 hK24 => ?_)
                    skip
                    refine wp_region_unT 6 (fun wc => (w12.grownBy wc (some b1) ∧ (wc.heap[b1]? = some (.cells #[(.int .u8 (0 : Int)), (.int .u64 (0 : Int)), (.int .u64 (0 : Int)), (.slice none 0 0)] 25 (0, 0)) ∨ wc.heap[b1]? = some (.cells #[(.int .u8 (((opN s : Nat) : Int))), (.int .u64 (126 : Int)), (.int .u64 (0 : Int)), (.slice none 0 0)] 25 (0, 0))))) (fun wa wc => ((w12.grownBy wa (some b1) ∧ (wa.heap[b1]? = some (.cells #[(.int .u8 (0 : Int)), (.int .u64 (0 : Int)), (.int .u64 (0 : Int)), (.slice none 0 0)] 25 (0, 0)) ∨ wa.heap[b1]? = some (.cells #[(.int .u8 (((opN s : Nat) : Int))), (.int .u64 (126 : Int)), (.int .u64 (0 : Int)), (.slice none 0 0)] 25 (0, 0)))) → (w12.grownBy wc (some b1) ∧ (wc.heap[b1]? = some (.cells #[(.int .u8 (0 : Int)), (.int .u64 (0 : Int)), (.int .u64 (0 : Int)), (.slice none 0 0)] 25 (0, 0)) ∨ wc.heap[b1]? = some (.cells #[(.int .u8 (((opN s : Nat) : Int))), (.int .u64 (126 : Int)), (.int .u64 (0 : Int)), (.slice none 0 0)] 25 (0, 0))))) ∧ wa.heap.size ≤ wc.heap.size ∧ (wa.heap[b1]? = some (.cells #[(.int .u8 (((opN s : Nat) : Int))), (.int .u64 (126 : Int)), (.int .u64 (0 : Int)), (.slice none 0 0)] 25 (0, 0)) → wc.heap[b1]? = some (.cells #[(.int .u8 (((opN s : Nat) : Int))), (.int .u64 (126 : Int)), (.int .u64 (0 : Int)), (.slice none 0 0)] 25 (0, 0))))
                      (fun V => [(fun x _ => x = (.agg #[(.int .u8 (((opN s : Nat) : Int))), (.int .u64 (126 : Int)), (.int .u64 (0 : Int)), (.slice none 0 0)])), (fun x _ => x = (.agg #[(.int .u8 (((opN s : Nat) : Int))), (.int .u64 (126 : Int)), (.int .u64 (0 : Int)), (.slice none 0 0)])), (fun x _ => x = (.string (lineP (opN s) (126 : Int) (0 : Int) []))), (fun x _ => x = (.string s)), (fun x _ => x = (.bool (decide ((lineP (opN s) (126 : Int) (0 : Int) []) = s)))), (fun _ wq => wq.heap[b1]? = some (.cells #[(.int .u8 (((opN s : Nat) : Int))), (.int .u64 (126 : Int)), (.int .u64 (0 : Int)), (.slice none 0 0)] 25 (0, 0)))])
                      []
                      [[], [], [1], [], [2, 3], [0, 2], []]
                      hf (by kernel_rfl) (by kernel_rfl) (by kernel_rfl) (fun _ => rfl) ⟨below_grown (Below.refl _ _).drew, .inl (blk_ext hkb1 (Below.refl _ _).drew)⟩ (fun a b h1 h2 => h2.1 h1) (fun _ _ h => h.2.1) (fun V => ⟨(fun _ _ _ h _ => h), (fun _ _ _ h _ => h), (fun _ _ _ h _ => h), (fun _ _ _ h _ => h), (fun _ _ _ h _ => h), (fun _ _ _ h hG => hG.2.2 h), trivial⟩) (fun _ _ _ _ _ => rfl) ?_ ?_
                    · skip
                      intro V
                      refine ⟨fun wu0 hC hd => ?_, ?_⟩
                      · clear hd
                        have hgC := hC.1
                        replace hk8 := blk_grown hk8 hgC (by omega)
                        replace hra1 := Row.grown hra1 hgC (Row.ne_type hra1 hkb1 rfl)
                        replace hra2 := Row.grown hra2 hgC (Row.ne_type hra2 hkb1 rfl)
                        replace hb := hb.trans (grown_below hgC hb.size hBb1)
                        exact Runs.does (r_loadA (cs := [(.int .u8 (((opN s : Nat) : Int))), (.int .u64 (126 : Int)), (.int .u64 (0 : Int)), (.slice none 0 0)]) rfl Tryd.underlying25 rfl (by kernel_rfl) (cellsAt_blk hk8)) ⟨⟨id, Nat.le_refl _, id⟩, rfl, nofr rfl⟩
                      refine ⟨fun wu1 hC hd => ?_, ?_⟩
                      · clear hd
                        have hgC := hC.1
                        replace hk8 := blk_grown hk8 hgC (by omega)
                        replace hra1 := Row.grown hra1 hgC (Row.ne_type hra1 hkb1 rfl)
                        replace hra2 := Row.grown hra2 hgC (Row.ne_type hra2 hkb1 rfl)
                        replace hb := hb.trans (grown_below hgC hb.size hBb1)
                        exact Runs.does (r_loadA (cs := [(.int .u8 (((opN s : Nat) : Int))), (.int .u64 (126 : Int)), (.int .u64 (0 : Int)), (.slice none 0 0)]) rfl Tryd.underlying25 rfl (by kernel_rfl) (cellsAt_blk hk8)) ⟨⟨id, Nat.le_refl _, id⟩, rfl, nofr rfl⟩
                      refine ⟨fun wu2 hC hd => ?_, ?_⟩
                      · obtain ⟨h1, _⟩ := hd
                        replace h1 : V 1 = (.agg #[(.int .u8 (((opN s : Nat) : Int))), (.int .u64 (126 : Int)), (.int .u64 (0 : Int)), (.slice none 0 0)]) := h1
                        have hgC := hC.1
                        replace hk8 := blk_grown hk8 hgC (by omega)
                        replace hra1 := Row.grown hra1 hgC (Row.ne_type hra1 hkb1 rfl)
                        replace hra2 := Row.grown hra2 hgC (Row.ne_type hra2 hkb1 rfl)
                        replace hb := hb.trans (grown_below hgC hb.size hBb1)
                        refine Does.mono (d_callB (vs := [(.agg #[(.int .u8 (((opN s : Nat) : Int))), (.int .u64 (126 : Int)), (.int .u64 (0 : Int)), (.slice none 0 0)])]) (show [some (V 1)] = [some (.agg #[(.int .u8 (((opN s : Nat) : Int))), (.int .u64 (126 : Int)), (.int .u64 (0 : Int)), (.slice none 0 0)])] from by rw [h1]) Tryd.func8 (by kernel_rfl) (by kernel_rfl) (rline_any (opN s) (126 : Int) (0 : Int) [] none 0 _ RdS.nil (fun y hy => by cases hy) hop (by first | decide | exact tailP_rng _ _ | omega) (by first | decide | exact tailP_rng _ _ | omega) (Nat.le_refl 0) (by decide))) (fun _ _ h => ⟨⟨fun hc => ⟨grown_trans hc.1 (below_grown h.2), hc.2.imp (fun z => blk_ext z h.2) (fun z => blk_ext z h.2)⟩, h.2.size, fun z => blk_ext z h.2⟩, h.1, nofr rfl⟩)
                      refine ⟨fun wu3 hC hd => ?_, ?_⟩
                      · clear hd
                        have hgC := hC.1
                        replace hk8 := blk_grown hk8 hgC (by omega)
                        replace hra1 := Row.grown hra1 hgC (Row.ne_type hra1 hkb1 rfl)
                        replace hra2 := Row.grown hra2 hgC (Row.ne_type hra2 hkb1 rfl)
                        replace hb := hb.trans (grown_below hgC hb.size hBb1)
                        exact Runs.does (r_move rfl) ⟨⟨id, Nat.le_refl _, id⟩, rfl, nofr rfl⟩
                      refine ⟨fun wu4 hC hd => ?_, ?_⟩
                      · obtain ⟨h2, h3, _⟩ := hd
                        replace h2 : V 2 = (.string (lineP (opN s) (126 : Int) (0 : Int) [])) := h2
                        replace h3 : V 3 = (.string s) := h3
                        have hgC := hC.1
                        replace hk8 := blk_grown hk8 hgC (by omega)
                        replace hra1 := Row.grown hra1 hgC (Row.ne_type hra1 hkb1 rfl)
                        replace hra2 := Row.grown hra2 hgC (Row.ne_type hra2 hkb1 rfl)
                        replace hb := hb.trans (grown_below hgC hb.size hBb1)
                        exact Runs.does (r_seq (congrArg some h2) (congrArg some h3)) ⟨⟨id, Nat.le_refl _, id⟩, rfl, nofr rfl⟩
                      refine ⟨fun wu5 hC hd => ?_, ?_⟩
                      · obtain ⟨h0, h2, _⟩ := hd
                        replace h0 : V 0 = (.agg #[(.int .u8 (((opN s : Nat) : Int))), (.int .u64 (126 : Int)), (.int .u64 (0 : Int)), (.slice none 0 0)]) := h0
                        replace h2 : V 2 = (.string (lineP (opN s) (126 : Int) (0 : Int) [])) := h2
                        have hgC := hC.1
                        replace hk8 := blk_grown hk8 hgC (by omega)
                        replace hra1 := Row.grown hra1 hgC (Row.ne_type hra1 hkb1 rfl)
                        replace hra2 := Row.grown hra2 hgC (Row.ne_type hra2 hkb1 rfl)
                        replace hb := hb.trans (grown_below hgC hb.size hBb1)
                        rcases hC.2 with hX | hX
                        · refine Does.mono (d_storeK (T := 25) (v := (.agg #[(.int .u8 (((opN s : Nat) : Int))), (.int .u64 (126 : Int)), (.int .u64 (0 : Int)), (.slice none 0 0)])) (cs := #[(.int .u8 (0 : Int)), (.int .u64 (0 : Int)), (.int .u64 (0 : Int)), (.slice none 0 0)]) (cs' := #[(.int .u8 (((opN s : Nat) : Int))), (.int .u64 (126 : Int)), (.int .u64 (0 : Int)), (.slice none 0 0)]) rfl (congrArg some h0) (by kernel_rfl) (by kernel_rfl) hX (by kernel_rfl) (by kernel_rfl)) ?_
                          rintro _ wz ⟨hY, hgY⟩
                          exact ⟨⟨fun _ => ⟨grownBy_trans hgC hgY, .inr hY⟩, hgY.size, fun _ => hY⟩, hY, nofr rfl⟩
                        · refine Does.mono (d_storeK (T := 25) (v := (.agg #[(.int .u8 (((opN s : Nat) : Int))), (.int .u64 (126 : Int)), (.int .u64 (0 : Int)), (.slice none 0 0)])) (cs := #[(.int .u8 (((opN s : Nat) : Int))), (.int .u64 (126 : Int)), (.int .u64 (0 : Int)), (.slice none 0 0)]) (cs' := #[(.int .u8 (((opN s : Nat) : Int))), (.int .u64 (126 : Int)), (.int .u64 (0 : Int)), (.slice none 0 0)]) rfl (congrArg some h0) (by kernel_rfl) (by kernel_rfl) hX (by kernel_rfl) (by kernel_rfl)) ?_
                          rintro _ wz ⟨hY, hgY⟩
                          exact ⟨⟨fun _ => ⟨grownBy_trans hgC hgY, .inr hY⟩, hgY.size, fun _ => hY⟩, hY, nofr rfl⟩
                      trivial
                    · skip
                      clear hf fa; intro V w13 fa he8 hp hnb hf
                      have hg7 := he8.1
                      have hv0 : V 0 = (.agg #[(.int .u8 (((opN s : Nat) : Int))), (.int .u64 (126 : Int)), (.int .u64 (0 : Int)), (.slice none 0 0)]) := postsHold_at hp 0 rfl
                      have hv1 : V 1 = (.agg #[(.int .u8 (((opN s : Nat) : Int))), (.int .u64 (126 : Int)), (.int .u64 (0 : Int)), (.slice none 0 0)]) := postsHold_at hp 1 rfl
                      have hv2 : V 2 = (.string (lineP (opN s) (126 : Int) (0 : Int) [])) := postsHold_at hp 2 rfl
                      have hv3 : V 3 = (.string s) := postsHold_at hp 3 rfl
                      have hv4 : V 4 = (.bool (decide ((lineP (opN s) (126 : Int) (0 : Int) []) = s))) := postsHold_at hp 4 rfl
                      have hk9 := postsHold_at hp 5 rfl
                      simp only [List.take_succ_cons, List.take_zero, insAll, ins, hv0, hv1, hv2, hv3, hv4] at hf
                      clear hp hnb hv0 hv1 hv2 hv3 hv4
                      replace hk8 := blk_grown hk8 hg7 (by omega)
                      replace hra1 := Row.grown hra1 hg7 (Row.ne_type hra1 hkb1 rfl)
                      replace hra2 := Row.grown hra2 hg7 (Row.ne_type hra2 hkb1 rfl)
                      replace hb := hb.trans (grown_below hg7 hb.size hBb1)
                      replace hk9 : w13.heap[b1]? = some (.cells #[(.int .u8 (((opN s : Nat) : Int))), (.int .u64 (126 : Int)), (.int .u64 (0 : Int)), (.slice none 0 0)] 25 (0, 0)) := hk9
                      simp only [List.drop_succ_cons, List.drop_zero]
                      refine sqv hf (r_assign rfl) rfl rfl rfl ?_; clear hf fa; intro fa hf
                      apply wpList_nil
                      (try simp only [Exit.then, Exit.inBlock, ↓reduceIte, Nat.reduceEqDiff])
                      refine hK24 _ _ ?_
                      refine wp_ret ?_
                      (try simp only [Exit.then, Exit.inBlock])
                      refine retCT hf rfl rfl hk9 Tryd.underlying25 rfl (by kernel_rfl) rfl ?_
                      obtain ⟨e1, e2, e3, e4⟩ := q_yes hh.1
                      have hA : rqA s = (126 : Int) := by unfold rqA qaW; rw [if_neg (by have h0 := hqt49_1; have h1 := hqt49_3; have h2 := hqt52_1; omega), if_pos (by have h0 := hqt49_1; have h1 := hqt49_3; have h2 := hqt52_1; omega)]; rw [if_pos (show wd (wordsS s) ((wordsS s).length - 1) = (⟨#[105, 54, 52]⟩ : ByteArray) from hqt59_1)]
                      have hB : rqB s = (0 : Int) := by unfold rqB qbW; rw [if_neg (by have h0 := hqt49_1; have h1 := hqt49_3; have h2 := hqt52_1; omega)]
                      have hL : rqL s = [] := by unfold rqL qlW; rw [if_neg (by have h0 := hqt49_1; have h1 := hqt49_3; have h2 := hqt52_1; omega)]
                      have hK := rK_is hh.1 hA hB hL
                      rw [e1, e2, e3, e4, hA, hB, hL, hK]
                      exact ⟨_, rfl, _, _, rfl, Row.nil, hb⟩
                  · have hqt59_1b := hqt59_1
                    replace hqt59_1 := Bool.eq_false_iff.1 hqt59_1
                    try simp only [ne_eq, decide_eq_true_eq, Bool.and_eq_true, Bool.or_eq_true, Bool.not_eq_true', decide_eq_false_iff_not] at hqt59_1
                    refine wp_skip ?_
                    (try simp only [Exit.then, Exit.inBlock, ↓reduceIte, Nat.reduceEqDiff])
                    refine hK13 _ _ ?_
                    refine wp_seq_k (fun K25 hK25 => ?_)
                    skip
                    refine wp_region_unT 6 (fun wc => (w11.grownBy wc (some b1) ∧ (wc.heap[b1]? = some (.cells #[(.int .u8 (0 : Int)), (.int .u64 (0 : Int)), (.int .u64 (0 : Int)), (.slice none 0 0)] 25 (0, 0)) ∨ wc.heap[b1]? = some (.cells #[(.int .u8 (((opN s : Nat) : Int))), (.int .u64 (127 : Int)), (.int .u64 (0 : Int)), (.slice none 0 0)] 25 (0, 0))))) (fun wa wc => ((w11.grownBy wa (some b1) ∧ (wa.heap[b1]? = some (.cells #[(.int .u8 (0 : Int)), (.int .u64 (0 : Int)), (.int .u64 (0 : Int)), (.slice none 0 0)] 25 (0, 0)) ∨ wa.heap[b1]? = some (.cells #[(.int .u8 (((opN s : Nat) : Int))), (.int .u64 (127 : Int)), (.int .u64 (0 : Int)), (.slice none 0 0)] 25 (0, 0)))) → (w11.grownBy wc (some b1) ∧ (wc.heap[b1]? = some (.cells #[(.int .u8 (0 : Int)), (.int .u64 (0 : Int)), (.int .u64 (0 : Int)), (.slice none 0 0)] 25 (0, 0)) ∨ wc.heap[b1]? = some (.cells #[(.int .u8 (((opN s : Nat) : Int))), (.int .u64 (127 : Int)), (.int .u64 (0 : Int)), (.slice none 0 0)] 25 (0, 0))))) ∧ wa.heap.size ≤ wc.heap.size ∧ (wa.heap[b1]? = some (.cells #[(.int .u8 (((opN s : Nat) : Int))), (.int .u64 (127 : Int)), (.int .u64 (0 : Int)), (.slice none 0 0)] 25 (0, 0)) → wc.heap[b1]? = some (.cells #[(.int .u8 (((opN s : Nat) : Int))), (.int .u64 (127 : Int)), (.int .u64 (0 : Int)), (.slice none 0 0)] 25 (0, 0))))
                      (fun V => [(fun x _ => x = (.agg #[(.int .u8 (((opN s : Nat) : Int))), (.int .u64 (127 : Int)), (.int .u64 (0 : Int)), (.slice none 0 0)])), (fun x _ => x = (.agg #[(.int .u8 (((opN s : Nat) : Int))), (.int .u64 (127 : Int)), (.int .u64 (0 : Int)), (.slice none 0 0)])), (fun x _ => x = (.string (lineP (opN s) (127 : Int) (0 : Int) []))), (fun x _ => x = (.string s)), (fun x _ => x = (.bool (decide ((lineP (opN s) (127 : Int) (0 : Int) []) = s)))), (fun _ wq => wq.heap[b1]? = some (.cells #[(.int .u8 (((opN s : Nat) : Int))), (.int .u64 (127 : Int)), (.int .u64 (0 : Int)), (.slice none 0 0)] 25 (0, 0)))])
                      []
                      [[], [], [1], [], [2, 3], [0, 2], []]
                      hf (by kernel_rfl) (by kernel_rfl) (by kernel_rfl) (fun _ => rfl) ⟨below_grown (Below.refl _ _).drew, .inl (blk_ext hkb1 (Below.refl _ _).drew)⟩ (fun a b h1 h2 => h2.1 h1) (fun _ _ h => h.2.1) (fun V => ⟨(fun _ _ _ h _ => h), (fun _ _ _ h _ => h), (fun _ _ _ h _ => h), (fun _ _ _ h _ => h), (fun _ _ _ h _ => h), (fun _ _ _ h hG => hG.2.2 h), trivial⟩) (fun _ _ _ _ _ => rfl) ?_ ?_
                    · skip
                      intro V
                      refine ⟨fun wu0 hC hd => ?_, ?_⟩
                      · clear hd
                        have hgC := hC.1
                        replace hk7 := blk_grown hk7 hgC (by omega)
                        replace hra1 := Row.grown hra1 hgC (Row.ne_type hra1 hkb1 rfl)
                        replace hra2 := Row.grown hra2 hgC (Row.ne_type hra2 hkb1 rfl)
                        replace hb := hb.trans (grown_below hgC hb.size hBb1)
                        exact Runs.does (r_loadA (cs := [(.int .u8 (((opN s : Nat) : Int))), (.int .u64 (127 : Int)), (.int .u64 (0 : Int)), (.slice none 0 0)]) rfl Tryd.underlying25 rfl (by kernel_rfl) (cellsAt_blk hk7)) ⟨⟨id, Nat.le_refl _, id⟩, rfl, nofr rfl⟩
                      refine ⟨fun wu1 hC hd => ?_, ?_⟩
                      · clear hd
                        have hgC := hC.1
                        replace hk7 := blk_grown hk7 hgC (by omega)
                        replace hra1 := Row.grown hra1 hgC (Row.ne_type hra1 hkb1 rfl)
                        replace hra2 := Row.grown hra2 hgC (Row.ne_type hra2 hkb1 rfl)
                        replace hb := hb.trans (grown_below hgC hb.size hBb1)
                        exact Runs.does (r_loadA (cs := [(.int .u8 (((opN s : Nat) : Int))), (.int .u64 (127 : Int)), (.int .u64 (0 : Int)), (.slice none 0 0)]) rfl Tryd.underlying25 rfl (by kernel_rfl) (cellsAt_blk hk7)) ⟨⟨id, Nat.le_refl _, id⟩, rfl, nofr rfl⟩
                      refine ⟨fun wu2 hC hd => ?_, ?_⟩
                      · obtain ⟨h1, _⟩ := hd
                        replace h1 : V 1 = (.agg #[(.int .u8 (((opN s : Nat) : Int))), (.int .u64 (127 : Int)), (.int .u64 (0 : Int)), (.slice none 0 0)]) := h1
                        have hgC := hC.1
                        replace hk7 := blk_grown hk7 hgC (by omega)
                        replace hra1 := Row.grown hra1 hgC (Row.ne_type hra1 hkb1 rfl)
                        replace hra2 := Row.grown hra2 hgC (Row.ne_type hra2 hkb1 rfl)
                        replace hb := hb.trans (grown_below hgC hb.size hBb1)
                        refine Does.mono (d_callB (vs := [(.agg #[(.int .u8 (((opN s : Nat) : Int))), (.int .u64 (127 : Int)), (.int .u64 (0 : Int)), (.slice none 0 0)])]) (show [some (V 1)] = [some (.agg #[(.int .u8 (((opN s : Nat) : Int))), (.int .u64 (127 : Int)), (.int .u64 (0 : Int)), (.slice none 0 0)])] from by rw [h1]) Tryd.func8 (by kernel_rfl) (by kernel_rfl) (rline_any (opN s) (127 : Int) (0 : Int) [] none 0 _ RdS.nil (fun y hy => by cases hy) hop (by first | decide | exact tailP_rng _ _ | omega) (by first | decide | exact tailP_rng _ _ | omega) (Nat.le_refl 0) (by decide))) (fun _ _ h => ⟨⟨fun hc => ⟨grown_trans hc.1 (below_grown h.2), hc.2.imp (fun z => blk_ext z h.2) (fun z => blk_ext z h.2)⟩, h.2.size, fun z => blk_ext z h.2⟩, h.1, nofr rfl⟩)
                      refine ⟨fun wu3 hC hd => ?_, ?_⟩
                      · clear hd
                        have hgC := hC.1
                        replace hk7 := blk_grown hk7 hgC (by omega)
                        replace hra1 := Row.grown hra1 hgC (Row.ne_type hra1 hkb1 rfl)
                        replace hra2 := Row.grown hra2 hgC (Row.ne_type hra2 hkb1 rfl)
                        replace hb := hb.trans (grown_below hgC hb.size hBb1)
                        exact Runs.does (r_move rfl) ⟨⟨id, Nat.le_refl _, id⟩, rfl, nofr rfl⟩
                      refine ⟨fun wu4 hC hd => ?_, ?_⟩
                      · obtain ⟨h2, h3, _⟩ := hd
                        replace h2 : V 2 = (.string (lineP (opN s) (127 : Int) (0 : Int) [])) := h2
                        replace h3 : V 3 = (.string s) := h3
                        have hgC := hC.1
                        replace hk7 := blk_grown hk7 hgC (by omega)
                        replace hra1 := Row.grown hra1 hgC (Row.ne_type hra1 hkb1 rfl)
                        replace hra2 := Row.grown hra2 hgC (Row.ne_type hra2 hkb1 rfl)
                        replace hb := hb.trans (grown_below hgC hb.size hBb1)
                        exact Runs.does (r_seq (congrArg some h2) (congrArg some h3)) ⟨⟨id, Nat.le_refl _, id⟩, rfl, nofr rfl⟩
                      refine ⟨fun wu5 hC hd => ?_, ?_⟩
                      · obtain ⟨h0, h2, _⟩ := hd
                        replace h0 : V 0 = (.agg #[(.int .u8 (((opN s : Nat) : Int))), (.int .u64 (127 : Int)), (.int .u64 (0 : Int)), (.slice none 0 0)]) := h0
                        replace h2 : V 2 = (.string (lineP (opN s) (127 : Int) (0 : Int) [])) := h2
                        have hgC := hC.1
                        replace hk7 := blk_grown hk7 hgC (by omega)
                        replace hra1 := Row.grown hra1 hgC (Row.ne_type hra1 hkb1 rfl)
                        replace hra2 := Row.grown hra2 hgC (Row.ne_type hra2 hkb1 rfl)
                        replace hb := hb.trans (grown_below hgC hb.size hBb1)
                        rcases hC.2 with hX | hX
                        · refine Does.mono (d_storeK (T := 25) (v := (.agg #[(.int .u8 (((opN s : Nat) : Int))), (.int .u64 (127 : Int)), (.int .u64 (0 : Int)), (.slice none 0 0)])) (cs := #[(.int .u8 (0 : Int)), (.int .u64 (0 : Int)), (.int .u64 (0 : Int)), (.slice none 0 0)]) (cs' := #[(.int .u8 (((opN s : Nat) : Int))), (.int .u64 (127 : Int)), (.int .u64 (0 : Int)), (.slice none 0 0)]) rfl (congrArg some h0) (by kernel_rfl) (by kernel_rfl) hX (by kernel_rfl) (by kernel_rfl)) ?_
                          rintro _ wz ⟨hY, hgY⟩
                          exact ⟨⟨fun _ => ⟨grownBy_trans hgC hgY, .inr hY⟩, hgY.size, fun _ => hY⟩, hY, nofr rfl⟩
                        · refine Does.mono (d_storeK (T := 25) (v := (.agg #[(.int .u8 (((opN s : Nat) : Int))), (.int .u64 (127 : Int)), (.int .u64 (0 : Int)), (.slice none 0 0)])) (cs := #[(.int .u8 (((opN s : Nat) : Int))), (.int .u64 (127 : Int)), (.int .u64 (0 : Int)), (.slice none 0 0)]) (cs' := #[(.int .u8 (((opN s : Nat) : Int))), (.int .u64 (127 : Int)), (.int .u64 (0 : Int)), (.slice none 0 0)]) rfl (congrArg some h0) (by kernel_rfl) (by kernel_rfl) hX (by kernel_rfl) (by kernel_rfl)) ?_
                          rintro _ wz ⟨hY, hgY⟩
                          exact ⟨⟨fun _ => ⟨grownBy_trans hgC hgY, .inr hY⟩, hgY.size, fun _ => hY⟩, hY, nofr rfl⟩
                      trivial
                    · skip
                      clear hf fa; intro V w14 fa he9 hp hnb hf
                      have hg8 := he9.1
                      have hv0 : V 0 = (.agg #[(.int .u8 (((opN s : Nat) : Int))), (.int .u64 (127 : Int)), (.int .u64 (0 : Int)), (.slice none 0 0)]) := postsHold_at hp 0 rfl
                      have hv1 : V 1 = (.agg #[(.int .u8 (((opN s : Nat) : Int))), (.int .u64 (127 : Int)), (.int .u64 (0 : Int)), (.slice none 0 0)]) := postsHold_at hp 1 rfl
                      have hv2 : V 2 = (.string (lineP (opN s) (127 : Int) (0 : Int) [])) := postsHold_at hp 2 rfl
                      have hv3 : V 3 = (.string s) := postsHold_at hp 3 rfl
                      have hv4 : V 4 = (.bool (decide ((lineP (opN s) (127 : Int) (0 : Int) []) = s))) := postsHold_at hp 4 rfl
                      have hk10 := postsHold_at hp 5 rfl
                      simp only [List.take_succ_cons, List.take_zero, insAll, ins, hv0, hv1, hv2, hv3, hv4] at hf
                      clear hp hnb hv0 hv1 hv2 hv3 hv4
                      replace hk7 := blk_grown hk7 hg8 (by omega)
                      replace hra1 := Row.grown hra1 hg8 (Row.ne_type hra1 hkb1 rfl)
                      replace hra2 := Row.grown hra2 hg8 (Row.ne_type hra2 hkb1 rfl)
                      replace hb := hb.trans (grown_below hg8 hb.size hBb1)
                      replace hk10 : w14.heap[b1]? = some (.cells #[(.int .u8 (((opN s : Nat) : Int))), (.int .u64 (127 : Int)), (.int .u64 (0 : Int)), (.slice none 0 0)] 25 (0, 0)) := hk10
                      simp only [List.drop_succ_cons, List.drop_zero]
                      refine sqv hf (r_assign rfl) rfl rfl rfl ?_; clear hf fa; intro fa hf
                      apply wpList_nil
                      (try simp only [Exit.then, Exit.inBlock, ↓reduceIte, Nat.reduceEqDiff])
                      refine hK25 _ _ ?_
                      refine wp_ret ?_
                      (try simp only [Exit.then, Exit.inBlock])
                      refine retCT hf rfl rfl hk10 Tryd.underlying25 rfl (by kernel_rfl) rfl ?_
                      obtain ⟨e1, e2, e3, e4⟩ := q_yes hh.1
                      have hA : rqA s = (127 : Int) := by unfold rqA qaW; rw [if_neg (by have h0 := hqt49_1; have h1 := hqt49_3; have h2 := hqt52_1; omega), if_pos (by have h0 := hqt49_1; have h1 := hqt49_3; have h2 := hqt52_1; omega)]; rw [if_neg (show ¬ wd (wordsS s) ((wordsS s).length - 1) = (⟨#[105, 54, 52]⟩ : ByteArray) from hqt59_1), if_pos (show wd (wordsS s) ((wordsS s).length - 1) = (⟨#[105, 51, 50]⟩ : ByteArray) from hqt56_1)]
                      have hB : rqB s = (0 : Int) := by unfold rqB qbW; rw [if_neg (by have h0 := hqt49_1; have h1 := hqt49_3; have h2 := hqt52_1; omega)]
                      have hL : rqL s = [] := by unfold rqL qlW; rw [if_neg (by have h0 := hqt49_1; have h1 := hqt49_3; have h2 := hqt52_1; omega)]
                      have hK := rK_is hh.1 hA hB hL
                      rw [e1, e2, e3, e4, hA, hB, hL, hK]
                      exact ⟨_, rfl, _, _, rfl, Row.nil, hb⟩
                · have hqt56_1b := hqt56_1
                  replace hqt56_1 := Bool.eq_false_iff.1 hqt56_1
                  try simp only [ne_eq, decide_eq_true_eq, Bool.and_eq_true, Bool.or_eq_true, Bool.not_eq_true', decide_eq_false_iff_not] at hqt56_1
                  refine wp_skip ?_
                  (try simp only [Exit.then, Exit.inBlock, ↓reduceIte, Nat.reduceEqDiff])
                  refine hK21 _ _ ?_
                  refine wp_seq_k (fun K26 hK26 => ?_)
                  refine wp_region_lit ?_
                  refine sqv hf (r_move rfl) rfl rfl rfl ?_; clear hf fa; intro fa hf
                  refine sqv hf (r_seq rfl rfl) rfl rfl rfl ?_; clear hf fa; intro fa hf
                  apply wpList_nil
                  (try simp only [Exit.then, Exit.inBlock, ↓reduceIte, Nat.reduceEqDiff])
                  refine hK26 _ _ ?_
                  refine wp_cond_split (t := (decide ((lastP s) = ⟨#[105, 54, 52]⟩))) (hf.ev rfl) (fun hqt59_2 => ?_) (fun hqt59_2 => ?_)
                  · have hqt59_2b := hqt59_2
                    try simp only [decide_eq_true_eq, Bool.and_eq_true, Bool.or_eq_true, Bool.not_eq_true', decide_eq_false_iff_not, ne_eq, Bool.not_eq_true] at hqt59_2
                    refine wp_region_lit ?_
                    refine sqv hf (r_fa rfl Tryd.underlying25 (f := 1) (q := 1) rfl (by kernel_rfl) rfl) rfl rfl rfl ?_; clear hf fa; intro fa hf
                    refine sqn hf (d_storeK (T := 25) (v := (.int .u64 (126 : Int))) (cs := #[(.int .u8 (((opN s : Nat) : Int))), (.int .u64 (64 : Int)), (.int .u64 (0 : Int)), (.slice none 0 0)]) (cs' := #[(.int .u8 (((opN s : Nat) : Int))), (.int .u64 (126 : Int)), (.int .u64 (0 : Int)), (.slice none 0 0)]) rfl rfl (by kernel_rfl) (by kernel_rfl) hk6 (by kernel_rfl) (by kernel_rfl)) rfl rfl ?_; clear hf fa; rintro fa _ w15 ⟨hk11, hg9⟩ hf
                    replace hkb1 := blk_grown hkb1 hg9 (by omega)
                    replace hra1 := Row.grown hra1 hg9 (Row.ne_type hra1 hk6 rfl)
                    replace hra2 := Row.grown hra2 hg9 (Row.ne_type hra2 hk6 rfl)
                    replace hb := hb.trans (grown_below hg9 hb.size hBb2)
                    apply wpList_nil
                    (try simp only [Exit.then, Exit.inBlock, ↓reduceIte, Nat.reduceEqDiff])
                    refine hK13 _ _ ?_
                    refine wp_seq_k (fun K27 hK27 => ?_)
                    skip
                    refine wp_region_unT 6 (fun wc => (w15.grownBy wc (some b1) ∧ (wc.heap[b1]? = some (.cells #[(.int .u8 (0 : Int)), (.int .u64 (0 : Int)), (.int .u64 (0 : Int)), (.slice none 0 0)] 25 (0, 0)) ∨ wc.heap[b1]? = some (.cells #[(.int .u8 (((opN s : Nat) : Int))), (.int .u64 (126 : Int)), (.int .u64 (0 : Int)), (.slice none 0 0)] 25 (0, 0))))) (fun wa wc => ((w15.grownBy wa (some b1) ∧ (wa.heap[b1]? = some (.cells #[(.int .u8 (0 : Int)), (.int .u64 (0 : Int)), (.int .u64 (0 : Int)), (.slice none 0 0)] 25 (0, 0)) ∨ wa.heap[b1]? = some (.cells #[(.int .u8 (((opN s : Nat) : Int))), (.int .u64 (126 : Int)), (.int .u64 (0 : Int)), (.slice none 0 0)] 25 (0, 0)))) → (w15.grownBy wc (some b1) ∧ (wc.heap[b1]? = some (.cells #[(.int .u8 (0 : Int)), (.int .u64 (0 : Int)), (.int .u64 (0 : Int)), (.slice none 0 0)] 25 (0, 0)) ∨ wc.heap[b1]? = some (.cells #[(.int .u8 (((opN s : Nat) : Int))), (.int .u64 (126 : Int)), (.int .u64 (0 : Int)), (.slice none 0 0)] 25 (0, 0))))) ∧ wa.heap.size ≤ wc.heap.size ∧ (wa.heap[b1]? = some (.cells #[(.int .u8 (((opN s : Nat) : Int))), (.int .u64 (126 : Int)), (.int .u64 (0 : Int)), (.slice none 0 0)] 25 (0, 0)) → wc.heap[b1]? = some (.cells #[(.int .u8 (((opN s : Nat) : Int))), (.int .u64 (126 : Int)), (.int .u64 (0 : Int)), (.slice none 0 0)] 25 (0, 0))))
                      (fun V => [(fun x _ => x = (.agg #[(.int .u8 (((opN s : Nat) : Int))), (.int .u64 (126 : Int)), (.int .u64 (0 : Int)), (.slice none 0 0)])), (fun x _ => x = (.agg #[(.int .u8 (((opN s : Nat) : Int))), (.int .u64 (126 : Int)), (.int .u64 (0 : Int)), (.slice none 0 0)])), (fun x _ => x = (.string (lineP (opN s) (126 : Int) (0 : Int) []))), (fun x _ => x = (.string s)), (fun x _ => x = (.bool (decide ((lineP (opN s) (126 : Int) (0 : Int) []) = s)))), (fun _ wq => wq.heap[b1]? = some (.cells #[(.int .u8 (((opN s : Nat) : Int))), (.int .u64 (126 : Int)), (.int .u64 (0 : Int)), (.slice none 0 0)] 25 (0, 0)))])
                      []
                      [[], [], [1], [], [2, 3], [0, 2], []]
                      hf (by kernel_rfl) (by kernel_rfl) (by kernel_rfl) (fun _ => rfl) ⟨below_grown (Below.refl _ _).drew, .inl (blk_ext hkb1 (Below.refl _ _).drew)⟩ (fun a b h1 h2 => h2.1 h1) (fun _ _ h => h.2.1) (fun V => ⟨(fun _ _ _ h _ => h), (fun _ _ _ h _ => h), (fun _ _ _ h _ => h), (fun _ _ _ h _ => h), (fun _ _ _ h _ => h), (fun _ _ _ h hG => hG.2.2 h), trivial⟩) (fun _ _ _ _ _ => rfl) ?_ ?_
                    · skip
                      intro V
                      refine ⟨fun wu0 hC hd => ?_, ?_⟩
                      · clear hd
                        have hgC := hC.1
                        replace hk11 := blk_grown hk11 hgC (by omega)
                        replace hra1 := Row.grown hra1 hgC (Row.ne_type hra1 hkb1 rfl)
                        replace hra2 := Row.grown hra2 hgC (Row.ne_type hra2 hkb1 rfl)
                        replace hb := hb.trans (grown_below hgC hb.size hBb1)
                        exact Runs.does (r_loadA (cs := [(.int .u8 (((opN s : Nat) : Int))), (.int .u64 (126 : Int)), (.int .u64 (0 : Int)), (.slice none 0 0)]) rfl Tryd.underlying25 rfl (by kernel_rfl) (cellsAt_blk hk11)) ⟨⟨id, Nat.le_refl _, id⟩, rfl, nofr rfl⟩
                      refine ⟨fun wu1 hC hd => ?_, ?_⟩
                      · clear hd
                        have hgC := hC.1
                        replace hk11 := blk_grown hk11 hgC (by omega)
                        replace hra1 := Row.grown hra1 hgC (Row.ne_type hra1 hkb1 rfl)
                        replace hra2 := Row.grown hra2 hgC (Row.ne_type hra2 hkb1 rfl)
                        replace hb := hb.trans (grown_below hgC hb.size hBb1)
                        exact Runs.does (r_loadA (cs := [(.int .u8 (((opN s : Nat) : Int))), (.int .u64 (126 : Int)), (.int .u64 (0 : Int)), (.slice none 0 0)]) rfl Tryd.underlying25 rfl (by kernel_rfl) (cellsAt_blk hk11)) ⟨⟨id, Nat.le_refl _, id⟩, rfl, nofr rfl⟩
                      refine ⟨fun wu2 hC hd => ?_, ?_⟩
                      · obtain ⟨h1, _⟩ := hd
                        replace h1 : V 1 = (.agg #[(.int .u8 (((opN s : Nat) : Int))), (.int .u64 (126 : Int)), (.int .u64 (0 : Int)), (.slice none 0 0)]) := h1
                        have hgC := hC.1
                        replace hk11 := blk_grown hk11 hgC (by omega)
                        replace hra1 := Row.grown hra1 hgC (Row.ne_type hra1 hkb1 rfl)
                        replace hra2 := Row.grown hra2 hgC (Row.ne_type hra2 hkb1 rfl)
                        replace hb := hb.trans (grown_below hgC hb.size hBb1)
                        refine Does.mono (d_callB (vs := [(.agg #[(.int .u8 (((opN s : Nat) : Int))), (.int .u64 (126 : Int)), (.int .u64 (0 : Int)), (.slice none 0 0)])]) (show [some (V 1)] = [some (.agg #[(.int .u8 (((opN s : Nat) : Int))), (.int .u64 (126 : Int)), (.int .u64 (0 : Int)), (.slice none 0 0)])] from by rw [h1]) Tryd.func8 (by kernel_rfl) (by kernel_rfl) (rline_any (opN s) (126 : Int) (0 : Int) [] none 0 _ RdS.nil (fun y hy => by cases hy) hop (by first | decide | exact tailP_rng _ _ | omega) (by first | decide | exact tailP_rng _ _ | omega) (Nat.le_refl 0) (by decide))) (fun _ _ h => ⟨⟨fun hc => ⟨grown_trans hc.1 (below_grown h.2), hc.2.imp (fun z => blk_ext z h.2) (fun z => blk_ext z h.2)⟩, h.2.size, fun z => blk_ext z h.2⟩, h.1, nofr rfl⟩)
                      refine ⟨fun wu3 hC hd => ?_, ?_⟩
                      · clear hd
                        have hgC := hC.1
                        replace hk11 := blk_grown hk11 hgC (by omega)
                        replace hra1 := Row.grown hra1 hgC (Row.ne_type hra1 hkb1 rfl)
                        replace hra2 := Row.grown hra2 hgC (Row.ne_type hra2 hkb1 rfl)
                        replace hb := hb.trans (grown_below hgC hb.size hBb1)
                        exact Runs.does (r_move rfl) ⟨⟨id, Nat.le_refl _, id⟩, rfl, nofr rfl⟩
                      refine ⟨fun wu4 hC hd => ?_, ?_⟩
                      · obtain ⟨h2, h3, _⟩ := hd
                        replace h2 : V 2 = (.string (lineP (opN s) (126 : Int) (0 : Int) [])) := h2
                        replace h3 : V 3 = (.string s) := h3
                        have hgC := hC.1
                        replace hk11 := blk_grown hk11 hgC (by omega)
                        replace hra1 := Row.grown hra1 hgC (Row.ne_type hra1 hkb1 rfl)
                        replace hra2 := Row.grown hra2 hgC (Row.ne_type hra2 hkb1 rfl)
                        replace hb := hb.trans (grown_below hgC hb.size hBb1)
                        exact Runs.does (r_seq (congrArg some h2) (congrArg some h3)) ⟨⟨id, Nat.le_refl _, id⟩, rfl, nofr rfl⟩
                      refine ⟨fun wu5 hC hd => ?_, ?_⟩
                      · obtain ⟨h0, h2, _⟩ := hd
                        replace h0 : V 0 = (.agg #[(.int .u8 (((opN s : Nat) : Int))), (.int .u64 (126 : Int)), (.int .u64 (0 : Int)), (.slice none 0 0)]) := h0
                        replace h2 : V 2 = (.string (lineP (opN s) (126 : Int) (0 : Int) [])) := h2
                        have hgC := hC.1
                        replace hk11 := blk_grown hk11 hgC (by omega)
                        replace hra1 := Row.grown hra1 hgC (Row.ne_type hra1 hkb1 rfl)
                        replace hra2 := Row.grown hra2 hgC (Row.ne_type hra2 hkb1 rfl)
                        replace hb := hb.trans (grown_below hgC hb.size hBb1)
                        rcases hC.2 with hX | hX
                        · refine Does.mono (d_storeK (T := 25) (v := (.agg #[(.int .u8 (((opN s : Nat) : Int))), (.int .u64 (126 : Int)), (.int .u64 (0 : Int)), (.slice none 0 0)])) (cs := #[(.int .u8 (0 : Int)), (.int .u64 (0 : Int)), (.int .u64 (0 : Int)), (.slice none 0 0)]) (cs' := #[(.int .u8 (((opN s : Nat) : Int))), (.int .u64 (126 : Int)), (.int .u64 (0 : Int)), (.slice none 0 0)]) rfl (congrArg some h0) (by kernel_rfl) (by kernel_rfl) hX (by kernel_rfl) (by kernel_rfl)) ?_
                          rintro _ wz ⟨hY, hgY⟩
                          exact ⟨⟨fun _ => ⟨grownBy_trans hgC hgY, .inr hY⟩, hgY.size, fun _ => hY⟩, hY, nofr rfl⟩
                        · refine Does.mono (d_storeK (T := 25) (v := (.agg #[(.int .u8 (((opN s : Nat) : Int))), (.int .u64 (126 : Int)), (.int .u64 (0 : Int)), (.slice none 0 0)])) (cs := #[(.int .u8 (((opN s : Nat) : Int))), (.int .u64 (126 : Int)), (.int .u64 (0 : Int)), (.slice none 0 0)]) (cs' := #[(.int .u8 (((opN s : Nat) : Int))), (.int .u64 (126 : Int)), (.int .u64 (0 : Int)), (.slice none 0 0)]) rfl (congrArg some h0) (by kernel_rfl) (by kernel_rfl) hX (by kernel_rfl) (by kernel_rfl)) ?_
                          rintro _ wz ⟨hY, hgY⟩
                          exact ⟨⟨fun _ => ⟨grownBy_trans hgC hgY, .inr hY⟩, hgY.size, fun _ => hY⟩, hY, nofr rfl⟩
                      trivial
                    · skip
                      clear hf fa; intro V w16 fa he10 hp hnb hf
                      have hg10 := he10.1
                      have hv0 : V 0 = (.agg #[(.int .u8 (((opN s : Nat) : Int))), (.int .u64 (126 : Int)), (.int .u64 (0 : Int)), (.slice none 0 0)]) := postsHold_at hp 0 rfl
                      have hv1 : V 1 = (.agg #[(.int .u8 (((opN s : Nat) : Int))), (.int .u64 (126 : Int)), (.int .u64 (0 : Int)), (.slice none 0 0)]) := postsHold_at hp 1 rfl
                      have hv2 : V 2 = (.string (lineP (opN s) (126 : Int) (0 : Int) [])) := postsHold_at hp 2 rfl
                      have hv3 : V 3 = (.string s) := postsHold_at hp 3 rfl
                      have hv4 : V 4 = (.bool (decide ((lineP (opN s) (126 : Int) (0 : Int) []) = s))) := postsHold_at hp 4 rfl
                      have hk12 := postsHold_at hp 5 rfl
                      simp only [List.take_succ_cons, List.take_zero, insAll, ins, hv0, hv1, hv2, hv3, hv4] at hf
                      clear hp hnb hv0 hv1 hv2 hv3 hv4
                      replace hk11 := blk_grown hk11 hg10 (by omega)
                      replace hra1 := Row.grown hra1 hg10 (Row.ne_type hra1 hkb1 rfl)
                      replace hra2 := Row.grown hra2 hg10 (Row.ne_type hra2 hkb1 rfl)
                      replace hb := hb.trans (grown_below hg10 hb.size hBb1)
                      replace hk12 : w16.heap[b1]? = some (.cells #[(.int .u8 (((opN s : Nat) : Int))), (.int .u64 (126 : Int)), (.int .u64 (0 : Int)), (.slice none 0 0)] 25 (0, 0)) := hk12
                      simp only [List.drop_succ_cons, List.drop_zero]
                      refine sqv hf (r_assign rfl) rfl rfl rfl ?_; clear hf fa; intro fa hf
                      apply wpList_nil
                      (try simp only [Exit.then, Exit.inBlock, ↓reduceIte, Nat.reduceEqDiff])
                      refine hK27 _ _ ?_
                      refine wp_ret ?_
                      (try simp only [Exit.then, Exit.inBlock])
                      refine retCT hf rfl rfl hk12 Tryd.underlying25 rfl (by kernel_rfl) rfl ?_
                      obtain ⟨e1, e2, e3, e4⟩ := q_yes hh.1
                      have hA : rqA s = (126 : Int) := by unfold rqA qaW; rw [if_neg (by have h0 := hqt49_1; have h1 := hqt49_3; have h2 := hqt52_1; omega), if_pos (by have h0 := hqt49_1; have h1 := hqt49_3; have h2 := hqt52_1; omega)]; rw [if_pos (show wd (wordsS s) ((wordsS s).length - 1) = (⟨#[105, 54, 52]⟩ : ByteArray) from hqt59_2)]
                      have hB : rqB s = (0 : Int) := by unfold rqB qbW; rw [if_neg (by have h0 := hqt49_1; have h1 := hqt49_3; have h2 := hqt52_1; omega)]
                      have hL : rqL s = [] := by unfold rqL qlW; rw [if_neg (by have h0 := hqt49_1; have h1 := hqt49_3; have h2 := hqt52_1; omega)]
                      have hK := rK_is hh.1 hA hB hL
                      rw [e1, e2, e3, e4, hA, hB, hL, hK]
                      exact ⟨_, rfl, _, _, rfl, Row.nil, hb⟩
                  · have hqt59_2b := hqt59_2
                    replace hqt59_2 := Bool.eq_false_iff.1 hqt59_2
                    try simp only [ne_eq, decide_eq_true_eq, Bool.and_eq_true, Bool.or_eq_true, Bool.not_eq_true', decide_eq_false_iff_not] at hqt59_2
                    refine wp_skip ?_
                    (try simp only [Exit.then, Exit.inBlock, ↓reduceIte, Nat.reduceEqDiff])
                    refine hK13 _ _ ?_
                    refine wp_seq_k (fun K28 hK28 => ?_)
                    skip
                    refine wp_region_unT 6 (fun wc => (w10.grownBy wc (some b1) ∧ (wc.heap[b1]? = some (.cells #[(.int .u8 (0 : Int)), (.int .u64 (0 : Int)), (.int .u64 (0 : Int)), (.slice none 0 0)] 25 (0, 0)) ∨ wc.heap[b1]? = some (.cells #[(.int .u8 (((opN s : Nat) : Int))), (.int .u64 (64 : Int)), (.int .u64 (0 : Int)), (.slice none 0 0)] 25 (0, 0))))) (fun wa wc => ((w10.grownBy wa (some b1) ∧ (wa.heap[b1]? = some (.cells #[(.int .u8 (0 : Int)), (.int .u64 (0 : Int)), (.int .u64 (0 : Int)), (.slice none 0 0)] 25 (0, 0)) ∨ wa.heap[b1]? = some (.cells #[(.int .u8 (((opN s : Nat) : Int))), (.int .u64 (64 : Int)), (.int .u64 (0 : Int)), (.slice none 0 0)] 25 (0, 0)))) → (w10.grownBy wc (some b1) ∧ (wc.heap[b1]? = some (.cells #[(.int .u8 (0 : Int)), (.int .u64 (0 : Int)), (.int .u64 (0 : Int)), (.slice none 0 0)] 25 (0, 0)) ∨ wc.heap[b1]? = some (.cells #[(.int .u8 (((opN s : Nat) : Int))), (.int .u64 (64 : Int)), (.int .u64 (0 : Int)), (.slice none 0 0)] 25 (0, 0))))) ∧ wa.heap.size ≤ wc.heap.size ∧ (wa.heap[b1]? = some (.cells #[(.int .u8 (((opN s : Nat) : Int))), (.int .u64 (64 : Int)), (.int .u64 (0 : Int)), (.slice none 0 0)] 25 (0, 0)) → wc.heap[b1]? = some (.cells #[(.int .u8 (((opN s : Nat) : Int))), (.int .u64 (64 : Int)), (.int .u64 (0 : Int)), (.slice none 0 0)] 25 (0, 0))))
                      (fun V => [(fun x _ => x = (.agg #[(.int .u8 (((opN s : Nat) : Int))), (.int .u64 (64 : Int)), (.int .u64 (0 : Int)), (.slice none 0 0)])), (fun x _ => x = (.agg #[(.int .u8 (((opN s : Nat) : Int))), (.int .u64 (64 : Int)), (.int .u64 (0 : Int)), (.slice none 0 0)])), (fun x _ => x = (.string (lineP (opN s) (64 : Int) (0 : Int) []))), (fun x _ => x = (.string s)), (fun x _ => x = (.bool (decide ((lineP (opN s) (64 : Int) (0 : Int) []) = s)))), (fun _ wq => wq.heap[b1]? = some (.cells #[(.int .u8 (((opN s : Nat) : Int))), (.int .u64 (64 : Int)), (.int .u64 (0 : Int)), (.slice none 0 0)] 25 (0, 0)))])
                      []
                      [[], [], [1], [], [2, 3], [0, 2], []]
                      hf (by kernel_rfl) (by kernel_rfl) (by kernel_rfl) (fun _ => rfl) ⟨below_grown (Below.refl _ _).drew, .inl (blk_ext hkb1 (Below.refl _ _).drew)⟩ (fun a b h1 h2 => h2.1 h1) (fun _ _ h => h.2.1) (fun V => ⟨(fun _ _ _ h _ => h), (fun _ _ _ h _ => h), (fun _ _ _ h _ => h), (fun _ _ _ h _ => h), (fun _ _ _ h _ => h), (fun _ _ _ h hG => hG.2.2 h), trivial⟩) (fun _ _ _ _ _ => rfl) ?_ ?_
                    · skip
                      intro V
                      refine ⟨fun wu0 hC hd => ?_, ?_⟩
                      · clear hd
                        have hgC := hC.1
                        replace hk6 := blk_grown hk6 hgC (by omega)
                        replace hra1 := Row.grown hra1 hgC (Row.ne_type hra1 hkb1 rfl)
                        replace hra2 := Row.grown hra2 hgC (Row.ne_type hra2 hkb1 rfl)
                        replace hb := hb.trans (grown_below hgC hb.size hBb1)
                        exact Runs.does (r_loadA (cs := [(.int .u8 (((opN s : Nat) : Int))), (.int .u64 (64 : Int)), (.int .u64 (0 : Int)), (.slice none 0 0)]) rfl Tryd.underlying25 rfl (by kernel_rfl) (cellsAt_blk hk6)) ⟨⟨id, Nat.le_refl _, id⟩, rfl, nofr rfl⟩
                      refine ⟨fun wu1 hC hd => ?_, ?_⟩
                      · clear hd
                        have hgC := hC.1
                        replace hk6 := blk_grown hk6 hgC (by omega)
                        replace hra1 := Row.grown hra1 hgC (Row.ne_type hra1 hkb1 rfl)
                        replace hra2 := Row.grown hra2 hgC (Row.ne_type hra2 hkb1 rfl)
                        replace hb := hb.trans (grown_below hgC hb.size hBb1)
                        exact Runs.does (r_loadA (cs := [(.int .u8 (((opN s : Nat) : Int))), (.int .u64 (64 : Int)), (.int .u64 (0 : Int)), (.slice none 0 0)]) rfl Tryd.underlying25 rfl (by kernel_rfl) (cellsAt_blk hk6)) ⟨⟨id, Nat.le_refl _, id⟩, rfl, nofr rfl⟩
                      refine ⟨fun wu2 hC hd => ?_, ?_⟩
                      · obtain ⟨h1, _⟩ := hd
                        replace h1 : V 1 = (.agg #[(.int .u8 (((opN s : Nat) : Int))), (.int .u64 (64 : Int)), (.int .u64 (0 : Int)), (.slice none 0 0)]) := h1
                        have hgC := hC.1
                        replace hk6 := blk_grown hk6 hgC (by omega)
                        replace hra1 := Row.grown hra1 hgC (Row.ne_type hra1 hkb1 rfl)
                        replace hra2 := Row.grown hra2 hgC (Row.ne_type hra2 hkb1 rfl)
                        replace hb := hb.trans (grown_below hgC hb.size hBb1)
                        refine Does.mono (d_callB (vs := [(.agg #[(.int .u8 (((opN s : Nat) : Int))), (.int .u64 (64 : Int)), (.int .u64 (0 : Int)), (.slice none 0 0)])]) (show [some (V 1)] = [some (.agg #[(.int .u8 (((opN s : Nat) : Int))), (.int .u64 (64 : Int)), (.int .u64 (0 : Int)), (.slice none 0 0)])] from by rw [h1]) Tryd.func8 (by kernel_rfl) (by kernel_rfl) (rline_any (opN s) (64 : Int) (0 : Int) [] none 0 _ RdS.nil (fun y hy => by cases hy) hop (by first | decide | exact tailP_rng _ _ | omega) (by first | decide | exact tailP_rng _ _ | omega) (Nat.le_refl 0) (by decide))) (fun _ _ h => ⟨⟨fun hc => ⟨grown_trans hc.1 (below_grown h.2), hc.2.imp (fun z => blk_ext z h.2) (fun z => blk_ext z h.2)⟩, h.2.size, fun z => blk_ext z h.2⟩, h.1, nofr rfl⟩)
                      refine ⟨fun wu3 hC hd => ?_, ?_⟩
                      · clear hd
                        have hgC := hC.1
                        replace hk6 := blk_grown hk6 hgC (by omega)
                        replace hra1 := Row.grown hra1 hgC (Row.ne_type hra1 hkb1 rfl)
                        replace hra2 := Row.grown hra2 hgC (Row.ne_type hra2 hkb1 rfl)
                        replace hb := hb.trans (grown_below hgC hb.size hBb1)
                        exact Runs.does (r_move rfl) ⟨⟨id, Nat.le_refl _, id⟩, rfl, nofr rfl⟩
                      refine ⟨fun wu4 hC hd => ?_, ?_⟩
                      · obtain ⟨h2, h3, _⟩ := hd
                        replace h2 : V 2 = (.string (lineP (opN s) (64 : Int) (0 : Int) [])) := h2
                        replace h3 : V 3 = (.string s) := h3
                        have hgC := hC.1
                        replace hk6 := blk_grown hk6 hgC (by omega)
                        replace hra1 := Row.grown hra1 hgC (Row.ne_type hra1 hkb1 rfl)
                        replace hra2 := Row.grown hra2 hgC (Row.ne_type hra2 hkb1 rfl)
                        replace hb := hb.trans (grown_below hgC hb.size hBb1)
                        exact Runs.does (r_seq (congrArg some h2) (congrArg some h3)) ⟨⟨id, Nat.le_refl _, id⟩, rfl, nofr rfl⟩
                      refine ⟨fun wu5 hC hd => ?_, ?_⟩
                      · obtain ⟨h0, h2, _⟩ := hd
                        replace h0 : V 0 = (.agg #[(.int .u8 (((opN s : Nat) : Int))), (.int .u64 (64 : Int)), (.int .u64 (0 : Int)), (.slice none 0 0)]) := h0
                        replace h2 : V 2 = (.string (lineP (opN s) (64 : Int) (0 : Int) [])) := h2
                        have hgC := hC.1
                        replace hk6 := blk_grown hk6 hgC (by omega)
                        replace hra1 := Row.grown hra1 hgC (Row.ne_type hra1 hkb1 rfl)
                        replace hra2 := Row.grown hra2 hgC (Row.ne_type hra2 hkb1 rfl)
                        replace hb := hb.trans (grown_below hgC hb.size hBb1)
                        rcases hC.2 with hX | hX
                        · refine Does.mono (d_storeK (T := 25) (v := (.agg #[(.int .u8 (((opN s : Nat) : Int))), (.int .u64 (64 : Int)), (.int .u64 (0 : Int)), (.slice none 0 0)])) (cs := #[(.int .u8 (0 : Int)), (.int .u64 (0 : Int)), (.int .u64 (0 : Int)), (.slice none 0 0)]) (cs' := #[(.int .u8 (((opN s : Nat) : Int))), (.int .u64 (64 : Int)), (.int .u64 (0 : Int)), (.slice none 0 0)]) rfl (congrArg some h0) (by kernel_rfl) (by kernel_rfl) hX (by kernel_rfl) (by kernel_rfl)) ?_
                          rintro _ wz ⟨hY, hgY⟩
                          exact ⟨⟨fun _ => ⟨grownBy_trans hgC hgY, .inr hY⟩, hgY.size, fun _ => hY⟩, hY, nofr rfl⟩
                        · refine Does.mono (d_storeK (T := 25) (v := (.agg #[(.int .u8 (((opN s : Nat) : Int))), (.int .u64 (64 : Int)), (.int .u64 (0 : Int)), (.slice none 0 0)])) (cs := #[(.int .u8 (((opN s : Nat) : Int))), (.int .u64 (64 : Int)), (.int .u64 (0 : Int)), (.slice none 0 0)]) (cs' := #[(.int .u8 (((opN s : Nat) : Int))), (.int .u64 (64 : Int)), (.int .u64 (0 : Int)), (.slice none 0 0)]) rfl (congrArg some h0) (by kernel_rfl) (by kernel_rfl) hX (by kernel_rfl) (by kernel_rfl)) ?_
                          rintro _ wz ⟨hY, hgY⟩
                          exact ⟨⟨fun _ => ⟨grownBy_trans hgC hgY, .inr hY⟩, hgY.size, fun _ => hY⟩, hY, nofr rfl⟩
                      trivial
                    · skip
                      clear hf fa; intro V w17 fa he11 hp hnb hf
                      have hg11 := he11.1
                      have hv0 : V 0 = (.agg #[(.int .u8 (((opN s : Nat) : Int))), (.int .u64 (64 : Int)), (.int .u64 (0 : Int)), (.slice none 0 0)]) := postsHold_at hp 0 rfl
                      have hv1 : V 1 = (.agg #[(.int .u8 (((opN s : Nat) : Int))), (.int .u64 (64 : Int)), (.int .u64 (0 : Int)), (.slice none 0 0)]) := postsHold_at hp 1 rfl
                      have hv2 : V 2 = (.string (lineP (opN s) (64 : Int) (0 : Int) [])) := postsHold_at hp 2 rfl
                      have hv3 : V 3 = (.string s) := postsHold_at hp 3 rfl
                      have hv4 : V 4 = (.bool (decide ((lineP (opN s) (64 : Int) (0 : Int) []) = s))) := postsHold_at hp 4 rfl
                      have hk13 := postsHold_at hp 5 rfl
                      simp only [List.take_succ_cons, List.take_zero, insAll, ins, hv0, hv1, hv2, hv3, hv4] at hf
                      clear hp hnb hv0 hv1 hv2 hv3 hv4
                      replace hk6 := blk_grown hk6 hg11 (by omega)
                      replace hra1 := Row.grown hra1 hg11 (Row.ne_type hra1 hkb1 rfl)
                      replace hra2 := Row.grown hra2 hg11 (Row.ne_type hra2 hkb1 rfl)
                      replace hb := hb.trans (grown_below hg11 hb.size hBb1)
                      replace hk13 : w17.heap[b1]? = some (.cells #[(.int .u8 (((opN s : Nat) : Int))), (.int .u64 (64 : Int)), (.int .u64 (0 : Int)), (.slice none 0 0)] 25 (0, 0)) := hk13
                      simp only [List.drop_succ_cons, List.drop_zero]
                      refine sqv hf (r_assign rfl) rfl rfl rfl ?_; clear hf fa; intro fa hf
                      apply wpList_nil
                      (try simp only [Exit.then, Exit.inBlock, ↓reduceIte, Nat.reduceEqDiff])
                      refine hK28 _ _ ?_
                      refine wp_ret ?_
                      (try simp only [Exit.then, Exit.inBlock])
                      refine retCT hf rfl rfl hk13 Tryd.underlying25 rfl (by kernel_rfl) rfl ?_
                      obtain ⟨e1, e2, e3, e4⟩ := q_yes hh.1
                      have hA : rqA s = (64 : Int) := by unfold rqA qaW; rw [if_neg (by have h0 := hqt49_1; have h1 := hqt49_3; have h2 := hqt52_1; omega), if_pos (by have h0 := hqt49_1; have h1 := hqt49_3; have h2 := hqt52_1; omega)]; rw [if_neg (show ¬ wd (wordsS s) ((wordsS s).length - 1) = (⟨#[105, 54, 52]⟩ : ByteArray) from hqt59_2), if_neg (show ¬ wd (wordsS s) ((wordsS s).length - 1) = (⟨#[105, 51, 50]⟩ : ByteArray) from hqt56_1)]
                      have hB : rqB s = (0 : Int) := by unfold rqB qbW; rw [if_neg (by have h0 := hqt49_1; have h1 := hqt49_3; have h2 := hqt52_1; omega)]
                      have hL : rqL s = [] := by unfold rqL qlW; rw [if_neg (by have h0 := hqt49_1; have h1 := hqt49_3; have h2 := hqt52_1; omega)]
                      have hK := rK_is hh.1 hA hB hL
                      rw [e1, e2, e3, e4, hA, hB, hL, hK]
                      exact ⟨_, rfl, _, _, rfl, Row.nil, hb⟩
              · have hqt52_1b := hqt52_1
                replace hqt52_1 := Bool.eq_false_iff.1 hqt52_1
                try simp only [ne_eq, decide_eq_true_eq, Bool.and_eq_true, Bool.or_eq_true, Bool.not_eq_true', decide_eq_false_iff_not] at hqt52_1
                refine wp_seq_k (fun K29 hK29 => ?_)
                refine wp_region_lit ?_
                refine sqv hf (r_eq rfl rfl) rfl rfl rfl ?_; clear hf fa; intro fa hf
                refine sqv hf (r_assign rfl) rfl rfl rfl ?_; clear hf fa; intro fa hf
                apply wpList_nil
                (try simp only [Exit.then, Exit.inBlock, ↓reduceIte, Nat.reduceEqDiff])
                refine hK29 _ _ ?_
                refine wp_cond_split (t := (decide ((((infP (opN s)).2.1)) = (3 : Int)))) (hf.ev rfl) (fun hqt61_1 => ?_) (fun hqt61_1 => ?_)
                · have hqt61_1b := hqt61_1
                  try simp only [decide_eq_true_eq, Bool.and_eq_true, Bool.or_eq_true, Bool.not_eq_true', decide_eq_false_iff_not, ne_eq, Bool.not_eq_true] at hqt61_1
                  refine wp_seq_k (fun K30 hK30 => ?_)
                  refine wp_seq_k (fun K31 hK31 => ?_)
                  refine wp_region_lit ?_
                  refine sqv hf (r_assign rfl) rfl rfl rfl ?_; clear hf fa; intro fa hf
                  apply wpList_nil
                  (try simp only [Exit.then, Exit.inBlock, ↓reduceIte, Nat.reduceEqDiff])
                  refine hK31 _ _ ?_
                  refine wp_block ?_
                  refine wp_loop_k (fun mq fa wr => ∃ (nn : Nat) (roa : Option Addr) (roc : Nat), mq = ((wordsS s).length) - nn ∧ Fr 112 fa [(0, (.string s)), (2, (.pointer (some ⟨b1, 0, none⟩))), (4, (.slice (some ⟨rb1, 0, none⟩) ((((wordsS s)).length)) rc1)), (7, (.pointer (some ⟨b2, 0, none⟩))), (8, (.string (lastP s))), (9, (.int .i64 (((nn + 1) : Nat) : Int)))] ∧ Below w.heap.size w wr ∧ Row 1 (vInt .u32) 62 (w.heap.size) wr (.slice roa (((((wsP s).take nn).map tlN)).length) roc) (((wsP s).take nn).map tlN) ∧ Row 1 vStr 9 (w.heap.size) wr (.slice (some ⟨rb1, 0, none⟩) (((((wordsS s)).length))) rc1) (wordsS s) ∧ wr.heap[b1]? = some (.cells #[(.int .u8 (0 : Int)), (.int .u64 (0 : Int)), (.int .u64 (0 : Int)), (.slice none 0 0)] 25 (0, 0)) ∧ wr.heap[b2]? = some (.cells #[(.int .u8 (((opN s : Nat) : Int))), (.int .u64 (0 : Int)), (.int .u64 (0 : Int)), (.slice roa ((((wsP s).take nn).map tlN).length) roc)] 25 (0, 0)) ∧ (nn ≤ ((wordsS s).length) - 2)) ?_ ?_
                  · skip
                    exact ⟨_, 0, none, 0, rfl, hf.sub ⟨rfl, rfl, rfl, rfl, rfl, (some_int (by first | rfl | omega)), trivial⟩, hb, Row.nil, hra1, hkb1, hk3, by omega⟩
                  · skip
                    clear hf fa; intro mq2 fa w18 hI KL2 hKL2
                    clear hb
                    clear hkb1
                    clear hk3
                    clear hra1
                    clear hra2
                    obtain ⟨nn, roa, roc, hmq2, hf, hb, hro, hra1, hkb1, hkb2, hj⟩ := hI
                    have hcro := Row.caps hro
                    have hcra1 := Row.caps hra1
                    have hol : (((wsP s).take nn).map tlN).length ≤ 100000 := by rw [List.length_map, List.length_take]; omega
                    refine wp_seq_k (fun K32 hK32 => ?_)
                    refine wp_seq_k (fun K33 hK33 => ?_)
                    refine wp_region_lit ?_
                    refine sqv hf (r_move rfl) rfl rfl rfl ?_; clear hf fa; intro fa hf
                    refine sqv hf (r_move rfl) rfl rfl rfl ?_; clear hf fa; intro fa hf
                    refine sqv hf (r_lensl rfl Tryd.underlying43) rfl rfl rfl ?_; clear hf fa; intro fa hf
                    refine sqv hf (r_sub (C := (((((((wordsS s)).length)) : Nat) : Int) - (1 : Int))) rfl rfl (by rw [IntKind.wrap_i64]; omega)) rfl rfl rfl ?_; clear hf fa; intro fa hf
                    refine sqv hf (r_lt rfl rfl) rfl rfl rfl ?_; clear hf fa; intro fa hf
                    apply wpList_nil
                    (try simp only [Exit.then, Exit.inBlock, ↓reduceIte, Nat.reduceEqDiff])
                    refine hK33 _ _ ?_
                    refine wp_cond_split (t := (decide ((((nn + 1) : Nat) : Int) < (((((((wordsS s)).length)) : Nat) : Int) - (1 : Int))))) (hf.ev rfl) (fun hqt67_1 => ?_) (fun hqt67_1 => ?_)
                    · have hqt67_1b := hqt67_1
                      try simp only [decide_eq_true_eq, Bool.and_eq_true, Bool.or_eq_true, Bool.not_eq_true', decide_eq_false_iff_not, ne_eq, Bool.not_eq_true] at hqt67_1
                      refine wp_skip ?_
                      (try simp only [Exit.then, Exit.inBlock, ↓reduceIte, Nat.reduceEqDiff])
                      refine hK32 _ _ ?_
                      refine wp_seq_k (fun K34 hK34 => ?_)
                      refine wp_block ?_
                      obtain ⟨y, hy⟩ : ∃ y, (wordsS s)[nn + 1]? = some y := ⟨_, List.getElem?_eq_getElem (by omega)⟩
                      have hyw : (wsP s)[nn]? = some y := by unfold wsP; rw [List.getElem?_drop, Nat.add_comm]; exact hy
                      have hyz := hwn.2.2 y (List.mem_of_getElem? hy)
                      have hap : ((((wsP s).take nn).map tlN) ++ [tlN y]).length = (((wsP s).take nn).map tlN).length + 1 := by rw [List.length_append]; rfl
                      have hy6 : ((wordsS s))[((nn + 1))]? = some y := hy
                      have hel6 := RdS.at (Row.rd (by intros; rfl) hra1) hy6
                      obtain ⟨_, _, hab, hlr6, hel6⟩ := hel6
                      cases hab
                      have hlW : b2 < w18.heap.size := blk_lt hkb2
                      have hlV := fun q (hq : ((Value.slice roa (((((wsP s).take nn).map tlN)).length) roc)).ownBlock = some q) => (Row.lt hro q hq).2
                      have hne_hel6 : rb1 ≠ b2 := fun e => Row.ne_type hra1 hkb2 rfl (congrArg some e)
                      have hno_hel6 : ((Value.slice roa (((((wsP s).take nn).map tlN)).length) roc)).ownBlock ≠ some rb1 := Row.ne_row hra1 hro rfl rb1 rfl
                      refine wp_region_vnT 10 (fun S wq => GO w18 b2 (Value.slice roa (((((wsP s).take nn).map tlN)).length) roc) wq ∧ (¬ S 9 → Row 1 (vInt .u32) 62 (w.heap.size) wq (Value.slice roa (((((wsP s).take nn).map tlN)).length) roc) (((wsP s).take nn).map tlN)) ∧ (¬ S 1 → wq.heap[b2]? = some (.cells #[(.int .u8 (((opN s : Nat) : Int))), (.int .u64 (0 : Int)), (.int .u64 (0 : Int)), (.slice roa ((((wsP s).take nn).map tlN).length) roc)] 25 (0, 0))) ∧ (S 1 → wq.heap[b2]? = some (.cells #[(.int .u8 (((opN s : Nat) : Int))), (.int .u64 (0 : Int)), (.int .u64 (0 : Int)), (.slice roa ((((wsP s).take nn).map tlN).length) roc)] 25 (0, 0))))
                        (fun V S => [(fun x _ => x = (.pointer (some ⟨b2, 3, none⟩))), (fun x _ => x = (.slice roa ((((wsP s).take nn).map tlN).length) roc)), (fun x _ => x = (.slice (some ⟨rb1, 0, none⟩) (((((wordsS s)).length))) rc1)), (fun x _ => x = (.int .i64 (((nn + 1) : Nat) : Int))), (fun x _ => x = (.pointer (some ⟨rb1, (0 + ((nn + 1)) * 1), none⟩))), (fun x _ => x = (.string y)), (fun x _ => x = (.int .u64 ((tailP y (⟨#[]⟩ : ByteArray))))), (fun x _ => x = (.int .u32 ((tlN y)))), (fun x wq => ∃ b, x = .slice (some ⟨b, 0, none⟩) 1 1 ∧ w18.heap.size ≤ b ∧ wq.heap[b]? = some (.cells #[(.int .u32 ((tlN y)))] 62 (0, 0))), (fun x wq => ∃ a c, x = .slice a ((((wsP s).take nn).map tlN) ++ [((tlN y))]).length c ∧ Row 1 (vInt .u32) 62 (w.heap.size) wq x ((((wsP s).take nn).map tlN) ++ [((tlN y))]))])
                        [8]
                        [[], [0], [], [], [2, 3], [4], [5], [6], [7], [1, 6, 8], [], []]
                        hf (by kernel_rfl) (by kernel_rfl) (by kernel_rfl) (fun _ _ => rfl) (fun S hS => ⟨(GO.refl _ _ _).below (Below.refl _ _).drew, fun _ => Row.ext hro (Below.refl _ _).drew, fun _ => blk_ext hkb2 (Below.refl _ _).drew, fun h => absurd h (hS _)⟩) (fun _ _ _ _ _ _ => rfl) ?_ ?_
                      · skip
                        intro V
                        have hKP : ∀ (i : Nat) (S : Nat → Prop) (wk : World), ∀ j v w', (((fun (S : Nat → Prop) => ([(fun x _ => x = (.pointer (some ⟨b2, 3, none⟩))), (fun x _ => x = (.slice roa ((((wsP s).take nn).map tlN).length) roc)), (fun x _ => x = (.slice (some ⟨rb1, 0, none⟩) (((((wordsS s)).length))) rc1)), (fun x _ => x = (.int .i64 (((nn + 1) : Nat) : Int))), (fun x _ => x = (.pointer (some ⟨rb1, (0 + ((nn + 1)) * 1), none⟩))), (fun x _ => x = (.string y)), (fun x _ => x = (.int .u64 ((tailP y (⟨#[]⟩ : ByteArray))))), (fun x _ => x = (.int .u32 ((tlN y)))), (fun x wq => ∃ b, x = .slice (some ⟨b, 0, none⟩) 1 1 ∧ w18.heap.size ≤ b ∧ wq.heap[b]? = some (.cells #[(.int .u32 ((tlN y)))] 62 (0, 0))), (fun x wq => ∃ a c, x = .slice a ((((wsP s).take nn).map tlN) ++ [((tlN y))]).length c ∧ Row 1 (vInt .u32) 62 (w.heap.size) wq x ((((wsP s).take nn).map tlN) ++ [((tlN y))]))] : List (Value → World → Prop))) S).getD j (fun _ _ => True)) v wk → Below wk.heap.size wk w' → (((fun (S : Nat → Prop) => ([(fun x _ => x = (.pointer (some ⟨b2, 3, none⟩))), (fun x _ => x = (.slice roa ((((wsP s).take nn).map tlN).length) roc)), (fun x _ => x = (.slice (some ⟨rb1, 0, none⟩) (((((wordsS s)).length))) rc1)), (fun x _ => x = (.int .i64 (((nn + 1) : Nat) : Int))), (fun x _ => x = (.pointer (some ⟨rb1, (0 + ((nn + 1)) * 1), none⟩))), (fun x _ => x = (.string y)), (fun x _ => x = (.int .u64 ((tailP y (⟨#[]⟩ : ByteArray))))), (fun x _ => x = (.int .u32 ((tlN y)))), (fun x wq => ∃ b, x = .slice (some ⟨b, 0, none⟩) 1 1 ∧ w18.heap.size ≤ b ∧ wq.heap[b]? = some (.cells #[(.int .u32 ((tlN y)))] 62 (0, 0))), (fun x wq => ∃ a c, x = .slice a ((((wsP s).take nn).map tlN) ++ [((tlN y))]).length c ∧ Row 1 (vInt .u32) 62 (w.heap.size) wq x ((((wsP s).take nn).map tlN) ++ [((tlN y))]))] : List (Value → World → Prop))) (ad i S)).getD j (fun _ _ => True)) v w' := by
                          intro i S wk j v w' h hB
                          match j with
                          | 0 =>
                            exact h
                          | 1 =>
                            exact h
                          | 2 =>
                            exact h
                          | 3 =>
                            exact h
                          | 4 =>
                            exact h
                          | 5 =>
                            exact h
                          | 6 =>
                            exact h
                          | 7 =>
                            exact h
                          | 8 =>
                            obtain ⟨b, e1, e2, e3⟩ := h
                            exact ⟨b, e1, e2, blk_ext e3 hB⟩
                          | 9 =>
                            exact keptApp _ _ _ h hB
                          | _ + 10 => trivial
                        refine ⟨fun S wu0 hC hS hd hi => ?_, ?_⟩
                        · skip
                          replace hC : GO w18 b2 (Value.slice roa (((((wsP s).take nn).map tlN)).length) roc) wu0 ∧ (¬ S 9 → Row 1 (vInt .u32) 62 (w.heap.size) wu0 (Value.slice roa (((((wsP s).take nn).map tlN)).length) roc) (((wsP s).take nn).map tlN)) ∧ (¬ S 1 → wu0.heap[b2]? = some (.cells #[(.int .u8 (((opN s : Nat) : Int))), (.int .u64 (0 : Int)), (.int .u64 (0 : Int)), (.slice roa ((((wsP s).take nn).map tlN).length) roc)] 25 (0, 0))) ∧ (S 1 → wu0.heap[b2]? = some (.cells #[(.int .u8 (((opN s : Nat) : Int))), (.int .u64 (0 : Int)), (.int .u64 (0 : Int)), (.slice roa ((((wsP s).take nn).map tlN).length) roc)] 25 (0, 0))) := hC
                          refine uv_plain (C := (fun S wq => GO w18 b2 (Value.slice roa (((((wsP s).take nn).map tlN)).length) roc) wq ∧ (¬ S 9 → Row 1 (vInt .u32) 62 (w.heap.size) wq (Value.slice roa (((((wsP s).take nn).map tlN)).length) roc) (((wsP s).take nn).map tlN)) ∧ (¬ S 1 → wq.heap[b2]? = some (.cells #[(.int .u8 (((opN s : Nat) : Int))), (.int .u64 (0 : Int)), (.int .u64 (0 : Int)), (.slice roa ((((wsP s).take nn).map tlN).length) roc)] 25 (0, 0))) ∧ (S 1 → wq.heap[b2]? = some (.cells #[(.int .u8 (((opN s : Nat) : Int))), (.int .u64 (0 : Int)), (.int .u64 (0 : Int)), (.slice roa ((((wsP s).take nn).map tlN).length) roc)] 25 (0, 0))))) (hKP 0 S wu0) (fun w' h1 h2 => ⟨h1.1.below h2, fun hn => Row.ext (h1.2.1 (fun hs => hn (.inr hs))) h2, fun hn => blk_ext (h1.2.2.1 (fun hs => hn (.inr hs))) h2, fun hs => blk_ext (h1.2.2.2 (by rcases hs with e | hs; exact absurd e (by decide); exact hs)) h2⟩) hC hS ?_
                          obtain ⟨hC, hCr, hCo, hCn⟩ := hC
                          replace hkb1 := blk_go hkb1 hC (by omega) (Row.ne_type hro hkb1 rfl)
                          replace hra1 := Row.go hra1 hC (Row.ne_type hra1 hkb2 rfl) (Row.ne_row hra1 hro rfl)
                          have hKb : wu0.heap[b2]? = some (.cells #[(.int .u8 (((opN s : Nat) : Int))), (.int .u64 (0 : Int)), (.int .u64 (0 : Int)), (.slice roa ((((wsP s).take nn).map tlN).length) roc)] 25 (0, 0)) := by by_cases hz : S 1; exact hCn hz; exact hCo hz
                          replace hkb2 := hKb
                          exact Runs.does (r_fa rfl Tryd.underlying25 (f := 3) (q := 3) rfl (by kernel_rfl) rfl) ⟨Below.refl _ _, rfl, nofr rfl⟩
                        refine ⟨fun S wu1 hC hS hd hi => ?_, ?_⟩
                        · skip
                          replace hC : GO w18 b2 (Value.slice roa (((((wsP s).take nn).map tlN)).length) roc) wu1 ∧ (¬ S 9 → Row 1 (vInt .u32) 62 (w.heap.size) wu1 (Value.slice roa (((((wsP s).take nn).map tlN)).length) roc) (((wsP s).take nn).map tlN)) ∧ (¬ S 1 → wu1.heap[b2]? = some (.cells #[(.int .u8 (((opN s : Nat) : Int))), (.int .u64 (0 : Int)), (.int .u64 (0 : Int)), (.slice roa ((((wsP s).take nn).map tlN).length) roc)] 25 (0, 0))) ∧ (S 1 → wu1.heap[b2]? = some (.cells #[(.int .u8 (((opN s : Nat) : Int))), (.int .u64 (0 : Int)), (.int .u64 (0 : Int)), (.slice roa ((((wsP s).take nn).map tlN).length) roc)] 25 (0, 0))) := hC
                          refine uv_plain (C := (fun S wq => GO w18 b2 (Value.slice roa (((((wsP s).take nn).map tlN)).length) roc) wq ∧ (¬ S 9 → Row 1 (vInt .u32) 62 (w.heap.size) wq (Value.slice roa (((((wsP s).take nn).map tlN)).length) roc) (((wsP s).take nn).map tlN)) ∧ (¬ S 1 → wq.heap[b2]? = some (.cells #[(.int .u8 (((opN s : Nat) : Int))), (.int .u64 (0 : Int)), (.int .u64 (0 : Int)), (.slice roa ((((wsP s).take nn).map tlN).length) roc)] 25 (0, 0))) ∧ (S 1 → wq.heap[b2]? = some (.cells #[(.int .u8 (((opN s : Nat) : Int))), (.int .u64 (0 : Int)), (.int .u64 (0 : Int)), (.slice roa ((((wsP s).take nn).map tlN).length) roc)] 25 (0, 0))))) (hKP 1 S wu1) (fun w' h1 h2 => ⟨h1.1.below h2, fun hn => Row.ext (h1.2.1 (fun hs => hn (.inr hs))) h2, fun hn => absurd (.inl rfl) hn, fun _ => blk_ext (h1.2.2.1 hi) h2⟩) hC hS ?_
                          obtain ⟨hC, hCr, hCo, hCn⟩ := hC
                          have h0 := hS.post 0 (hd 0 (by decide))
                          replace h0 : V 0 = (.pointer (some ⟨b2, 3, none⟩)) := h0
                          replace hkb1 := blk_go hkb1 hC (by omega) (Row.ne_type hro hkb1 rfl)
                          replace hra1 := Row.go hra1 hC (Row.ne_type hra1 hkb2 rfl) (Row.ne_row hra1 hro rfl)
                          have hKb : wu1.heap[b2]? = some (.cells #[(.int .u8 (((opN s : Nat) : Int))), (.int .u64 (0 : Int)), (.int .u64 (0 : Int)), (.slice roa ((((wsP s).take nn).map tlN).length) roc)] 25 (0, 0)) := by by_cases hz : S 1; exact hCn hz; exact hCo hz
                          replace hkb2 := hKb
                          exact Runs.does (r_load (v := (.slice roa ((((wsP s).take nn).map tlN).length) roc)) (congrArg some h0) Tryd.underlying23 rfl (cell_blk hkb2 rfl)) ⟨Below.refl _ _, rfl, nofr rfl⟩
                        refine ⟨fun S wu2 hC hS hd hi => ?_, ?_⟩
                        · skip
                          replace hC : GO w18 b2 (Value.slice roa (((((wsP s).take nn).map tlN)).length) roc) wu2 ∧ (¬ S 9 → Row 1 (vInt .u32) 62 (w.heap.size) wu2 (Value.slice roa (((((wsP s).take nn).map tlN)).length) roc) (((wsP s).take nn).map tlN)) ∧ (¬ S 1 → wu2.heap[b2]? = some (.cells #[(.int .u8 (((opN s : Nat) : Int))), (.int .u64 (0 : Int)), (.int .u64 (0 : Int)), (.slice roa ((((wsP s).take nn).map tlN).length) roc)] 25 (0, 0))) ∧ (S 1 → wu2.heap[b2]? = some (.cells #[(.int .u8 (((opN s : Nat) : Int))), (.int .u64 (0 : Int)), (.int .u64 (0 : Int)), (.slice roa ((((wsP s).take nn).map tlN).length) roc)] 25 (0, 0))) := hC
                          refine uv_plain (C := (fun S wq => GO w18 b2 (Value.slice roa (((((wsP s).take nn).map tlN)).length) roc) wq ∧ (¬ S 9 → Row 1 (vInt .u32) 62 (w.heap.size) wq (Value.slice roa (((((wsP s).take nn).map tlN)).length) roc) (((wsP s).take nn).map tlN)) ∧ (¬ S 1 → wq.heap[b2]? = some (.cells #[(.int .u8 (((opN s : Nat) : Int))), (.int .u64 (0 : Int)), (.int .u64 (0 : Int)), (.slice roa ((((wsP s).take nn).map tlN).length) roc)] 25 (0, 0))) ∧ (S 1 → wq.heap[b2]? = some (.cells #[(.int .u8 (((opN s : Nat) : Int))), (.int .u64 (0 : Int)), (.int .u64 (0 : Int)), (.slice roa ((((wsP s).take nn).map tlN).length) roc)] 25 (0, 0))))) (hKP 2 S wu2) (fun w' h1 h2 => ⟨h1.1.below h2, fun hn => Row.ext (h1.2.1 (fun hs => hn (.inr hs))) h2, fun hn => blk_ext (h1.2.2.1 (fun hs => hn (.inr hs))) h2, fun hs => blk_ext (h1.2.2.2 (by rcases hs with e | hs; exact absurd e (by decide); exact hs)) h2⟩) hC hS ?_
                          obtain ⟨hC, hCr, hCo, hCn⟩ := hC
                          replace hkb1 := blk_go hkb1 hC (by omega) (Row.ne_type hro hkb1 rfl)
                          replace hra1 := Row.go hra1 hC (Row.ne_type hra1 hkb2 rfl) (Row.ne_row hra1 hro rfl)
                          have hKb : wu2.heap[b2]? = some (.cells #[(.int .u8 (((opN s : Nat) : Int))), (.int .u64 (0 : Int)), (.int .u64 (0 : Int)), (.slice roa ((((wsP s).take nn).map tlN).length) roc)] 25 (0, 0)) := by by_cases hz : S 1; exact hCn hz; exact hCo hz
                          replace hkb2 := hKb
                          exact Runs.does (r_move rfl) ⟨Below.refl _ _, rfl, nofr rfl⟩
                        refine ⟨fun S wu3 hC hS hd hi => ?_, ?_⟩
                        · skip
                          replace hC : GO w18 b2 (Value.slice roa (((((wsP s).take nn).map tlN)).length) roc) wu3 ∧ (¬ S 9 → Row 1 (vInt .u32) 62 (w.heap.size) wu3 (Value.slice roa (((((wsP s).take nn).map tlN)).length) roc) (((wsP s).take nn).map tlN)) ∧ (¬ S 1 → wu3.heap[b2]? = some (.cells #[(.int .u8 (((opN s : Nat) : Int))), (.int .u64 (0 : Int)), (.int .u64 (0 : Int)), (.slice roa ((((wsP s).take nn).map tlN).length) roc)] 25 (0, 0))) ∧ (S 1 → wu3.heap[b2]? = some (.cells #[(.int .u8 (((opN s : Nat) : Int))), (.int .u64 (0 : Int)), (.int .u64 (0 : Int)), (.slice roa ((((wsP s).take nn).map tlN).length) roc)] 25 (0, 0))) := hC
                          refine uv_plain (C := (fun S wq => GO w18 b2 (Value.slice roa (((((wsP s).take nn).map tlN)).length) roc) wq ∧ (¬ S 9 → Row 1 (vInt .u32) 62 (w.heap.size) wq (Value.slice roa (((((wsP s).take nn).map tlN)).length) roc) (((wsP s).take nn).map tlN)) ∧ (¬ S 1 → wq.heap[b2]? = some (.cells #[(.int .u8 (((opN s : Nat) : Int))), (.int .u64 (0 : Int)), (.int .u64 (0 : Int)), (.slice roa ((((wsP s).take nn).map tlN).length) roc)] 25 (0, 0))) ∧ (S 1 → wq.heap[b2]? = some (.cells #[(.int .u8 (((opN s : Nat) : Int))), (.int .u64 (0 : Int)), (.int .u64 (0 : Int)), (.slice roa ((((wsP s).take nn).map tlN).length) roc)] 25 (0, 0))))) (hKP 3 S wu3) (fun w' h1 h2 => ⟨h1.1.below h2, fun hn => Row.ext (h1.2.1 (fun hs => hn (.inr hs))) h2, fun hn => blk_ext (h1.2.2.1 (fun hs => hn (.inr hs))) h2, fun hs => blk_ext (h1.2.2.2 (by rcases hs with e | hs; exact absurd e (by decide); exact hs)) h2⟩) hC hS ?_
                          obtain ⟨hC, hCr, hCo, hCn⟩ := hC
                          replace hkb1 := blk_go hkb1 hC (by omega) (Row.ne_type hro hkb1 rfl)
                          replace hra1 := Row.go hra1 hC (Row.ne_type hra1 hkb2 rfl) (Row.ne_row hra1 hro rfl)
                          have hKb : wu3.heap[b2]? = some (.cells #[(.int .u8 (((opN s : Nat) : Int))), (.int .u64 (0 : Int)), (.int .u64 (0 : Int)), (.slice roa ((((wsP s).take nn).map tlN).length) roc)] 25 (0, 0)) := by by_cases hz : S 1; exact hCn hz; exact hCo hz
                          replace hkb2 := hKb
                          exact Runs.does (r_move rfl) ⟨Below.refl _ _, rfl, nofr rfl⟩
                        refine ⟨fun S wu4 hC hS hd hi => ?_, ?_⟩
                        · skip
                          replace hC : GO w18 b2 (Value.slice roa (((((wsP s).take nn).map tlN)).length) roc) wu4 ∧ (¬ S 9 → Row 1 (vInt .u32) 62 (w.heap.size) wu4 (Value.slice roa (((((wsP s).take nn).map tlN)).length) roc) (((wsP s).take nn).map tlN)) ∧ (¬ S 1 → wu4.heap[b2]? = some (.cells #[(.int .u8 (((opN s : Nat) : Int))), (.int .u64 (0 : Int)), (.int .u64 (0 : Int)), (.slice roa ((((wsP s).take nn).map tlN).length) roc)] 25 (0, 0))) ∧ (S 1 → wu4.heap[b2]? = some (.cells #[(.int .u8 (((opN s : Nat) : Int))), (.int .u64 (0 : Int)), (.int .u64 (0 : Int)), (.slice roa ((((wsP s).take nn).map tlN).length) roc)] 25 (0, 0))) := hC
                          refine uv_plain (C := (fun S wq => GO w18 b2 (Value.slice roa (((((wsP s).take nn).map tlN)).length) roc) wq ∧ (¬ S 9 → Row 1 (vInt .u32) 62 (w.heap.size) wq (Value.slice roa (((((wsP s).take nn).map tlN)).length) roc) (((wsP s).take nn).map tlN)) ∧ (¬ S 1 → wq.heap[b2]? = some (.cells #[(.int .u8 (((opN s : Nat) : Int))), (.int .u64 (0 : Int)), (.int .u64 (0 : Int)), (.slice roa ((((wsP s).take nn).map tlN).length) roc)] 25 (0, 0))) ∧ (S 1 → wq.heap[b2]? = some (.cells #[(.int .u8 (((opN s : Nat) : Int))), (.int .u64 (0 : Int)), (.int .u64 (0 : Int)), (.slice roa ((((wsP s).take nn).map tlN).length) roc)] 25 (0, 0))))) (hKP 4 S wu4) (fun w' h1 h2 => ⟨h1.1.below h2, fun hn => Row.ext (h1.2.1 (fun hs => hn (.inr hs))) h2, fun hn => blk_ext (h1.2.2.1 (fun hs => hn (.inr hs))) h2, fun hs => blk_ext (h1.2.2.2 (by rcases hs with e | hs; exact absurd e (by decide); exact hs)) h2⟩) hC hS ?_
                          obtain ⟨hC, hCr, hCo, hCn⟩ := hC
                          have h2 := hS.post 2 (hd 2 (by decide))
                          replace h2 : V 2 = (.slice (some ⟨rb1, 0, none⟩) (((((wordsS s)).length))) rc1) := h2
                          have h3 := hS.post 3 (hd 3 (by decide))
                          replace h3 : V 3 = (.int .i64 (((nn + 1) : Nat) : Int)) := h3
                          replace hkb1 := blk_go hkb1 hC (by omega) (Row.ne_type hro hkb1 rfl)
                          replace hra1 := Row.go hra1 hC (Row.ne_type hra1 hkb2 rfl) (Row.ne_row hra1 hro rfl)
                          have hKb : wu4.heap[b2]? = some (.cells #[(.int .u8 (((opN s : Nat) : Int))), (.int .u64 (0 : Int)), (.int .u64 (0 : Int)), (.slice roa ((((wsP s).take nn).map tlN).length) roc)] 25 (0, 0)) := by by_cases hz : S 1; exact hCn hz; exact hCo hz
                          replace hkb2 := hKb
                          exact Runs.does (r_ixa (sz := 1) (j := ((nn + 1))) (congrArg some h2) (congrArg some h3) Tryd.underlying43 (by kernel_rfl) rfl (by omega) rfl) ⟨Below.refl _ _, rfl, nofr rfl⟩
                        refine ⟨fun S wu5 hC hS hd hi => ?_, ?_⟩
                        · skip
                          replace hC : GO w18 b2 (Value.slice roa (((((wsP s).take nn).map tlN)).length) roc) wu5 ∧ (¬ S 9 → Row 1 (vInt .u32) 62 (w.heap.size) wu5 (Value.slice roa (((((wsP s).take nn).map tlN)).length) roc) (((wsP s).take nn).map tlN)) ∧ (¬ S 1 → wu5.heap[b2]? = some (.cells #[(.int .u8 (((opN s : Nat) : Int))), (.int .u64 (0 : Int)), (.int .u64 (0 : Int)), (.slice roa ((((wsP s).take nn).map tlN).length) roc)] 25 (0, 0))) ∧ (S 1 → wu5.heap[b2]? = some (.cells #[(.int .u8 (((opN s : Nat) : Int))), (.int .u64 (0 : Int)), (.int .u64 (0 : Int)), (.slice roa ((((wsP s).take nn).map tlN).length) roc)] 25 (0, 0))) := hC
                          refine uv_plain (C := (fun S wq => GO w18 b2 (Value.slice roa (((((wsP s).take nn).map tlN)).length) roc) wq ∧ (¬ S 9 → Row 1 (vInt .u32) 62 (w.heap.size) wq (Value.slice roa (((((wsP s).take nn).map tlN)).length) roc) (((wsP s).take nn).map tlN)) ∧ (¬ S 1 → wq.heap[b2]? = some (.cells #[(.int .u8 (((opN s : Nat) : Int))), (.int .u64 (0 : Int)), (.int .u64 (0 : Int)), (.slice roa ((((wsP s).take nn).map tlN).length) roc)] 25 (0, 0))) ∧ (S 1 → wq.heap[b2]? = some (.cells #[(.int .u8 (((opN s : Nat) : Int))), (.int .u64 (0 : Int)), (.int .u64 (0 : Int)), (.slice roa ((((wsP s).take nn).map tlN).length) roc)] 25 (0, 0))))) (hKP 5 S wu5) (fun w' h1 h2 => ⟨h1.1.below h2, fun hn => Row.ext (h1.2.1 (fun hs => hn (.inr hs))) h2, fun hn => blk_ext (h1.2.2.1 (fun hs => hn (.inr hs))) h2, fun hs => blk_ext (h1.2.2.2 (by rcases hs with e | hs; exact absurd e (by decide); exact hs)) h2⟩) hC hS ?_
                          obtain ⟨hC, hCr, hCo, hCn⟩ := hC
                          have h4 := hS.post 4 (hd 4 (by decide))
                          replace h4 : V 4 = (.pointer (some ⟨rb1, (0 + ((nn + 1)) * 1), none⟩)) := h4
                          replace hkb1 := blk_go hkb1 hC (by omega) (Row.ne_type hro hkb1 rfl)
                          replace hra1 := Row.go hra1 hC (Row.ne_type hra1 hkb2 rfl) (Row.ne_row hra1 hro rfl)
                          have hKb : wu5.heap[b2]? = some (.cells #[(.int .u8 (((opN s : Nat) : Int))), (.int .u64 (0 : Int)), (.int .u64 (0 : Int)), (.slice roa ((((wsP s).take nn).map tlN).length) roc)] 25 (0, 0)) := by by_cases hz : S 1; exact hCn hz; exact hCo hz
                          replace hkb2 := hKb
                          exact Runs.does (r_load (v := (.string y)) (congrArg some h4) Tryd.underlying9 rfl (cellsAt_cell (cellsAt_go hel6 hC hlr6 hne_hel6 hno_hel6) (i := 0) rfl rfl)) ⟨Below.refl _ _, rfl, nofr rfl⟩
                        refine ⟨fun S wu6 hC hS hd hi => ?_, ?_⟩
                        · skip
                          replace hC : GO w18 b2 (Value.slice roa (((((wsP s).take nn).map tlN)).length) roc) wu6 ∧ (¬ S 9 → Row 1 (vInt .u32) 62 (w.heap.size) wu6 (Value.slice roa (((((wsP s).take nn).map tlN)).length) roc) (((wsP s).take nn).map tlN)) ∧ (¬ S 1 → wu6.heap[b2]? = some (.cells #[(.int .u8 (((opN s : Nat) : Int))), (.int .u64 (0 : Int)), (.int .u64 (0 : Int)), (.slice roa ((((wsP s).take nn).map tlN).length) roc)] 25 (0, 0))) ∧ (S 1 → wu6.heap[b2]? = some (.cells #[(.int .u8 (((opN s : Nat) : Int))), (.int .u64 (0 : Int)), (.int .u64 (0 : Int)), (.slice roa ((((wsP s).take nn).map tlN).length) roc)] 25 (0, 0))) := hC
                          refine uv_plain (C := (fun S wq => GO w18 b2 (Value.slice roa (((((wsP s).take nn).map tlN)).length) roc) wq ∧ (¬ S 9 → Row 1 (vInt .u32) 62 (w.heap.size) wq (Value.slice roa (((((wsP s).take nn).map tlN)).length) roc) (((wsP s).take nn).map tlN)) ∧ (¬ S 1 → wq.heap[b2]? = some (.cells #[(.int .u8 (((opN s : Nat) : Int))), (.int .u64 (0 : Int)), (.int .u64 (0 : Int)), (.slice roa ((((wsP s).take nn).map tlN).length) roc)] 25 (0, 0))) ∧ (S 1 → wq.heap[b2]? = some (.cells #[(.int .u8 (((opN s : Nat) : Int))), (.int .u64 (0 : Int)), (.int .u64 (0 : Int)), (.slice roa ((((wsP s).take nn).map tlN).length) roc)] 25 (0, 0))))) (hKP 6 S wu6) (fun w' h1 h2 => ⟨h1.1.below h2, fun hn => Row.ext (h1.2.1 (fun hs => hn (.inr hs))) h2, fun hn => blk_ext (h1.2.2.1 (fun hs => hn (.inr hs))) h2, fun hs => blk_ext (h1.2.2.2 (by rcases hs with e | hs; exact absurd e (by decide); exact hs)) h2⟩) hC hS ?_
                          obtain ⟨hC, hCr, hCo, hCn⟩ := hC
                          have h5 := hS.post 5 (hd 5 (by decide))
                          replace h5 : V 5 = (.string y) := h5
                          replace hkb1 := blk_go hkb1 hC (by omega) (Row.ne_type hro hkb1 rfl)
                          replace hra1 := Row.go hra1 hC (Row.ne_type hra1 hkb2 rfl) (Row.ne_row hra1 hro rfl)
                          have hKb : wu6.heap[b2]? = some (.cells #[(.int .u8 (((opN s : Nat) : Int))), (.int .u64 (0 : Int)), (.int .u64 (0 : Int)), (.slice roa ((((wsP s).take nn).map tlN).length) roc)] 25 (0, 0)) := by by_cases hz : S 1; exact hCn hz; exact hCo hz
                          replace hkb2 := hKb
                          refine Does.mono (d_callB (vs := [(.string y), (.string ⟨#[]⟩)]) (show [some (V 5), some (.string ⟨#[]⟩)] = [some (.string y), some (.string ⟨#[]⟩)] from by rw [h5]) Tryd.func33 (by kernel_rfl) (by kernel_rfl) (rtail_any y (⟨#[]⟩ : ByteArray) _ (by omega) (by decide))) (fun _ _ h => ⟨h.2, h.1, nofr rfl⟩)
                        refine ⟨fun S wu7 hC hS hd hi => ?_, ?_⟩
                        · skip
                          replace hC : GO w18 b2 (Value.slice roa (((((wsP s).take nn).map tlN)).length) roc) wu7 ∧ (¬ S 9 → Row 1 (vInt .u32) 62 (w.heap.size) wu7 (Value.slice roa (((((wsP s).take nn).map tlN)).length) roc) (((wsP s).take nn).map tlN)) ∧ (¬ S 1 → wu7.heap[b2]? = some (.cells #[(.int .u8 (((opN s : Nat) : Int))), (.int .u64 (0 : Int)), (.int .u64 (0 : Int)), (.slice roa ((((wsP s).take nn).map tlN).length) roc)] 25 (0, 0))) ∧ (S 1 → wu7.heap[b2]? = some (.cells #[(.int .u8 (((opN s : Nat) : Int))), (.int .u64 (0 : Int)), (.int .u64 (0 : Int)), (.slice roa ((((wsP s).take nn).map tlN).length) roc)] 25 (0, 0))) := hC
                          refine uv_plain (C := (fun S wq => GO w18 b2 (Value.slice roa (((((wsP s).take nn).map tlN)).length) roc) wq ∧ (¬ S 9 → Row 1 (vInt .u32) 62 (w.heap.size) wq (Value.slice roa (((((wsP s).take nn).map tlN)).length) roc) (((wsP s).take nn).map tlN)) ∧ (¬ S 1 → wq.heap[b2]? = some (.cells #[(.int .u8 (((opN s : Nat) : Int))), (.int .u64 (0 : Int)), (.int .u64 (0 : Int)), (.slice roa ((((wsP s).take nn).map tlN).length) roc)] 25 (0, 0))) ∧ (S 1 → wq.heap[b2]? = some (.cells #[(.int .u8 (((opN s : Nat) : Int))), (.int .u64 (0 : Int)), (.int .u64 (0 : Int)), (.slice roa ((((wsP s).take nn).map tlN).length) roc)] 25 (0, 0))))) (hKP 7 S wu7) (fun w' h1 h2 => ⟨h1.1.below h2, fun hn => Row.ext (h1.2.1 (fun hs => hn (.inr hs))) h2, fun hn => blk_ext (h1.2.2.1 (fun hs => hn (.inr hs))) h2, fun hs => blk_ext (h1.2.2.2 (by rcases hs with e | hs; exact absurd e (by decide); exact hs)) h2⟩) hC hS ?_
                          obtain ⟨hC, hCr, hCo, hCn⟩ := hC
                          have h6 := hS.post 6 (hd 6 (by decide))
                          replace h6 : V 6 = (.int .u64 ((tailP y (⟨#[]⟩ : ByteArray)))) := h6
                          replace hkb1 := blk_go hkb1 hC (by omega) (Row.ne_type hro hkb1 rfl)
                          replace hra1 := Row.go hra1 hC (Row.ne_type hra1 hkb2 rfl) (Row.ne_row hra1 hro rfl)
                          have hKb : wu7.heap[b2]? = some (.cells #[(.int .u8 (((opN s : Nat) : Int))), (.int .u64 (0 : Int)), (.int .u64 (0 : Int)), (.slice roa ((((wsP s).take nn).map tlN).length) roc)] 25 (0, 0)) := by by_cases hz : S 1; exact hCn hz; exact hCo hz
                          replace hkb2 := hKb
                          exact Runs.does (r_conv (C := ((tlN y))) (congrArg some h6) Tryd.underlying22 Tryd.underlying62 (by rw [IntKind.wrap_u32]; rfl)) ⟨Below.refl _ _, rfl, nofr rfl⟩
                        refine ⟨fun S wu8 hC hS hd hi => ?_, ?_⟩
                        · skip
                          replace hC : GO w18 b2 (Value.slice roa (((((wsP s).take nn).map tlN)).length) roc) wu8 ∧ (¬ S 9 → Row 1 (vInt .u32) 62 (w.heap.size) wu8 (Value.slice roa (((((wsP s).take nn).map tlN)).length) roc) (((wsP s).take nn).map tlN)) ∧ (¬ S 1 → wu8.heap[b2]? = some (.cells #[(.int .u8 (((opN s : Nat) : Int))), (.int .u64 (0 : Int)), (.int .u64 (0 : Int)), (.slice roa ((((wsP s).take nn).map tlN).length) roc)] 25 (0, 0))) ∧ (S 1 → wu8.heap[b2]? = some (.cells #[(.int .u8 (((opN s : Nat) : Int))), (.int .u64 (0 : Int)), (.int .u64 (0 : Int)), (.slice roa ((((wsP s).take nn).map tlN).length) roc)] 25 (0, 0))) := hC
                          refine uv_plain (C := (fun S wq => GO w18 b2 (Value.slice roa (((((wsP s).take nn).map tlN)).length) roc) wq ∧ (¬ S 9 → Row 1 (vInt .u32) 62 (w.heap.size) wq (Value.slice roa (((((wsP s).take nn).map tlN)).length) roc) (((wsP s).take nn).map tlN)) ∧ (¬ S 1 → wq.heap[b2]? = some (.cells #[(.int .u8 (((opN s : Nat) : Int))), (.int .u64 (0 : Int)), (.int .u64 (0 : Int)), (.slice roa ((((wsP s).take nn).map tlN).length) roc)] 25 (0, 0))) ∧ (S 1 → wq.heap[b2]? = some (.cells #[(.int .u8 (((opN s : Nat) : Int))), (.int .u64 (0 : Int)), (.int .u64 (0 : Int)), (.slice roa ((((wsP s).take nn).map tlN).length) roc)] 25 (0, 0))))) (hKP 8 S wu8) (fun w' h1 h2 => ⟨h1.1.below h2, fun hn => Row.ext (h1.2.1 (fun hs => hn (.inr hs))) h2, fun hn => blk_ext (h1.2.2.1 (fun hs => hn (.inr hs))) h2, fun hs => blk_ext (h1.2.2.2 (by rcases hs with e | hs; exact absurd e (by decide); exact hs)) h2⟩) hC hS ?_
                          obtain ⟨hC, hCr, hCo, hCn⟩ := hC
                          have h7 := hS.post 7 (hd 7 (by decide))
                          replace h7 : V 7 = (.int .u32 ((tlN y))) := h7
                          replace hkb1 := blk_go hkb1 hC (by omega) (Row.ne_type hro hkb1 rfl)
                          replace hra1 := Row.go hra1 hC (Row.ne_type hra1 hkb2 rfl) (Row.ne_row hra1 hro rfl)
                          have hKb : wu8.heap[b2]? = some (.cells #[(.int .u8 (((opN s : Nat) : Int))), (.int .u64 (0 : Int)), (.int .u64 (0 : Int)), (.slice roa ((((wsP s).take nn).map tlN).length) roc)] 25 (0, 0)) := by by_cases hz : S 1; exact hCn hz; exact hCo hz
                          replace hkb2 := hKb
                          refine Does.mono (d_bslice (z := (.int .u32 (0 : Int))) (sz := 1) (vs := [(0, (.int .u32 ((tlN y))))]) (cs := #[(.int .u32 ((tlN y)))]) (show [(0, some (V 7))] = [(0, some (.int .u32 ((tlN y))))] from by rw [h7]) Tryd.underlying23 (by kernel_rfl) rfl (by kernel_rfl)) ?_
                          rintro _ w' ⟨b, rfl, hF⟩
                          exact ⟨hF.2.2, ⟨b, rfl, Nat.le_trans hC.size hF.1, hF.2.1⟩, isfr rfl hF.1 (blk_lt hF.2.1)⟩
                        refine ⟨fun S wu9 hC hS hd hi => ?_, ?_⟩
                        · skip
                          replace hC : GO w18 b2 (Value.slice roa (((((wsP s).take nn).map tlN)).length) roc) wu9 ∧ (¬ S 9 → Row 1 (vInt .u32) 62 (w.heap.size) wu9 (Value.slice roa (((((wsP s).take nn).map tlN)).length) roc) (((wsP s).take nn).map tlN)) ∧ (¬ S 1 → wu9.heap[b2]? = some (.cells #[(.int .u8 (((opN s : Nat) : Int))), (.int .u64 (0 : Int)), (.int .u64 (0 : Int)), (.slice roa ((((wsP s).take nn).map tlN).length) roc)] 25 (0, 0))) ∧ (S 1 → wu9.heap[b2]? = some (.cells #[(.int .u8 (((opN s : Nat) : Int))), (.int .u64 (0 : Int)), (.int .u64 (0 : Int)), (.slice roa ((((wsP s).take nn).map tlN).length) roc)] 25 (0, 0))) := hC
                          obtain ⟨hC, hCr, hCo, hCn⟩ := hC
                          have h1 := hS.post 1 (hd 1 (by decide))
                          replace h1 : V 1 = (.slice roa ((((wsP s).take nn).map tlN).length) roc) := h1
                          have h6 := hS.post 6 (hd 6 (by decide))
                          replace h6 : V 6 = (.int .u64 ((tailP y (⟨#[]⟩ : ByteArray)))) := h6
                          have h8 := hS.post 8 (hd 8 (by decide))
                          obtain ⟨b3, h8, hle3, hk14⟩ := h8
                          replace hkb1 := blk_go hkb1 hC (by omega) (Row.ne_type hro hkb1 rfl)
                          replace hra1 := Row.go hra1 hC (Row.ne_type hra1 hkb2 rfl) (Row.ne_row hra1 hro rfl)
                          have hKb : wu9.heap[b2]? = some (.cells #[(.int .u8 (((opN s : Nat) : Int))), (.int .u64 (0 : Int)), (.int .u64 (0 : Int)), (.slice roa ((((wsP s).take nn).map tlN).length) roc)] 25 (0, 0)) := by by_cases hz : S 1; exact hCn hz; exact hCo hz
                          replace hkb2 := hKb
                          replace hro := hCr hi
                          have hrB := Row.of_new (k := 1) (V := (vInt .u32)) (l := [((tlN y))]) (base := w18.heap.size) hk14 hle3 rfl rfl (Nat.le_of_ble_eq_true rfl)
                          refine Does.mono (d_append (V := (vInt .u32)) (k := 1) (e := 62) (bytes := 4) (z := (.int .u32 (0 : Int))) (news := [((tlN y))]) (base := w.heap.size) (by intros; rfl) (by intro x u hu; simp only [vInt, List.mem_singleton] at hu; subst hu; rfl) (congrArg some h1) (congrArg some h8) Tryd.underlying23 (by kernel_rfl) rfl rfl rfl hro (Row.rd (by intros; rfl) hrB) rfl (fun h => by cases h) (by first | omega | (simp only [List.length_cons, List.length_nil, List.length_append, nums_len]; omega)) (by have := hb.size; have := hC.size; omega)) ?_
                          rintro v' wz ⟨hY, hgY⟩
                          obtain ⟨ra, rc, rfl, _, _⟩ := Row.slice hY
                          refine ⟨⟨⟨hC.app hgY, fun hn => absurd (.inl rfl) hn, fun hn => absurd (.inr (hd 1 (by decide))) hn, fun _ => (hgY.block b2 (blk_lt (hCn (hd 1 (by decide)))) (fun e => Row.ne_type hro (hCn (hd 1 (by decide))) rfl e.symm)).trans (hCn (hd 1 (by decide)))⟩, fun j hj => ?_, hgY.size⟩, ⟨ra, rc, rfl, hY⟩, nofr rfl⟩
                          match j with
                          | 0 =>
                            exact hS.post 0 hj
                          | 1 =>
                            exact hS.post 1 hj
                          | 2 =>
                            exact hS.post 2 hj
                          | 3 =>
                            exact hS.post 3 hj
                          | 4 =>
                            exact hS.post 4 hj
                          | 5 =>
                            exact hS.post 5 hj
                          | 6 =>
                            exact hS.post 6 hj
                          | 7 =>
                            exact hS.post 7 hj
                          | 8 =>
                            obtain ⟨b, e1, e2, e3⟩ := hS.post 8 hj
                            exact ⟨b, e1, e2, (hgY.block b (blk_lt e3) (fun e => by have := hlV b e.symm; omega)).trans e3⟩
                          | 9 =>
                            exact absurd hj hi
                          | _ + 10 => trivial
                        trivial
                      · skip
                        clear hf fa; intro V S w19 fa hall he12 hp hnb hf
                        have hv0 := postsHold_at hp 0 rfl
                        replace hv0 : V 0 = (.pointer (some ⟨b2, 3, none⟩)) := hv0
                        have hv1 := postsHold_at hp 1 rfl
                        replace hv1 : V 1 = (.slice roa ((((wsP s).take nn).map tlN).length) roc) := hv1
                        have hv2 := postsHold_at hp 2 rfl
                        replace hv2 : V 2 = (.slice (some ⟨rb1, 0, none⟩) (((((wordsS s)).length))) rc1) := hv2
                        have hv3 := postsHold_at hp 3 rfl
                        replace hv3 : V 3 = (.int .i64 (((nn + 1) : Nat) : Int)) := hv3
                        have hv4 := postsHold_at hp 4 rfl
                        replace hv4 : V 4 = (.pointer (some ⟨rb1, (0 + ((nn + 1)) * 1), none⟩)) := hv4
                        have hv5 := postsHold_at hp 5 rfl
                        replace hv5 : V 5 = (.string y) := hv5
                        have hv6 := postsHold_at hp 6 rfl
                        replace hv6 : V 6 = (.int .u64 ((tailP y (⟨#[]⟩ : ByteArray)))) := hv6
                        have hv7 := postsHold_at hp 7 rfl
                        replace hv7 : V 7 = (.int .u32 ((tlN y))) := hv7
                        have hv8 := postsHold_at hp 8 rfl
                        obtain ⟨b3, hv8, hle3, hk14⟩ := hv8
                        have hBb3 : w.heap.size ≤ b3 := Nat.le_trans hb.size hle3
                        have hv9 := postsHold_at hp 9 rfl
                        obtain ⟨ra3, rc3, hv9, hr3⟩ := hv9
                        rw [hv9] at hr3
                        have hcrc3 := Row.caps hr3
                        simp only [List.take_succ_cons, List.take_zero, insAll, ins, hv0, hv1, hv2, hv3, hv4, hv5, hv6, hv7, hv8, hv9] at hf
                        obtain ⟨he12, _, _, hk15⟩ := he12
                        replace hk15 := hk15 (hall 1 (show 1 < 10 by decide))
                        replace hkb1 := blk_go hkb1 he12 (by omega) (Row.ne_type hro hkb1 rfl)
                        replace hra1 := Row.go hra1 he12 (Row.ne_type hra1 hkb2 rfl) (Row.ne_row hra1 hro rfl)
                        replace hb := Below_go hb he12 hb.size hBb2 (fun q hq => by have := (Row.lt hro q hq).1; omega)
                        clear hp hnb hall hlV hro hv0 hv1 hv2 hv3 hv4 hv5 hv6 hv7 hv8 hv9
                        simp only [List.drop_succ_cons, List.drop_zero]
                        refine sqv hf (r_fa rfl Tryd.underlying25 (f := 3) (q := 3) rfl (by kernel_rfl) rfl) rfl rfl rfl ?_; clear hf fa; intro fa hf
                        refine sqn hf (d_storeK (T := 25) (v := (.slice ra3 (((((wsP s).take nn).map tlN) ++ [((tlN y))]).length) rc3)) (cs := #[(.int .u8 (((opN s : Nat) : Int))), (.int .u64 (0 : Int)), (.int .u64 (0 : Int)), (.slice roa ((((wsP s).take nn).map tlN).length) roc)]) (cs' := #[(.int .u8 (((opN s : Nat) : Int))), (.int .u64 (0 : Int)), (.int .u64 (0 : Int)), (.slice ra3 (((((wsP s).take nn).map tlN) ++ [((tlN y))]).length) rc3)]) rfl rfl (by kernel_rfl) (by kernel_rfl) hk15 (by kernel_rfl) (by kernel_rfl)) rfl rfl ?_; clear hf fa; rintro fa _ w20 ⟨hk16, hg12⟩ hf
                        replace hkb1 := blk_grown hkb1 hg12 (by omega)
                        replace hra1 := Row.grown hra1 hg12 (Row.ne_type hra1 hk15 rfl)
                        replace hr3 := Row.grown hr3 hg12 (Row.ne_type hr3 hk15 rfl)
                        replace hb := hb.trans (grown_below hg12 hb.size hBb2)
                        apply wpList_nil
                        (try simp only [Exit.then, Exit.inBlock, ↓reduceIte, Nat.reduceEqDiff])
                        refine hK34 _ _ ?_
                        refine wp_region_lit ?_
                        refine sqv hf (r_move rfl) rfl rfl rfl ?_; clear hf fa; intro fa hf
                        refine sqv hf (r_add (C := ((((nn + 1) : Nat) : Int) + (1 : Int))) rfl rfl (by rw [IntKind.wrap_i64]; omega)) rfl rfl rfl ?_; clear hf fa; intro fa hf
                        refine sqv hf (r_assign rfl) rfl rfl rfl ?_; clear hf fa; intro fa hf
                        apply wpList_nil
                        (try simp only [Exit.then, Exit.inBlock, ↓reduceIte, Nat.reduceEqDiff])
                        have hsn : (((wsP s).take nn).map tlN) ++ [tlN y] = (((wsP s).take (nn + 1)).map tlN) := by rw [List.take_add_one, hyw, List.map_append]; rfl
                        have hk9 := hk16
                        rw [hsn] at hk9
                        refine hKL2 _ _ _ (by omega) ⟨(nn + 1), ra3, rc3, rfl, hf.sub ⟨rfl, rfl, (some_sl (by first | omega | rfl | (simp only [List.length_append, List.length_cons, List.length_nil]; omega) | (simp <;> omega)) rfl), rfl, rfl, (some_int (by first | rfl | omega)), trivial⟩, hb, (rowTo6 hr3 hsn), hra1, hkb1, hk9, by omega⟩
                    · have hqt67_1b := hqt67_1
                      replace hqt67_1 := Bool.eq_false_iff.1 hqt67_1
                      try simp only [ne_eq, decide_eq_true_eq, Bool.and_eq_true, Bool.or_eq_true, Bool.not_eq_true', decide_eq_false_iff_not] at hqt67_1
                      refine wp_exit ?_
                      (try simp only [Exit.then, Exit.inBlock, ↓reduceIte, Nat.reduceEqDiff])
                      refine hK30 _ _ ?_
                      refine wp_region_lit ?_
                      refine sqv hf (r_move rfl) rfl rfl rfl ?_; clear hf fa; intro fa hf
                      refine sqdt hf (d_callB (vs := [(.string (lastP s)), (.string ⟨#[]⟩)]) rfl Tryd.func33 (by kernel_rfl) (by kernel_rfl) (rtail_any (lastP s) (⟨#[]⟩ : ByteArray) _ (by have := wd_size s ((wordsS s).length - 1); unfold lastP; omega) (by decide))) rfl rfl rfl ?_; clear hf fa; rintro fa _ w21 ⟨rfl, he13⟩ hf
                      replace hkb1 := blk_ext hkb1 he13
                      replace hkb2 := blk_ext hkb2 he13
                      replace hro := Row.ext hro he13
                      replace hra1 := Row.ext hra1 he13
                      replace hb := hb.trans (Below.mono he13 hb.size)
                      refine sqv hf (r_fa rfl Tryd.underlying25 (f := 1) (q := 1) rfl (by kernel_rfl) rfl) rfl rfl rfl ?_; clear hf fa; intro fa hf
                      refine sqn hf (d_storeK (T := 25) (v := (.int .u64 ((tailP (lastP s) (⟨#[]⟩ : ByteArray))))) (cs := #[(.int .u8 (((opN s : Nat) : Int))), (.int .u64 (0 : Int)), (.int .u64 (0 : Int)), (.slice roa ((((wsP s).take nn).map tlN).length) roc)]) (cs' := #[(.int .u8 (((opN s : Nat) : Int))), (.int .u64 ((tailP (lastP s) (⟨#[]⟩ : ByteArray)))), (.int .u64 (0 : Int)), (.slice roa ((((wsP s).take nn).map tlN).length) roc)]) rfl rfl (by kernel_rfl) (by kernel_rfl) hkb2 (by kernel_rfl) (by kernel_rfl)) rfl rfl ?_; clear hf fa; rintro fa _ w22 ⟨hk17, hg13⟩ hf
                      replace hkb1 := blk_grown hkb1 hg13 (by omega)
                      replace hro := Row.grown hro hg13 (Row.ne_type hro hkb2 rfl)
                      replace hra1 := Row.grown hra1 hg13 (Row.ne_type hra1 hkb2 rfl)
                      replace hb := hb.trans (grown_below hg13 hb.size hBb2)
                      apply wpList_nil
                      (try simp only [Exit.then, Exit.inBlock, ↓reduceIte, Nat.reduceEqDiff])
                      refine hK13 _ _ ?_
                      refine wp_seq_k (fun K35 hK35 => ?_)
                      have hjr : ∀ y ∈ (((wsP s).take nn).map tlN), 0 ≤ y ∧ y < (4294967296 : Int) := by
                        intro y hy
                        obtain ⟨x, _, rfl⟩ := List.mem_map.1 hy
                        exact tlN_rng x
                      refine wp_region_unT 6 (fun wc => (w22.grownBy wc (some b1) ∧ (wc.heap[b1]? = some (.cells #[(.int .u8 (0 : Int)), (.int .u64 (0 : Int)), (.int .u64 (0 : Int)), (.slice none 0 0)] 25 (0, 0)) ∨ wc.heap[b1]? = some (.cells #[(.int .u8 (((opN s : Nat) : Int))), (.int .u64 ((tailP (lastP s) (⟨#[]⟩ : ByteArray)))), (.int .u64 (0 : Int)), (.slice roa ((((wsP s).take nn).map tlN).length) roc)] 25 (0, 0))))) (fun wa wc => ((w22.grownBy wa (some b1) ∧ (wa.heap[b1]? = some (.cells #[(.int .u8 (0 : Int)), (.int .u64 (0 : Int)), (.int .u64 (0 : Int)), (.slice none 0 0)] 25 (0, 0)) ∨ wa.heap[b1]? = some (.cells #[(.int .u8 (((opN s : Nat) : Int))), (.int .u64 ((tailP (lastP s) (⟨#[]⟩ : ByteArray)))), (.int .u64 (0 : Int)), (.slice roa ((((wsP s).take nn).map tlN).length) roc)] 25 (0, 0)))) → (w22.grownBy wc (some b1) ∧ (wc.heap[b1]? = some (.cells #[(.int .u8 (0 : Int)), (.int .u64 (0 : Int)), (.int .u64 (0 : Int)), (.slice none 0 0)] 25 (0, 0)) ∨ wc.heap[b1]? = some (.cells #[(.int .u8 (((opN s : Nat) : Int))), (.int .u64 ((tailP (lastP s) (⟨#[]⟩ : ByteArray)))), (.int .u64 (0 : Int)), (.slice roa ((((wsP s).take nn).map tlN).length) roc)] 25 (0, 0))))) ∧ wa.heap.size ≤ wc.heap.size ∧ (wa.heap[b1]? = some (.cells #[(.int .u8 (((opN s : Nat) : Int))), (.int .u64 ((tailP (lastP s) (⟨#[]⟩ : ByteArray)))), (.int .u64 (0 : Int)), (.slice roa ((((wsP s).take nn).map tlN).length) roc)] 25 (0, 0)) → wc.heap[b1]? = some (.cells #[(.int .u8 (((opN s : Nat) : Int))), (.int .u64 ((tailP (lastP s) (⟨#[]⟩ : ByteArray)))), (.int .u64 (0 : Int)), (.slice roa ((((wsP s).take nn).map tlN).length) roc)] 25 (0, 0))))
                        (fun V => [(fun x _ => x = (.agg #[(.int .u8 (((opN s : Nat) : Int))), (.int .u64 ((tailP (lastP s) (⟨#[]⟩ : ByteArray)))), (.int .u64 (0 : Int)), (.slice roa ((((wsP s).take nn).map tlN).length) roc)])), (fun x _ => x = (.agg #[(.int .u8 (((opN s : Nat) : Int))), (.int .u64 ((tailP (lastP s) (⟨#[]⟩ : ByteArray)))), (.int .u64 (0 : Int)), (.slice roa ((((wsP s).take nn).map tlN).length) roc)])), (fun x _ => x = (.string (lineP (opN s) ((tailP (lastP s) (⟨#[]⟩ : ByteArray))) (0 : Int) (((wsP s).take nn).map tlN)))), (fun x _ => x = (.string s)), (fun x _ => x = (.bool (decide ((lineP (opN s) ((tailP (lastP s) (⟨#[]⟩ : ByteArray))) (0 : Int) (((wsP s).take nn).map tlN)) = s)))), (fun _ wq => wq.heap[b1]? = some (.cells #[(.int .u8 (((opN s : Nat) : Int))), (.int .u64 ((tailP (lastP s) (⟨#[]⟩ : ByteArray)))), (.int .u64 (0 : Int)), (.slice roa ((((wsP s).take nn).map tlN).length) roc)] 25 (0, 0)))])
                        []
                        [[], [], [1], [], [2, 3], [0, 2], []]
                        hf (by kernel_rfl) (by kernel_rfl) (by kernel_rfl) (fun _ => rfl) ⟨below_grown (Below.refl _ _).drew, .inl (blk_ext hkb1 (Below.refl _ _).drew)⟩ (fun a b h1 h2 => h2.1 h1) (fun _ _ h => h.2.1) (fun V => ⟨(fun _ _ _ h _ => h), (fun _ _ _ h _ => h), (fun _ _ _ h _ => h), (fun _ _ _ h _ => h), (fun _ _ _ h _ => h), (fun _ _ _ h hG => hG.2.2 h), trivial⟩) (fun _ _ _ _ _ => rfl) ?_ ?_
                      · skip
                        intro V
                        refine ⟨fun wu0 hC hd => ?_, ?_⟩
                        · clear hd
                          have hgC := hC.1
                          replace hk17 := blk_grown hk17 hgC (by omega)
                          replace hro := Row.grown hro hgC (Row.ne_type hro hkb1 rfl)
                          replace hra1 := Row.grown hra1 hgC (Row.ne_type hra1 hkb1 rfl)
                          replace hb := hb.trans (grown_below hgC hb.size hBb1)
                          exact Runs.does (r_loadA (cs := [(.int .u8 (((opN s : Nat) : Int))), (.int .u64 ((tailP (lastP s) (⟨#[]⟩ : ByteArray)))), (.int .u64 (0 : Int)), (.slice roa ((((wsP s).take nn).map tlN).length) roc)]) rfl Tryd.underlying25 rfl (by kernel_rfl) (cellsAt_blk hk17)) ⟨⟨id, Nat.le_refl _, id⟩, rfl, nofr rfl⟩
                        refine ⟨fun wu1 hC hd => ?_, ?_⟩
                        · clear hd
                          have hgC := hC.1
                          replace hk17 := blk_grown hk17 hgC (by omega)
                          replace hro := Row.grown hro hgC (Row.ne_type hro hkb1 rfl)
                          replace hra1 := Row.grown hra1 hgC (Row.ne_type hra1 hkb1 rfl)
                          replace hb := hb.trans (grown_below hgC hb.size hBb1)
                          exact Runs.does (r_loadA (cs := [(.int .u8 (((opN s : Nat) : Int))), (.int .u64 ((tailP (lastP s) (⟨#[]⟩ : ByteArray)))), (.int .u64 (0 : Int)), (.slice roa ((((wsP s).take nn).map tlN).length) roc)]) rfl Tryd.underlying25 rfl (by kernel_rfl) (cellsAt_blk hk17)) ⟨⟨id, Nat.le_refl _, id⟩, rfl, nofr rfl⟩
                        refine ⟨fun wu2 hC hd => ?_, ?_⟩
                        · obtain ⟨h1, _⟩ := hd
                          replace h1 : V 1 = (.agg #[(.int .u8 (((opN s : Nat) : Int))), (.int .u64 ((tailP (lastP s) (⟨#[]⟩ : ByteArray)))), (.int .u64 (0 : Int)), (.slice roa ((((wsP s).take nn).map tlN).length) roc)]) := h1
                          have hgC := hC.1
                          replace hk17 := blk_grown hk17 hgC (by omega)
                          replace hro := Row.grown hro hgC (Row.ne_type hro hkb1 rfl)
                          replace hra1 := Row.grown hra1 hgC (Row.ne_type hra1 hkb1 rfl)
                          replace hb := hb.trans (grown_below hgC hb.size hBb1)
                          refine Does.mono (d_callB (vs := [(.agg #[(.int .u8 (((opN s : Nat) : Int))), (.int .u64 ((tailP (lastP s) (⟨#[]⟩ : ByteArray)))), (.int .u64 (0 : Int)), (.slice roa ((((wsP s).take nn).map tlN).length) roc)])]) (show [some (V 1)] = [some (.agg #[(.int .u8 (((opN s : Nat) : Int))), (.int .u64 ((tailP (lastP s) (⟨#[]⟩ : ByteArray)))), (.int .u64 (0 : Int)), (.slice roa ((((wsP s).take nn).map tlN).length) roc)])] from by rw [h1]) Tryd.func8 (by kernel_rfl) (by kernel_rfl) (rline_any (opN s) ((tailP (lastP s) (⟨#[]⟩ : ByteArray))) (0 : Int) (((wsP s).take nn).map tlN) _ _ _ (Row.rd (by intros; rfl) hro) hjr hop (by first | decide | exact tailP_rng _ _ | omega) (by first | decide | exact tailP_rng _ _ | omega) (by have := Row.caps hro; omega) (by rw [List.length_map, List.length_take]; omega))) (fun _ _ h => ⟨⟨fun hc => ⟨grown_trans hc.1 (below_grown h.2), hc.2.imp (fun z => blk_ext z h.2) (fun z => blk_ext z h.2)⟩, h.2.size, fun z => blk_ext z h.2⟩, h.1, nofr rfl⟩)
                        refine ⟨fun wu3 hC hd => ?_, ?_⟩
                        · clear hd
                          have hgC := hC.1
                          replace hk17 := blk_grown hk17 hgC (by omega)
                          replace hro := Row.grown hro hgC (Row.ne_type hro hkb1 rfl)
                          replace hra1 := Row.grown hra1 hgC (Row.ne_type hra1 hkb1 rfl)
                          replace hb := hb.trans (grown_below hgC hb.size hBb1)
                          exact Runs.does (r_move rfl) ⟨⟨id, Nat.le_refl _, id⟩, rfl, nofr rfl⟩
                        refine ⟨fun wu4 hC hd => ?_, ?_⟩
                        · obtain ⟨h2, h3, _⟩ := hd
                          replace h2 : V 2 = (.string (lineP (opN s) ((tailP (lastP s) (⟨#[]⟩ : ByteArray))) (0 : Int) (((wsP s).take nn).map tlN))) := h2
                          replace h3 : V 3 = (.string s) := h3
                          have hgC := hC.1
                          replace hk17 := blk_grown hk17 hgC (by omega)
                          replace hro := Row.grown hro hgC (Row.ne_type hro hkb1 rfl)
                          replace hra1 := Row.grown hra1 hgC (Row.ne_type hra1 hkb1 rfl)
                          replace hb := hb.trans (grown_below hgC hb.size hBb1)
                          exact Runs.does (r_seq (congrArg some h2) (congrArg some h3)) ⟨⟨id, Nat.le_refl _, id⟩, rfl, nofr rfl⟩
                        refine ⟨fun wu5 hC hd => ?_, ?_⟩
                        · obtain ⟨h0, h2, _⟩ := hd
                          replace h0 : V 0 = (.agg #[(.int .u8 (((opN s : Nat) : Int))), (.int .u64 ((tailP (lastP s) (⟨#[]⟩ : ByteArray)))), (.int .u64 (0 : Int)), (.slice roa ((((wsP s).take nn).map tlN).length) roc)]) := h0
                          replace h2 : V 2 = (.string (lineP (opN s) ((tailP (lastP s) (⟨#[]⟩ : ByteArray))) (0 : Int) (((wsP s).take nn).map tlN))) := h2
                          have hgC := hC.1
                          replace hk17 := blk_grown hk17 hgC (by omega)
                          replace hro := Row.grown hro hgC (Row.ne_type hro hkb1 rfl)
                          replace hra1 := Row.grown hra1 hgC (Row.ne_type hra1 hkb1 rfl)
                          replace hb := hb.trans (grown_below hgC hb.size hBb1)
                          rcases hC.2 with hX | hX
                          · refine Does.mono (d_storeK (T := 25) (v := (.agg #[(.int .u8 (((opN s : Nat) : Int))), (.int .u64 ((tailP (lastP s) (⟨#[]⟩ : ByteArray)))), (.int .u64 (0 : Int)), (.slice roa ((((wsP s).take nn).map tlN).length) roc)])) (cs := #[(.int .u8 (0 : Int)), (.int .u64 (0 : Int)), (.int .u64 (0 : Int)), (.slice none 0 0)]) (cs' := #[(.int .u8 (((opN s : Nat) : Int))), (.int .u64 ((tailP (lastP s) (⟨#[]⟩ : ByteArray)))), (.int .u64 (0 : Int)), (.slice roa ((((wsP s).take nn).map tlN).length) roc)]) rfl (congrArg some h0) (by kernel_rfl) (by kernel_rfl) hX (by kernel_rfl) (by kernel_rfl)) ?_
                            rintro _ wz ⟨hY, hgY⟩
                            exact ⟨⟨fun _ => ⟨grownBy_trans hgC hgY, .inr hY⟩, hgY.size, fun _ => hY⟩, hY, nofr rfl⟩
                          · refine Does.mono (d_storeK (T := 25) (v := (.agg #[(.int .u8 (((opN s : Nat) : Int))), (.int .u64 ((tailP (lastP s) (⟨#[]⟩ : ByteArray)))), (.int .u64 (0 : Int)), (.slice roa ((((wsP s).take nn).map tlN).length) roc)])) (cs := #[(.int .u8 (((opN s : Nat) : Int))), (.int .u64 ((tailP (lastP s) (⟨#[]⟩ : ByteArray)))), (.int .u64 (0 : Int)), (.slice roa ((((wsP s).take nn).map tlN).length) roc)]) (cs' := #[(.int .u8 (((opN s : Nat) : Int))), (.int .u64 ((tailP (lastP s) (⟨#[]⟩ : ByteArray)))), (.int .u64 (0 : Int)), (.slice roa ((((wsP s).take nn).map tlN).length) roc)]) rfl (congrArg some h0) (by kernel_rfl) (by kernel_rfl) hX (by kernel_rfl) (by kernel_rfl)) ?_
                            rintro _ wz ⟨hY, hgY⟩
                            exact ⟨⟨fun _ => ⟨grownBy_trans hgC hgY, .inr hY⟩, hgY.size, fun _ => hY⟩, hY, nofr rfl⟩
                        trivial
                      · skip
                        clear hf fa; intro V w23 fa he14 hp hnb hf
                        have hg14 := he14.1
                        have hv0 : V 0 = (.agg #[(.int .u8 (((opN s : Nat) : Int))), (.int .u64 ((tailP (lastP s) (⟨#[]⟩ : ByteArray)))), (.int .u64 (0 : Int)), (.slice roa ((((wsP s).take nn).map tlN).length) roc)]) := postsHold_at hp 0 rfl
                        have hv1 : V 1 = (.agg #[(.int .u8 (((opN s : Nat) : Int))), (.int .u64 ((tailP (lastP s) (⟨#[]⟩ : ByteArray)))), (.int .u64 (0 : Int)), (.slice roa ((((wsP s).take nn).map tlN).length) roc)]) := postsHold_at hp 1 rfl
                        have hv2 : V 2 = (.string (lineP (opN s) ((tailP (lastP s) (⟨#[]⟩ : ByteArray))) (0 : Int) (((wsP s).take nn).map tlN))) := postsHold_at hp 2 rfl
                        have hv3 : V 3 = (.string s) := postsHold_at hp 3 rfl
                        have hv4 : V 4 = (.bool (decide ((lineP (opN s) ((tailP (lastP s) (⟨#[]⟩ : ByteArray))) (0 : Int) (((wsP s).take nn).map tlN)) = s))) := postsHold_at hp 4 rfl
                        have hk18 := postsHold_at hp 5 rfl
                        simp only [List.take_succ_cons, List.take_zero, insAll, ins, hv0, hv1, hv2, hv3, hv4] at hf
                        clear hp hnb hv0 hv1 hv2 hv3 hv4
                        replace hk17 := blk_grown hk17 hg14 (by omega)
                        replace hro := Row.grown hro hg14 (Row.ne_type hro hkb1 rfl)
                        replace hra1 := Row.grown hra1 hg14 (Row.ne_type hra1 hkb1 rfl)
                        replace hb := hb.trans (grown_below hg14 hb.size hBb1)
                        replace hk18 : w23.heap[b1]? = some (.cells #[(.int .u8 (((opN s : Nat) : Int))), (.int .u64 ((tailP (lastP s) (⟨#[]⟩ : ByteArray)))), (.int .u64 (0 : Int)), (.slice roa ((((wsP s).take nn).map tlN).length) roc)] 25 (0, 0)) := hk18
                        simp only [List.drop_succ_cons, List.drop_zero]
                        refine sqv hf (r_assign rfl) rfl rfl rfl ?_; clear hf fa; intro fa hf
                        apply wpList_nil
                        (try simp only [Exit.then, Exit.inBlock, ↓reduceIte, Nat.reduceEqDiff])
                        refine hK35 _ _ ?_
                        refine wp_ret ?_
                        (try simp only [Exit.then, Exit.inBlock])
                        refine retCT hf rfl rfl hk18 Tryd.underlying25 rfl (by kernel_rfl) rfl ?_
                        obtain ⟨e1, e2, e3, e4⟩ := q_yes hh.1
                        have hA : rqA s = ((tailP (lastP s) (⟨#[]⟩ : ByteArray))) := by unfold rqA qaW; rw [if_neg (by have h0 := hqt49_1; have h1 := hqt49_3; have h2 := hqt52_1; have h3 := hqt61_1; omega), if_neg (by have h0 := hqt49_1; have h1 := hqt49_3; have h2 := hqt52_1; have h3 := hqt61_1; omega), if_pos (by have h0 := hqt49_1; have h1 := hqt49_3; have h2 := hqt52_1; have h3 := hqt61_1; omega)]; rfl
                        have hB : rqB s = (0 : Int) := by unfold rqB qbW; rw [if_neg (by have h0 := hqt49_1; have h1 := hqt49_3; have h2 := hqt52_1; have h3 := hqt61_1; omega)]
                        have hL : rqL s = (((wsP s).take nn).map tlN) := by unfold rqL qlW; rw [if_pos (by have h0 := hqt49_1; have h1 := hqt49_3; have h2 := hqt52_1; have h3 := hqt61_1; omega)]; rw [show nn = (wordsS s).length - 2 by omega]; rfl
                        have hK := rK_is hh.1 hA hB hL
                        rw [e1, e2, e3, e4, hA, hB, hL, hK]
                        exact ⟨_, rfl, _, _, rfl, hro, hb⟩
                · have hqt61_1b := hqt61_1
                  replace hqt61_1 := Bool.eq_false_iff.1 hqt61_1
                  try simp only [ne_eq, decide_eq_true_eq, Bool.and_eq_true, Bool.or_eq_true, Bool.not_eq_true', decide_eq_false_iff_not] at hqt61_1
                  refine wp_seq_k (fun K36 hK36 => ?_)
                  refine wp_region_lit ?_
                  refine sqv hf (r_eq rfl rfl) rfl rfl rfl ?_; clear hf fa; intro fa hf
                  refine sqv hf (r_assign rfl) rfl rfl rfl ?_; clear hf fa; intro fa hf
                  apply wpList_nil
                  (try simp only [Exit.then, Exit.inBlock, ↓reduceIte, Nat.reduceEqDiff])
                  refine hK36 _ _ ?_
                  refine wp_cond_split (t := (decide ((((infP (opN s)).2.1)) = (8 : Int)))) (hf.ev rfl) (fun hqt84_1 => ?_) (fun hqt84_1 => ?_)
                  · have hqt84_1b := hqt84_1
                    try simp only [decide_eq_true_eq, Bool.and_eq_true, Bool.or_eq_true, Bool.not_eq_true', decide_eq_false_iff_not, ne_eq, Bool.not_eq_true] at hqt84_1
                    refine wp_seq_k (fun K37 hK37 => ?_)
                    refine wp_region_lit ?_
                    refine sqv hf (r_move rfl) rfl rfl rfl ?_; clear hf fa; intro fa hf
                    refine sqv hf (r_lensl rfl Tryd.underlying43) rfl rfl rfl ?_; clear hf fa; intro fa hf
                    refine sqv hf (r_eq rfl rfl) rfl rfl rfl ?_; clear hf fa; intro fa hf
                    apply wpList_nil
                    (try simp only [Exit.then, Exit.inBlock, ↓reduceIte, Nat.reduceEqDiff])
                    refine hK37 _ _ ?_
                    refine wp_cond_split (t := (decide ((((((wordsS s)).length) : Nat) : Int) = (3 : Int)))) (hf.ev rfl) (fun hqt88_1 => ?_) (fun hqt88_1 => ?_)
                    · have hqt88_1b := hqt88_1
                      try simp only [decide_eq_true_eq, Bool.and_eq_true, Bool.or_eq_true, Bool.not_eq_true', decide_eq_false_iff_not, ne_eq, Bool.not_eq_true] at hqt88_1
                      have hy7 : ((wordsS s))[1]? = some (wd (wordsS s) 1) := (wd_at (by omega))
                      have hel7 := RdS.at (Row.rd (by intros; rfl) hra1) hy7
                      obtain ⟨_, _, hab, hlr7, hel7⟩ := hel7
                      cases hab
                      have hy8 : ((wordsS s))[2]? = some (wd (wordsS s) 2) := (wd_at (by omega))
                      have hel8 := RdS.at (Row.rd (by intros; rfl) hra1) hy8
                      obtain ⟨_, _, hab, hlr8, hel8⟩ := hel8
                      cases hab
                      refine wp_region_unT 9 (fun wq => Below w7.heap.size w7 wq) (fun w w' => Below w.heap.size w w')
                        (fun V => [(fun x _ => x = (.slice (some ⟨rb1, 0, none⟩) ((((wordsS s)).length)) rc1)), (fun x _ => x = (.pointer (some ⟨rb1, (0 + 1 * 1), none⟩))), (fun x _ => x = (.string (wd (wordsS s) 1))), (fun x _ => x = (.int .u64 ((tailP (wd (wordsS s) 1) (⟨#[97, 108, 105, 103, 110, 61]⟩ : ByteArray))))), (fun x _ => x = (.slice (some ⟨rb1, 0, none⟩) ((((wordsS s)).length)) rc1)), (fun x _ => x = (.pointer (some ⟨rb1, (0 + 2 * 1), none⟩))), (fun x _ => x = (.string (wd (wordsS s) 2))), (fun x _ => x = (.int .u64 ((tailP (wd (wordsS s) 2) (⟨#[111, 102, 102, 115, 101, 116, 61]⟩ : ByteArray))))), (fun x _ => x = (.pointer (some ⟨b2, 1, none⟩)))])
                        []
                        [[], [0], [1], [2], [], [4], [5], [3, 6], [0, 1, 2, 3], [], [], []]
                        hf (by kernel_rfl) (by kernel_rfl) (by kernel_rfl) (fun _ => rfl) ((Below.refl _ _).drew) (fun a b h1 h2 => h1.trans (h2.mono h1.size)) (fun _ _ h => h.size) (fun V => ⟨kept_eq, kept_eq, kept_eq, kept_eq, kept_eq, kept_eq, kept_eq, kept_eq, kept_eq, trivial⟩) (fun _ _ _ _ _ => rfl) ?_ ?_
                      · skip
                        intro V
                        refine ⟨fun wu0 hC hd => ?_, ?_⟩
                        · clear hd
                          replace hb := hb.trans (hC.mono hb.size)
                          replace hkb1 := blk_ext hkb1 hC
                          replace hk3 := blk_ext hk3 hC
                          replace hra1 := Row.ext hra1 hC
                          replace hra2 := Row.ext hra2 hC
                          exact Runs.does (r_move rfl) ⟨Below.refl _ _, rfl, nofr rfl⟩
                        refine ⟨fun wu1 hC hd => ?_, ?_⟩
                        · obtain ⟨h0, _⟩ := hd
                          skip
                          replace h0 : V 0 = (.slice (some ⟨rb1, 0, none⟩) ((((wordsS s)).length)) rc1) := h0
                          replace hb := hb.trans (hC.mono hb.size)
                          replace hkb1 := blk_ext hkb1 hC
                          replace hk3 := blk_ext hk3 hC
                          replace hra1 := Row.ext hra1 hC
                          replace hra2 := Row.ext hra2 hC
                          exact Runs.does (r_ixa (sz := 1) (j := 1) (congrArg some h0) rfl Tryd.underlying43 (by kernel_rfl) rfl (by omega) rfl) ⟨Below.refl _ _, rfl, nofr rfl⟩
                        refine ⟨fun wu2 hC hd => ?_, ?_⟩
                        · obtain ⟨h1, _⟩ := hd
                          skip
                          replace h1 : V 1 = (.pointer (some ⟨rb1, (0 + 1 * 1), none⟩)) := h1
                          replace hb := hb.trans (hC.mono hb.size)
                          replace hkb1 := blk_ext hkb1 hC
                          replace hk3 := blk_ext hk3 hC
                          replace hra1 := Row.ext hra1 hC
                          replace hra2 := Row.ext hra2 hC
                          exact Runs.does (r_load (v := (.string (wd (wordsS s) 1))) (congrArg some h1) Tryd.underlying9 rfl (cellsAt_cell (cellsAt_below hel7 hC hlr7) (i := 0) rfl rfl)) ⟨Below.refl _ _, rfl, nofr rfl⟩
                        refine ⟨fun wu3 hC hd => ?_, ?_⟩
                        · obtain ⟨h2, _⟩ := hd
                          skip
                          replace h2 : V 2 = (.string (wd (wordsS s) 1)) := h2
                          replace hb := hb.trans (hC.mono hb.size)
                          replace hkb1 := blk_ext hkb1 hC
                          replace hk3 := blk_ext hk3 hC
                          replace hra1 := Row.ext hra1 hC
                          replace hra2 := Row.ext hra2 hC
                          refine Does.mono (d_callB (vs := [(.string (wd (wordsS s) 1)), (.string ⟨#[97, 108, 105, 103, 110, 61]⟩)]) (show [some (V 2), some (.string ⟨#[97, 108, 105, 103, 110, 61]⟩)] = [some (.string (wd (wordsS s) 1)), some (.string ⟨#[97, 108, 105, 103, 110, 61]⟩)] from by rw [h2]) Tryd.func33 (by kernel_rfl) (by kernel_rfl) (rtail_any (wd (wordsS s) 1) (⟨#[97, 108, 105, 103, 110, 61]⟩ : ByteArray) _ (by have := wd_size s 1; omega) (by decide))) (fun _ _ h => ⟨h.2, h.1, nofr rfl⟩)
                        refine ⟨fun wu4 hC hd => ?_, ?_⟩
                        · clear hd
                          replace hb := hb.trans (hC.mono hb.size)
                          replace hkb1 := blk_ext hkb1 hC
                          replace hk3 := blk_ext hk3 hC
                          replace hra1 := Row.ext hra1 hC
                          replace hra2 := Row.ext hra2 hC
                          exact Runs.does (r_move rfl) ⟨Below.refl _ _, rfl, nofr rfl⟩
                        refine ⟨fun wu5 hC hd => ?_, ?_⟩
                        · obtain ⟨h4, _⟩ := hd
                          skip
                          replace h4 : V 4 = (.slice (some ⟨rb1, 0, none⟩) ((((wordsS s)).length)) rc1) := h4
                          replace hb := hb.trans (hC.mono hb.size)
                          replace hkb1 := blk_ext hkb1 hC
                          replace hk3 := blk_ext hk3 hC
                          replace hra1 := Row.ext hra1 hC
                          replace hra2 := Row.ext hra2 hC
                          exact Runs.does (r_ixa (sz := 1) (j := 2) (congrArg some h4) rfl Tryd.underlying43 (by kernel_rfl) rfl (by omega) rfl) ⟨Below.refl _ _, rfl, nofr rfl⟩
                        refine ⟨fun wu6 hC hd => ?_, ?_⟩
                        · obtain ⟨h5, _⟩ := hd
                          skip
                          replace h5 : V 5 = (.pointer (some ⟨rb1, (0 + 2 * 1), none⟩)) := h5
                          replace hb := hb.trans (hC.mono hb.size)
                          replace hkb1 := blk_ext hkb1 hC
                          replace hk3 := blk_ext hk3 hC
                          replace hra1 := Row.ext hra1 hC
                          replace hra2 := Row.ext hra2 hC
                          exact Runs.does (r_load (v := (.string (wd (wordsS s) 2))) (congrArg some h5) Tryd.underlying9 rfl (cellsAt_cell (cellsAt_below hel8 hC hlr8) (i := 0) rfl rfl)) ⟨Below.refl _ _, rfl, nofr rfl⟩
                        refine ⟨fun wu7 hC hd => ?_, ?_⟩
                        · obtain ⟨h3, h6, _⟩ := hd
                          skip
                          skip
                          replace h3 : V 3 = (.int .u64 ((tailP (wd (wordsS s) 1) (⟨#[97, 108, 105, 103, 110, 61]⟩ : ByteArray)))) := h3
                          replace h6 : V 6 = (.string (wd (wordsS s) 2)) := h6
                          replace hb := hb.trans (hC.mono hb.size)
                          replace hkb1 := blk_ext hkb1 hC
                          replace hk3 := blk_ext hk3 hC
                          replace hra1 := Row.ext hra1 hC
                          replace hra2 := Row.ext hra2 hC
                          refine Does.mono (d_callB (vs := [(.string (wd (wordsS s) 2)), (.string ⟨#[111, 102, 102, 115, 101, 116, 61]⟩)]) (show [some (V 6), some (.string ⟨#[111, 102, 102, 115, 101, 116, 61]⟩)] = [some (.string (wd (wordsS s) 2)), some (.string ⟨#[111, 102, 102, 115, 101, 116, 61]⟩)] from by rw [h6]) Tryd.func33 (by kernel_rfl) (by kernel_rfl) (rtail_any (wd (wordsS s) 2) (⟨#[111, 102, 102, 115, 101, 116, 61]⟩ : ByteArray) _ (by have := wd_size s 2; omega) (by decide))) (fun _ _ h => ⟨h.2, h.1, nofr rfl⟩)
                        refine ⟨fun wu8 hC hd => ?_, ?_⟩
                        · obtain ⟨h0, h1, h2, h3, _⟩ := hd
                          skip
                          skip
                          skip
                          skip
                          replace h0 : V 0 = (.slice (some ⟨rb1, 0, none⟩) ((((wordsS s)).length)) rc1) := h0
                          replace h1 : V 1 = (.pointer (some ⟨rb1, (0 + 1 * 1), none⟩)) := h1
                          replace h2 : V 2 = (.string (wd (wordsS s) 1)) := h2
                          replace h3 : V 3 = (.int .u64 ((tailP (wd (wordsS s) 1) (⟨#[97, 108, 105, 103, 110, 61]⟩ : ByteArray)))) := h3
                          replace hb := hb.trans (hC.mono hb.size)
                          replace hkb1 := blk_ext hkb1 hC
                          replace hk3 := blk_ext hk3 hC
                          replace hra1 := Row.ext hra1 hC
                          replace hra2 := Row.ext hra2 hC
                          exact Runs.does (r_fa rfl Tryd.underlying25 (f := 1) (q := 1) rfl (by kernel_rfl) rfl) ⟨Below.refl _ _, rfl, nofr rfl⟩
                        trivial
                      · skip
                        clear hf fa; intro V w24 fa he15 hp hnb hf
                        have hv0 : V 0 = (.slice (some ⟨rb1, 0, none⟩) ((((wordsS s)).length)) rc1) := postsHold_at hp 0 rfl
                        have hv1 : V 1 = (.pointer (some ⟨rb1, (0 + 1 * 1), none⟩)) := postsHold_at hp 1 rfl
                        have hv2 : V 2 = (.string (wd (wordsS s) 1)) := postsHold_at hp 2 rfl
                        have hv3 : V 3 = (.int .u64 ((tailP (wd (wordsS s) 1) (⟨#[97, 108, 105, 103, 110, 61]⟩ : ByteArray)))) := postsHold_at hp 3 rfl
                        have hv4 : V 4 = (.slice (some ⟨rb1, 0, none⟩) ((((wordsS s)).length)) rc1) := postsHold_at hp 4 rfl
                        have hv5 : V 5 = (.pointer (some ⟨rb1, (0 + 2 * 1), none⟩)) := postsHold_at hp 5 rfl
                        have hv6 : V 6 = (.string (wd (wordsS s) 2)) := postsHold_at hp 6 rfl
                        have hv7 : V 7 = (.int .u64 ((tailP (wd (wordsS s) 2) (⟨#[111, 102, 102, 115, 101, 116, 61]⟩ : ByteArray)))) := postsHold_at hp 7 rfl
                        have hv8 : V 8 = (.pointer (some ⟨b2, 1, none⟩)) := postsHold_at hp 8 rfl
                        simp only [List.take_succ_cons, List.take_zero, insAll, ins, hv0, hv1, hv2, hv3, hv4, hv5, hv6, hv7, hv8] at hf
                        clear hp hnb hv0 hv1 hv2 hv3 hv4 hv5 hv6 hv7 hv8
                        replace hkb1 := blk_ext hkb1 he15
                        replace hk3 := blk_ext hk3 he15
                        replace hra1 := Row.ext hra1 he15
                        replace hra2 := Row.ext hra2 he15
                        replace hb := hb.trans (Below.mono he15 hb.size)
                        simp only [List.drop_succ_cons, List.drop_zero]
                        refine sqn hf (d_storeK (T := 25) (v := (.int .u64 ((tailP (wd (wordsS s) 1) (⟨#[97, 108, 105, 103, 110, 61]⟩ : ByteArray))))) (cs := #[(.int .u8 (((opN s : Nat) : Int))), (.int .u64 (0 : Int)), (.int .u64 (0 : Int)), (.slice none 0 0)]) (cs' := #[(.int .u8 (((opN s : Nat) : Int))), (.int .u64 ((tailP (wd (wordsS s) 1) (⟨#[97, 108, 105, 103, 110, 61]⟩ : ByteArray)))), (.int .u64 (0 : Int)), (.slice none 0 0)]) rfl rfl (by kernel_rfl) (by kernel_rfl) hk3 (by kernel_rfl) (by kernel_rfl)) rfl rfl ?_; clear hf fa; rintro fa _ w25 ⟨hk19, hg15⟩ hf
                        replace hkb1 := blk_grown hkb1 hg15 (by omega)
                        replace hra1 := Row.grown hra1 hg15 (Row.ne_type hra1 hk3 rfl)
                        replace hra2 := Row.grown hra2 hg15 (Row.ne_type hra2 hk3 rfl)
                        replace hb := hb.trans (grown_below hg15 hb.size hBb2)
                        refine sqv hf (r_fa rfl Tryd.underlying25 (f := 2) (q := 2) rfl (by kernel_rfl) rfl) rfl rfl rfl ?_; clear hf fa; intro fa hf
                        refine sqn hf (d_storeK (T := 25) (v := (.int .u64 ((tailP (wd (wordsS s) 2) (⟨#[111, 102, 102, 115, 101, 116, 61]⟩ : ByteArray))))) (cs := #[(.int .u8 (((opN s : Nat) : Int))), (.int .u64 ((tailP (wd (wordsS s) 1) (⟨#[97, 108, 105, 103, 110, 61]⟩ : ByteArray)))), (.int .u64 (0 : Int)), (.slice none 0 0)]) (cs' := #[(.int .u8 (((opN s : Nat) : Int))), (.int .u64 ((tailP (wd (wordsS s) 1) (⟨#[97, 108, 105, 103, 110, 61]⟩ : ByteArray)))), (.int .u64 ((tailP (wd (wordsS s) 2) (⟨#[111, 102, 102, 115, 101, 116, 61]⟩ : ByteArray)))), (.slice none 0 0)]) rfl rfl (by kernel_rfl) (by kernel_rfl) hk19 (by kernel_rfl) (by kernel_rfl)) rfl rfl ?_; clear hf fa; rintro fa _ w26 ⟨hk20, hg16⟩ hf
                        replace hkb1 := blk_grown hkb1 hg16 (by omega)
                        replace hra1 := Row.grown hra1 hg16 (Row.ne_type hra1 hk19 rfl)
                        replace hra2 := Row.grown hra2 hg16 (Row.ne_type hra2 hk19 rfl)
                        replace hb := hb.trans (grown_below hg16 hb.size hBb2)
                        apply wpList_nil
                        (try simp only [Exit.then, Exit.inBlock, ↓reduceIte, Nat.reduceEqDiff])
                        refine hK13 _ _ ?_
                        refine wp_seq_k (fun K38 hK38 => ?_)
                        skip
                        refine wp_region_unT 6 (fun wc => (w26.grownBy wc (some b1) ∧ (wc.heap[b1]? = some (.cells #[(.int .u8 (0 : Int)), (.int .u64 (0 : Int)), (.int .u64 (0 : Int)), (.slice none 0 0)] 25 (0, 0)) ∨ wc.heap[b1]? = some (.cells #[(.int .u8 (((opN s : Nat) : Int))), (.int .u64 ((tailP (wd (wordsS s) 1) (⟨#[97, 108, 105, 103, 110, 61]⟩ : ByteArray)))), (.int .u64 ((tailP (wd (wordsS s) 2) (⟨#[111, 102, 102, 115, 101, 116, 61]⟩ : ByteArray)))), (.slice none 0 0)] 25 (0, 0))))) (fun wa wc => ((w26.grownBy wa (some b1) ∧ (wa.heap[b1]? = some (.cells #[(.int .u8 (0 : Int)), (.int .u64 (0 : Int)), (.int .u64 (0 : Int)), (.slice none 0 0)] 25 (0, 0)) ∨ wa.heap[b1]? = some (.cells #[(.int .u8 (((opN s : Nat) : Int))), (.int .u64 ((tailP (wd (wordsS s) 1) (⟨#[97, 108, 105, 103, 110, 61]⟩ : ByteArray)))), (.int .u64 ((tailP (wd (wordsS s) 2) (⟨#[111, 102, 102, 115, 101, 116, 61]⟩ : ByteArray)))), (.slice none 0 0)] 25 (0, 0)))) → (w26.grownBy wc (some b1) ∧ (wc.heap[b1]? = some (.cells #[(.int .u8 (0 : Int)), (.int .u64 (0 : Int)), (.int .u64 (0 : Int)), (.slice none 0 0)] 25 (0, 0)) ∨ wc.heap[b1]? = some (.cells #[(.int .u8 (((opN s : Nat) : Int))), (.int .u64 ((tailP (wd (wordsS s) 1) (⟨#[97, 108, 105, 103, 110, 61]⟩ : ByteArray)))), (.int .u64 ((tailP (wd (wordsS s) 2) (⟨#[111, 102, 102, 115, 101, 116, 61]⟩ : ByteArray)))), (.slice none 0 0)] 25 (0, 0))))) ∧ wa.heap.size ≤ wc.heap.size ∧ (wa.heap[b1]? = some (.cells #[(.int .u8 (((opN s : Nat) : Int))), (.int .u64 ((tailP (wd (wordsS s) 1) (⟨#[97, 108, 105, 103, 110, 61]⟩ : ByteArray)))), (.int .u64 ((tailP (wd (wordsS s) 2) (⟨#[111, 102, 102, 115, 101, 116, 61]⟩ : ByteArray)))), (.slice none 0 0)] 25 (0, 0)) → wc.heap[b1]? = some (.cells #[(.int .u8 (((opN s : Nat) : Int))), (.int .u64 ((tailP (wd (wordsS s) 1) (⟨#[97, 108, 105, 103, 110, 61]⟩ : ByteArray)))), (.int .u64 ((tailP (wd (wordsS s) 2) (⟨#[111, 102, 102, 115, 101, 116, 61]⟩ : ByteArray)))), (.slice none 0 0)] 25 (0, 0))))
                          (fun V => [(fun x _ => x = (.agg #[(.int .u8 (((opN s : Nat) : Int))), (.int .u64 ((tailP (wd (wordsS s) 1) (⟨#[97, 108, 105, 103, 110, 61]⟩ : ByteArray)))), (.int .u64 ((tailP (wd (wordsS s) 2) (⟨#[111, 102, 102, 115, 101, 116, 61]⟩ : ByteArray)))), (.slice none 0 0)])), (fun x _ => x = (.agg #[(.int .u8 (((opN s : Nat) : Int))), (.int .u64 ((tailP (wd (wordsS s) 1) (⟨#[97, 108, 105, 103, 110, 61]⟩ : ByteArray)))), (.int .u64 ((tailP (wd (wordsS s) 2) (⟨#[111, 102, 102, 115, 101, 116, 61]⟩ : ByteArray)))), (.slice none 0 0)])), (fun x _ => x = (.string (lineP (opN s) ((tailP (wd (wordsS s) 1) (⟨#[97, 108, 105, 103, 110, 61]⟩ : ByteArray))) ((tailP (wd (wordsS s) 2) (⟨#[111, 102, 102, 115, 101, 116, 61]⟩ : ByteArray))) []))), (fun x _ => x = (.string s)), (fun x _ => x = (.bool (decide ((lineP (opN s) ((tailP (wd (wordsS s) 1) (⟨#[97, 108, 105, 103, 110, 61]⟩ : ByteArray))) ((tailP (wd (wordsS s) 2) (⟨#[111, 102, 102, 115, 101, 116, 61]⟩ : ByteArray))) []) = s)))), (fun _ wq => wq.heap[b1]? = some (.cells #[(.int .u8 (((opN s : Nat) : Int))), (.int .u64 ((tailP (wd (wordsS s) 1) (⟨#[97, 108, 105, 103, 110, 61]⟩ : ByteArray)))), (.int .u64 ((tailP (wd (wordsS s) 2) (⟨#[111, 102, 102, 115, 101, 116, 61]⟩ : ByteArray)))), (.slice none 0 0)] 25 (0, 0)))])
                          []
                          [[], [], [1], [], [2, 3], [0, 2], []]
                          hf (by kernel_rfl) (by kernel_rfl) (by kernel_rfl) (fun _ => rfl) ⟨below_grown (Below.refl _ _).drew, .inl (blk_ext hkb1 (Below.refl _ _).drew)⟩ (fun a b h1 h2 => h2.1 h1) (fun _ _ h => h.2.1) (fun V => ⟨(fun _ _ _ h _ => h), (fun _ _ _ h _ => h), (fun _ _ _ h _ => h), (fun _ _ _ h _ => h), (fun _ _ _ h _ => h), (fun _ _ _ h hG => hG.2.2 h), trivial⟩) (fun _ _ _ _ _ => rfl) ?_ ?_
                        · skip
                          intro V
                          refine ⟨fun wu0 hC hd => ?_, ?_⟩
                          · clear hd
                            have hgC := hC.1
                            replace hk20 := blk_grown hk20 hgC (by omega)
                            replace hra1 := Row.grown hra1 hgC (Row.ne_type hra1 hkb1 rfl)
                            replace hra2 := Row.grown hra2 hgC (Row.ne_type hra2 hkb1 rfl)
                            replace hb := hb.trans (grown_below hgC hb.size hBb1)
                            exact Runs.does (r_loadA (cs := [(.int .u8 (((opN s : Nat) : Int))), (.int .u64 ((tailP (wd (wordsS s) 1) (⟨#[97, 108, 105, 103, 110, 61]⟩ : ByteArray)))), (.int .u64 ((tailP (wd (wordsS s) 2) (⟨#[111, 102, 102, 115, 101, 116, 61]⟩ : ByteArray)))), (.slice none 0 0)]) rfl Tryd.underlying25 rfl (by kernel_rfl) (cellsAt_blk hk20)) ⟨⟨id, Nat.le_refl _, id⟩, rfl, nofr rfl⟩
                          refine ⟨fun wu1 hC hd => ?_, ?_⟩
                          · clear hd
                            have hgC := hC.1
                            replace hk20 := blk_grown hk20 hgC (by omega)
                            replace hra1 := Row.grown hra1 hgC (Row.ne_type hra1 hkb1 rfl)
                            replace hra2 := Row.grown hra2 hgC (Row.ne_type hra2 hkb1 rfl)
                            replace hb := hb.trans (grown_below hgC hb.size hBb1)
                            exact Runs.does (r_loadA (cs := [(.int .u8 (((opN s : Nat) : Int))), (.int .u64 ((tailP (wd (wordsS s) 1) (⟨#[97, 108, 105, 103, 110, 61]⟩ : ByteArray)))), (.int .u64 ((tailP (wd (wordsS s) 2) (⟨#[111, 102, 102, 115, 101, 116, 61]⟩ : ByteArray)))), (.slice none 0 0)]) rfl Tryd.underlying25 rfl (by kernel_rfl) (cellsAt_blk hk20)) ⟨⟨id, Nat.le_refl _, id⟩, rfl, nofr rfl⟩
                          refine ⟨fun wu2 hC hd => ?_, ?_⟩
                          · obtain ⟨h1, _⟩ := hd
                            replace h1 : V 1 = (.agg #[(.int .u8 (((opN s : Nat) : Int))), (.int .u64 ((tailP (wd (wordsS s) 1) (⟨#[97, 108, 105, 103, 110, 61]⟩ : ByteArray)))), (.int .u64 ((tailP (wd (wordsS s) 2) (⟨#[111, 102, 102, 115, 101, 116, 61]⟩ : ByteArray)))), (.slice none 0 0)]) := h1
                            have hgC := hC.1
                            replace hk20 := blk_grown hk20 hgC (by omega)
                            replace hra1 := Row.grown hra1 hgC (Row.ne_type hra1 hkb1 rfl)
                            replace hra2 := Row.grown hra2 hgC (Row.ne_type hra2 hkb1 rfl)
                            replace hb := hb.trans (grown_below hgC hb.size hBb1)
                            refine Does.mono (d_callB (vs := [(.agg #[(.int .u8 (((opN s : Nat) : Int))), (.int .u64 ((tailP (wd (wordsS s) 1) (⟨#[97, 108, 105, 103, 110, 61]⟩ : ByteArray)))), (.int .u64 ((tailP (wd (wordsS s) 2) (⟨#[111, 102, 102, 115, 101, 116, 61]⟩ : ByteArray)))), (.slice none 0 0)])]) (show [some (V 1)] = [some (.agg #[(.int .u8 (((opN s : Nat) : Int))), (.int .u64 ((tailP (wd (wordsS s) 1) (⟨#[97, 108, 105, 103, 110, 61]⟩ : ByteArray)))), (.int .u64 ((tailP (wd (wordsS s) 2) (⟨#[111, 102, 102, 115, 101, 116, 61]⟩ : ByteArray)))), (.slice none 0 0)])] from by rw [h1]) Tryd.func8 (by kernel_rfl) (by kernel_rfl) (rline_any (opN s) ((tailP (wd (wordsS s) 1) (⟨#[97, 108, 105, 103, 110, 61]⟩ : ByteArray))) ((tailP (wd (wordsS s) 2) (⟨#[111, 102, 102, 115, 101, 116, 61]⟩ : ByteArray))) [] none 0 _ RdS.nil (fun y hy => by cases hy) hop (by first | decide | exact tailP_rng _ _ | omega) (by first | decide | exact tailP_rng _ _ | omega) (Nat.le_refl 0) (by decide))) (fun _ _ h => ⟨⟨fun hc => ⟨grown_trans hc.1 (below_grown h.2), hc.2.imp (fun z => blk_ext z h.2) (fun z => blk_ext z h.2)⟩, h.2.size, fun z => blk_ext z h.2⟩, h.1, nofr rfl⟩)
                          refine ⟨fun wu3 hC hd => ?_, ?_⟩
                          · clear hd
                            have hgC := hC.1
                            replace hk20 := blk_grown hk20 hgC (by omega)
                            replace hra1 := Row.grown hra1 hgC (Row.ne_type hra1 hkb1 rfl)
                            replace hra2 := Row.grown hra2 hgC (Row.ne_type hra2 hkb1 rfl)
                            replace hb := hb.trans (grown_below hgC hb.size hBb1)
                            exact Runs.does (r_move rfl) ⟨⟨id, Nat.le_refl _, id⟩, rfl, nofr rfl⟩
                          refine ⟨fun wu4 hC hd => ?_, ?_⟩
                          · obtain ⟨h2, h3, _⟩ := hd
                            replace h2 : V 2 = (.string (lineP (opN s) ((tailP (wd (wordsS s) 1) (⟨#[97, 108, 105, 103, 110, 61]⟩ : ByteArray))) ((tailP (wd (wordsS s) 2) (⟨#[111, 102, 102, 115, 101, 116, 61]⟩ : ByteArray))) [])) := h2
                            replace h3 : V 3 = (.string s) := h3
                            have hgC := hC.1
                            replace hk20 := blk_grown hk20 hgC (by omega)
                            replace hra1 := Row.grown hra1 hgC (Row.ne_type hra1 hkb1 rfl)
                            replace hra2 := Row.grown hra2 hgC (Row.ne_type hra2 hkb1 rfl)
                            replace hb := hb.trans (grown_below hgC hb.size hBb1)
                            exact Runs.does (r_seq (congrArg some h2) (congrArg some h3)) ⟨⟨id, Nat.le_refl _, id⟩, rfl, nofr rfl⟩
                          refine ⟨fun wu5 hC hd => ?_, ?_⟩
                          · obtain ⟨h0, h2, _⟩ := hd
                            replace h0 : V 0 = (.agg #[(.int .u8 (((opN s : Nat) : Int))), (.int .u64 ((tailP (wd (wordsS s) 1) (⟨#[97, 108, 105, 103, 110, 61]⟩ : ByteArray)))), (.int .u64 ((tailP (wd (wordsS s) 2) (⟨#[111, 102, 102, 115, 101, 116, 61]⟩ : ByteArray)))), (.slice none 0 0)]) := h0
                            replace h2 : V 2 = (.string (lineP (opN s) ((tailP (wd (wordsS s) 1) (⟨#[97, 108, 105, 103, 110, 61]⟩ : ByteArray))) ((tailP (wd (wordsS s) 2) (⟨#[111, 102, 102, 115, 101, 116, 61]⟩ : ByteArray))) [])) := h2
                            have hgC := hC.1
                            replace hk20 := blk_grown hk20 hgC (by omega)
                            replace hra1 := Row.grown hra1 hgC (Row.ne_type hra1 hkb1 rfl)
                            replace hra2 := Row.grown hra2 hgC (Row.ne_type hra2 hkb1 rfl)
                            replace hb := hb.trans (grown_below hgC hb.size hBb1)
                            rcases hC.2 with hX | hX
                            · refine Does.mono (d_storeK (T := 25) (v := (.agg #[(.int .u8 (((opN s : Nat) : Int))), (.int .u64 ((tailP (wd (wordsS s) 1) (⟨#[97, 108, 105, 103, 110, 61]⟩ : ByteArray)))), (.int .u64 ((tailP (wd (wordsS s) 2) (⟨#[111, 102, 102, 115, 101, 116, 61]⟩ : ByteArray)))), (.slice none 0 0)])) (cs := #[(.int .u8 (0 : Int)), (.int .u64 (0 : Int)), (.int .u64 (0 : Int)), (.slice none 0 0)]) (cs' := #[(.int .u8 (((opN s : Nat) : Int))), (.int .u64 ((tailP (wd (wordsS s) 1) (⟨#[97, 108, 105, 103, 110, 61]⟩ : ByteArray)))), (.int .u64 ((tailP (wd (wordsS s) 2) (⟨#[111, 102, 102, 115, 101, 116, 61]⟩ : ByteArray)))), (.slice none 0 0)]) rfl (congrArg some h0) (by kernel_rfl) (by kernel_rfl) hX (by kernel_rfl) (by kernel_rfl)) ?_
                              rintro _ wz ⟨hY, hgY⟩
                              exact ⟨⟨fun _ => ⟨grownBy_trans hgC hgY, .inr hY⟩, hgY.size, fun _ => hY⟩, hY, nofr rfl⟩
                            · refine Does.mono (d_storeK (T := 25) (v := (.agg #[(.int .u8 (((opN s : Nat) : Int))), (.int .u64 ((tailP (wd (wordsS s) 1) (⟨#[97, 108, 105, 103, 110, 61]⟩ : ByteArray)))), (.int .u64 ((tailP (wd (wordsS s) 2) (⟨#[111, 102, 102, 115, 101, 116, 61]⟩ : ByteArray)))), (.slice none 0 0)])) (cs := #[(.int .u8 (((opN s : Nat) : Int))), (.int .u64 ((tailP (wd (wordsS s) 1) (⟨#[97, 108, 105, 103, 110, 61]⟩ : ByteArray)))), (.int .u64 ((tailP (wd (wordsS s) 2) (⟨#[111, 102, 102, 115, 101, 116, 61]⟩ : ByteArray)))), (.slice none 0 0)]) (cs' := #[(.int .u8 (((opN s : Nat) : Int))), (.int .u64 ((tailP (wd (wordsS s) 1) (⟨#[97, 108, 105, 103, 110, 61]⟩ : ByteArray)))), (.int .u64 ((tailP (wd (wordsS s) 2) (⟨#[111, 102, 102, 115, 101, 116, 61]⟩ : ByteArray)))), (.slice none 0 0)]) rfl (congrArg some h0) (by kernel_rfl) (by kernel_rfl) hX (by kernel_rfl) (by kernel_rfl)) ?_
                              rintro _ wz ⟨hY, hgY⟩
                              exact ⟨⟨fun _ => ⟨grownBy_trans hgC hgY, .inr hY⟩, hgY.size, fun _ => hY⟩, hY, nofr rfl⟩
                          trivial
                        · skip
                          clear hf fa; intro V w27 fa he16 hp hnb hf
                          have hg17 := he16.1
                          have hv0 : V 0 = (.agg #[(.int .u8 (((opN s : Nat) : Int))), (.int .u64 ((tailP (wd (wordsS s) 1) (⟨#[97, 108, 105, 103, 110, 61]⟩ : ByteArray)))), (.int .u64 ((tailP (wd (wordsS s) 2) (⟨#[111, 102, 102, 115, 101, 116, 61]⟩ : ByteArray)))), (.slice none 0 0)]) := postsHold_at hp 0 rfl
                          have hv1 : V 1 = (.agg #[(.int .u8 (((opN s : Nat) : Int))), (.int .u64 ((tailP (wd (wordsS s) 1) (⟨#[97, 108, 105, 103, 110, 61]⟩ : ByteArray)))), (.int .u64 ((tailP (wd (wordsS s) 2) (⟨#[111, 102, 102, 115, 101, 116, 61]⟩ : ByteArray)))), (.slice none 0 0)]) := postsHold_at hp 1 rfl
                          have hv2 : V 2 = (.string (lineP (opN s) ((tailP (wd (wordsS s) 1) (⟨#[97, 108, 105, 103, 110, 61]⟩ : ByteArray))) ((tailP (wd (wordsS s) 2) (⟨#[111, 102, 102, 115, 101, 116, 61]⟩ : ByteArray))) [])) := postsHold_at hp 2 rfl
                          have hv3 : V 3 = (.string s) := postsHold_at hp 3 rfl
                          have hv4 : V 4 = (.bool (decide ((lineP (opN s) ((tailP (wd (wordsS s) 1) (⟨#[97, 108, 105, 103, 110, 61]⟩ : ByteArray))) ((tailP (wd (wordsS s) 2) (⟨#[111, 102, 102, 115, 101, 116, 61]⟩ : ByteArray))) []) = s))) := postsHold_at hp 4 rfl
                          have hk21 := postsHold_at hp 5 rfl
                          simp only [List.take_succ_cons, List.take_zero, insAll, ins, hv0, hv1, hv2, hv3, hv4] at hf
                          clear hp hnb hv0 hv1 hv2 hv3 hv4
                          replace hk20 := blk_grown hk20 hg17 (by omega)
                          replace hra1 := Row.grown hra1 hg17 (Row.ne_type hra1 hkb1 rfl)
                          replace hra2 := Row.grown hra2 hg17 (Row.ne_type hra2 hkb1 rfl)
                          replace hb := hb.trans (grown_below hg17 hb.size hBb1)
                          replace hk21 : w27.heap[b1]? = some (.cells #[(.int .u8 (((opN s : Nat) : Int))), (.int .u64 ((tailP (wd (wordsS s) 1) (⟨#[97, 108, 105, 103, 110, 61]⟩ : ByteArray)))), (.int .u64 ((tailP (wd (wordsS s) 2) (⟨#[111, 102, 102, 115, 101, 116, 61]⟩ : ByteArray)))), (.slice none 0 0)] 25 (0, 0)) := hk21
                          simp only [List.drop_succ_cons, List.drop_zero]
                          refine sqv hf (r_assign rfl) rfl rfl rfl ?_; clear hf fa; intro fa hf
                          apply wpList_nil
                          (try simp only [Exit.then, Exit.inBlock, ↓reduceIte, Nat.reduceEqDiff])
                          refine hK38 _ _ ?_
                          refine wp_ret ?_
                          (try simp only [Exit.then, Exit.inBlock])
                          refine retCT hf rfl rfl hk21 Tryd.underlying25 rfl (by kernel_rfl) rfl ?_
                          obtain ⟨e1, e2, e3, e4⟩ := q_yes hh.1
                          have hA : rqA s = ((tailP (wd (wordsS s) 1) (⟨#[97, 108, 105, 103, 110, 61]⟩ : ByteArray))) := by unfold rqA qaW; rw [if_neg (by have h0 := hqt49_1; have h1 := hqt49_3; have h2 := hqt52_1; have h3 := hqt61_1; have h4 := hqt84_1; omega), if_neg (by have h0 := hqt49_1; have h1 := hqt49_3; have h2 := hqt52_1; have h3 := hqt61_1; have h4 := hqt84_1; omega), if_neg (by have h0 := hqt49_1; have h1 := hqt49_3; have h2 := hqt52_1; have h3 := hqt61_1; have h4 := hqt84_1; omega), if_pos (by have h0 := hqt49_1; have h1 := hqt49_3; have h2 := hqt52_1; have h3 := hqt61_1; have h4 := hqt84_1; omega)]; rw [if_pos (by have h := hqt88_1; omega)]
                          have hB : rqB s = ((tailP (wd (wordsS s) 2) (⟨#[111, 102, 102, 115, 101, 116, 61]⟩ : ByteArray))) := by unfold rqB qbW; rw [if_pos (by have h0 := hqt49_1; have h1 := hqt49_3; have h2 := hqt52_1; have h3 := hqt61_1; have h4 := hqt84_1; have h9 := hqt88_1; omega)]
                          have hL : rqL s = [] := by unfold rqL qlW; rw [if_neg (by have h0 := hqt49_1; have h1 := hqt49_3; have h2 := hqt52_1; have h3 := hqt61_1; have h4 := hqt84_1; have h9 := hqt88_1; omega)]
                          have hK := rK_is hh.1 hA hB hL
                          rw [e1, e2, e3, e4, hA, hB, hL, hK]
                          exact ⟨_, rfl, _, _, rfl, Row.nil, hb⟩
                    · have hqt88_1b := hqt88_1
                      replace hqt88_1 := Bool.eq_false_iff.1 hqt88_1
                      try simp only [ne_eq, decide_eq_true_eq, Bool.and_eq_true, Bool.or_eq_true, Bool.not_eq_true', decide_eq_false_iff_not] at hqt88_1
                      refine wp_skip ?_
                      (try simp only [Exit.then, Exit.inBlock, ↓reduceIte, Nat.reduceEqDiff])
                      refine hK13 _ _ ?_
                      refine wp_seq_k (fun K39 hK39 => ?_)
                      skip
                      have hne_hel4 : rb1 ≠ b1 := fun e => (Row.ne_type hra1 hkb1 rfl) (congrArg some e)
                      have hne_hel5 : rb2 ≠ b1 := fun e => (Row.ne_type hra2 hkb1 rfl) (congrArg some e)
                      refine wp_region_unT 6 (fun wc => (w7.grownBy wc (some b1) ∧ (wc.heap[b1]? = some (.cells #[(.int .u8 (0 : Int)), (.int .u64 (0 : Int)), (.int .u64 (0 : Int)), (.slice none 0 0)] 25 (0, 0)) ∨ wc.heap[b1]? = some (.cells #[(.int .u8 (((opN s : Nat) : Int))), (.int .u64 (0 : Int)), (.int .u64 (0 : Int)), (.slice none 0 0)] 25 (0, 0))))) (fun wa wc => ((w7.grownBy wa (some b1) ∧ (wa.heap[b1]? = some (.cells #[(.int .u8 (0 : Int)), (.int .u64 (0 : Int)), (.int .u64 (0 : Int)), (.slice none 0 0)] 25 (0, 0)) ∨ wa.heap[b1]? = some (.cells #[(.int .u8 (((opN s : Nat) : Int))), (.int .u64 (0 : Int)), (.int .u64 (0 : Int)), (.slice none 0 0)] 25 (0, 0)))) → (w7.grownBy wc (some b1) ∧ (wc.heap[b1]? = some (.cells #[(.int .u8 (0 : Int)), (.int .u64 (0 : Int)), (.int .u64 (0 : Int)), (.slice none 0 0)] 25 (0, 0)) ∨ wc.heap[b1]? = some (.cells #[(.int .u8 (((opN s : Nat) : Int))), (.int .u64 (0 : Int)), (.int .u64 (0 : Int)), (.slice none 0 0)] 25 (0, 0))))) ∧ wa.heap.size ≤ wc.heap.size ∧ (wa.heap[b1]? = some (.cells #[(.int .u8 (((opN s : Nat) : Int))), (.int .u64 (0 : Int)), (.int .u64 (0 : Int)), (.slice none 0 0)] 25 (0, 0)) → wc.heap[b1]? = some (.cells #[(.int .u8 (((opN s : Nat) : Int))), (.int .u64 (0 : Int)), (.int .u64 (0 : Int)), (.slice none 0 0)] 25 (0, 0))))
                        (fun V => [(fun x _ => x = (.agg #[(.int .u8 (((opN s : Nat) : Int))), (.int .u64 (0 : Int)), (.int .u64 (0 : Int)), (.slice none 0 0)])), (fun x _ => x = (.agg #[(.int .u8 (((opN s : Nat) : Int))), (.int .u64 (0 : Int)), (.int .u64 (0 : Int)), (.slice none 0 0)])), (fun x _ => x = (.string (lineP (opN s) (0 : Int) (0 : Int) []))), (fun x _ => x = (.string s)), (fun x _ => x = (.bool (decide ((lineP (opN s) (0 : Int) (0 : Int) []) = s)))), (fun _ wq => wq.heap[b1]? = some (.cells #[(.int .u8 (((opN s : Nat) : Int))), (.int .u64 (0 : Int)), (.int .u64 (0 : Int)), (.slice none 0 0)] 25 (0, 0)))])
                        []
                        [[], [], [1], [], [2, 3], [0, 2], []]
                        hf (by kernel_rfl) (by kernel_rfl) (by kernel_rfl) (fun _ => rfl) ⟨below_grown (Below.refl _ _).drew, .inl (blk_ext hkb1 (Below.refl _ _).drew)⟩ (fun a b h1 h2 => h2.1 h1) (fun _ _ h => h.2.1) (fun V => ⟨(fun _ _ _ h _ => h), (fun _ _ _ h _ => h), (fun _ _ _ h _ => h), (fun _ _ _ h _ => h), (fun _ _ _ h _ => h), (fun _ _ _ h hG => hG.2.2 h), trivial⟩) (fun _ _ _ _ _ => rfl) ?_ ?_
                      · skip
                        intro V
                        refine ⟨fun wu0 hC hd => ?_, ?_⟩
                        · clear hd
                          have hgC := hC.1
                          replace hk3 := blk_grown hk3 hgC (by omega)
                          replace hra1 := Row.grown hra1 hgC (Row.ne_type hra1 hkb1 rfl)
                          replace hra2 := Row.grown hra2 hgC (Row.ne_type hra2 hkb1 rfl)
                          replace hb := hb.trans (grown_below hgC hb.size hBb1)
                          exact Runs.does (r_loadA (cs := [(.int .u8 (((opN s : Nat) : Int))), (.int .u64 (0 : Int)), (.int .u64 (0 : Int)), (.slice none 0 0)]) rfl Tryd.underlying25 rfl (by kernel_rfl) (cellsAt_blk hk3)) ⟨⟨id, Nat.le_refl _, id⟩, rfl, nofr rfl⟩
                        refine ⟨fun wu1 hC hd => ?_, ?_⟩
                        · clear hd
                          have hgC := hC.1
                          replace hk3 := blk_grown hk3 hgC (by omega)
                          replace hra1 := Row.grown hra1 hgC (Row.ne_type hra1 hkb1 rfl)
                          replace hra2 := Row.grown hra2 hgC (Row.ne_type hra2 hkb1 rfl)
                          replace hb := hb.trans (grown_below hgC hb.size hBb1)
                          exact Runs.does (r_loadA (cs := [(.int .u8 (((opN s : Nat) : Int))), (.int .u64 (0 : Int)), (.int .u64 (0 : Int)), (.slice none 0 0)]) rfl Tryd.underlying25 rfl (by kernel_rfl) (cellsAt_blk hk3)) ⟨⟨id, Nat.le_refl _, id⟩, rfl, nofr rfl⟩
                        refine ⟨fun wu2 hC hd => ?_, ?_⟩
                        · obtain ⟨h1, _⟩ := hd
                          replace h1 : V 1 = (.agg #[(.int .u8 (((opN s : Nat) : Int))), (.int .u64 (0 : Int)), (.int .u64 (0 : Int)), (.slice none 0 0)]) := h1
                          have hgC := hC.1
                          replace hk3 := blk_grown hk3 hgC (by omega)
                          replace hra1 := Row.grown hra1 hgC (Row.ne_type hra1 hkb1 rfl)
                          replace hra2 := Row.grown hra2 hgC (Row.ne_type hra2 hkb1 rfl)
                          replace hb := hb.trans (grown_below hgC hb.size hBb1)
                          refine Does.mono (d_callB (vs := [(.agg #[(.int .u8 (((opN s : Nat) : Int))), (.int .u64 (0 : Int)), (.int .u64 (0 : Int)), (.slice none 0 0)])]) (show [some (V 1)] = [some (.agg #[(.int .u8 (((opN s : Nat) : Int))), (.int .u64 (0 : Int)), (.int .u64 (0 : Int)), (.slice none 0 0)])] from by rw [h1]) Tryd.func8 (by kernel_rfl) (by kernel_rfl) (rline_any (opN s) (0 : Int) (0 : Int) [] none 0 _ RdS.nil (fun y hy => by cases hy) hop (by first | decide | exact tailP_rng _ _ | omega) (by first | decide | exact tailP_rng _ _ | omega) (Nat.le_refl 0) (by decide))) (fun _ _ h => ⟨⟨fun hc => ⟨grown_trans hc.1 (below_grown h.2), hc.2.imp (fun z => blk_ext z h.2) (fun z => blk_ext z h.2)⟩, h.2.size, fun z => blk_ext z h.2⟩, h.1, nofr rfl⟩)
                        refine ⟨fun wu3 hC hd => ?_, ?_⟩
                        · clear hd
                          have hgC := hC.1
                          replace hk3 := blk_grown hk3 hgC (by omega)
                          replace hra1 := Row.grown hra1 hgC (Row.ne_type hra1 hkb1 rfl)
                          replace hra2 := Row.grown hra2 hgC (Row.ne_type hra2 hkb1 rfl)
                          replace hb := hb.trans (grown_below hgC hb.size hBb1)
                          exact Runs.does (r_move rfl) ⟨⟨id, Nat.le_refl _, id⟩, rfl, nofr rfl⟩
                        refine ⟨fun wu4 hC hd => ?_, ?_⟩
                        · obtain ⟨h2, h3, _⟩ := hd
                          replace h2 : V 2 = (.string (lineP (opN s) (0 : Int) (0 : Int) [])) := h2
                          replace h3 : V 3 = (.string s) := h3
                          have hgC := hC.1
                          replace hk3 := blk_grown hk3 hgC (by omega)
                          replace hra1 := Row.grown hra1 hgC (Row.ne_type hra1 hkb1 rfl)
                          replace hra2 := Row.grown hra2 hgC (Row.ne_type hra2 hkb1 rfl)
                          replace hb := hb.trans (grown_below hgC hb.size hBb1)
                          exact Runs.does (r_seq (congrArg some h2) (congrArg some h3)) ⟨⟨id, Nat.le_refl _, id⟩, rfl, nofr rfl⟩
                        refine ⟨fun wu5 hC hd => ?_, ?_⟩
                        · obtain ⟨h0, h2, _⟩ := hd
                          replace h0 : V 0 = (.agg #[(.int .u8 (((opN s : Nat) : Int))), (.int .u64 (0 : Int)), (.int .u64 (0 : Int)), (.slice none 0 0)]) := h0
                          replace h2 : V 2 = (.string (lineP (opN s) (0 : Int) (0 : Int) [])) := h2
                          have hgC := hC.1
                          replace hk3 := blk_grown hk3 hgC (by omega)
                          replace hra1 := Row.grown hra1 hgC (Row.ne_type hra1 hkb1 rfl)
                          replace hra2 := Row.grown hra2 hgC (Row.ne_type hra2 hkb1 rfl)
                          replace hb := hb.trans (grown_below hgC hb.size hBb1)
                          rcases hC.2 with hX | hX
                          · refine Does.mono (d_storeK (T := 25) (v := (.agg #[(.int .u8 (((opN s : Nat) : Int))), (.int .u64 (0 : Int)), (.int .u64 (0 : Int)), (.slice none 0 0)])) (cs := #[(.int .u8 (0 : Int)), (.int .u64 (0 : Int)), (.int .u64 (0 : Int)), (.slice none 0 0)]) (cs' := #[(.int .u8 (((opN s : Nat) : Int))), (.int .u64 (0 : Int)), (.int .u64 (0 : Int)), (.slice none 0 0)]) rfl (congrArg some h0) (by kernel_rfl) (by kernel_rfl) hX (by kernel_rfl) (by kernel_rfl)) ?_
                            rintro _ wz ⟨hY, hgY⟩
                            exact ⟨⟨fun _ => ⟨grownBy_trans hgC hgY, .inr hY⟩, hgY.size, fun _ => hY⟩, hY, nofr rfl⟩
                          · refine Does.mono (d_storeK (T := 25) (v := (.agg #[(.int .u8 (((opN s : Nat) : Int))), (.int .u64 (0 : Int)), (.int .u64 (0 : Int)), (.slice none 0 0)])) (cs := #[(.int .u8 (((opN s : Nat) : Int))), (.int .u64 (0 : Int)), (.int .u64 (0 : Int)), (.slice none 0 0)]) (cs' := #[(.int .u8 (((opN s : Nat) : Int))), (.int .u64 (0 : Int)), (.int .u64 (0 : Int)), (.slice none 0 0)]) rfl (congrArg some h0) (by kernel_rfl) (by kernel_rfl) hX (by kernel_rfl) (by kernel_rfl)) ?_
                            rintro _ wz ⟨hY, hgY⟩
                            exact ⟨⟨fun _ => ⟨grownBy_trans hgC hgY, .inr hY⟩, hgY.size, fun _ => hY⟩, hY, nofr rfl⟩
                        trivial
                      · skip
                        clear hf fa; intro V w28 fa he17 hp hnb hf
                        have hg18 := he17.1
                        have hv0 : V 0 = (.agg #[(.int .u8 (((opN s : Nat) : Int))), (.int .u64 (0 : Int)), (.int .u64 (0 : Int)), (.slice none 0 0)]) := postsHold_at hp 0 rfl
                        have hv1 : V 1 = (.agg #[(.int .u8 (((opN s : Nat) : Int))), (.int .u64 (0 : Int)), (.int .u64 (0 : Int)), (.slice none 0 0)]) := postsHold_at hp 1 rfl
                        have hv2 : V 2 = (.string (lineP (opN s) (0 : Int) (0 : Int) [])) := postsHold_at hp 2 rfl
                        have hv3 : V 3 = (.string s) := postsHold_at hp 3 rfl
                        have hv4 : V 4 = (.bool (decide ((lineP (opN s) (0 : Int) (0 : Int) []) = s))) := postsHold_at hp 4 rfl
                        have hk22 := postsHold_at hp 5 rfl
                        simp only [List.take_succ_cons, List.take_zero, insAll, ins, hv0, hv1, hv2, hv3, hv4] at hf
                        clear hp hnb hv0 hv1 hv2 hv3 hv4
                        replace hk3 := blk_grown hk3 hg18 (by omega)
                        replace hra1 := Row.grown hra1 hg18 (Row.ne_type hra1 hkb1 rfl)
                        replace hra2 := Row.grown hra2 hg18 (Row.ne_type hra2 hkb1 rfl)
                        replace hb := hb.trans (grown_below hg18 hb.size hBb1)
                        replace hk22 : w28.heap[b1]? = some (.cells #[(.int .u8 (((opN s : Nat) : Int))), (.int .u64 (0 : Int)), (.int .u64 (0 : Int)), (.slice none 0 0)] 25 (0, 0)) := hk22
                        simp only [List.drop_succ_cons, List.drop_zero]
                        refine sqv hf (r_assign rfl) rfl rfl rfl ?_; clear hf fa; intro fa hf
                        apply wpList_nil
                        (try simp only [Exit.then, Exit.inBlock, ↓reduceIte, Nat.reduceEqDiff])
                        refine hK39 _ _ ?_
                        refine wp_ret ?_
                        (try simp only [Exit.then, Exit.inBlock])
                        refine retCT hf rfl rfl hk22 Tryd.underlying25 rfl (by kernel_rfl) rfl ?_
                        obtain ⟨e1, e2, e3, e4⟩ := q_yes hh.1
                        have hA : rqA s = (0 : Int) := by unfold rqA qaW; rw [if_neg (by have h0 := hqt49_1; have h1 := hqt49_3; have h2 := hqt52_1; have h3 := hqt61_1; have h4 := hqt84_1; omega), if_neg (by have h0 := hqt49_1; have h1 := hqt49_3; have h2 := hqt52_1; have h3 := hqt61_1; have h4 := hqt84_1; omega), if_neg (by have h0 := hqt49_1; have h1 := hqt49_3; have h2 := hqt52_1; have h3 := hqt61_1; have h4 := hqt84_1; omega), if_pos (by have h0 := hqt49_1; have h1 := hqt49_3; have h2 := hqt52_1; have h3 := hqt61_1; have h4 := hqt84_1; omega)]; rw [if_neg (by have h := hqt88_1; omega)]
                        have hB : rqB s = (0 : Int) := by unfold rqB qbW; rw [if_neg (by have h0 := hqt49_1; have h1 := hqt49_3; have h2 := hqt52_1; have h3 := hqt61_1; have h4 := hqt84_1; have h9 := hqt88_1; omega)]
                        have hL : rqL s = [] := by unfold rqL qlW; rw [if_neg (by have h0 := hqt49_1; have h1 := hqt49_3; have h2 := hqt52_1; have h3 := hqt61_1; have h4 := hqt84_1; have h9 := hqt88_1; omega)]
                        have hK := rK_is hh.1 hA hB hL
                        rw [e1, e2, e3, e4, hA, hB, hL, hK]
                        exact ⟨_, rfl, _, _, rfl, Row.nil, hb⟩
                  · have hqt84_1b := hqt84_1
                    replace hqt84_1 := Bool.eq_false_iff.1 hqt84_1
                    try simp only [ne_eq, decide_eq_true_eq, Bool.and_eq_true, Bool.or_eq_true, Bool.not_eq_true', decide_eq_false_iff_not] at hqt84_1
                    refine wp_seq_k (fun K40 hK40 => ?_)
                    refine wp_region_lit ?_
                    refine sqv hf (r_eq rfl rfl) rfl rfl rfl ?_; clear hf fa; intro fa hf
                    refine sqv hf (r_assign rfl) rfl rfl rfl ?_; clear hf fa; intro fa hf
                    apply wpList_nil
                    (try simp only [Exit.then, Exit.inBlock, ↓reduceIte, Nat.reduceEqDiff])
                    refine hK40 _ _ ?_
                    refine wp_cond_split (t := (decide ((((infP (opN s)).2.1)) = (10 : Int)))) (hf.ev rfl) (fun hqt99_1 => ?_) (fun hqt99_1 => ?_)
                    · have hqt99_1b := hqt99_1
                      try simp only [decide_eq_true_eq, Bool.and_eq_true, Bool.or_eq_true, Bool.not_eq_true', decide_eq_false_iff_not, ne_eq, Bool.not_eq_true] at hqt99_1
                      refine wp_region_lit ?_
                      refine sqv hf (r_move rfl) rfl rfl rfl ?_; clear hf fa; intro fa hf
                      refine sqdt hf (d_callB (vs := [(.string (lastP s)), (.string ⟨#[]⟩)]) rfl Tryd.func33 (by kernel_rfl) (by kernel_rfl) (rtail_any (lastP s) (⟨#[]⟩ : ByteArray) _ (by have := wd_size s ((wordsS s).length - 1); unfold lastP; omega) (by decide))) rfl rfl rfl ?_; clear hf fa; rintro fa _ w29 ⟨rfl, he18⟩ hf
                      replace hkb1 := blk_ext hkb1 he18
                      replace hk3 := blk_ext hk3 he18
                      replace hra1 := Row.ext hra1 he18
                      replace hra2 := Row.ext hra2 he18
                      replace hb := hb.trans (Below.mono he18 hb.size)
                      refine sqv hf (r_conv (C := ((tailP (lastP s) (⟨#[]⟩ : ByteArray) % 4294967296))) rfl Tryd.underlying22 Tryd.underlying62 (by rw [IntKind.wrap_u32])) rfl rfl rfl ?_; clear hf fa; intro fa hf
                      refine sqv hf (r_conv (C := ((tailP (lastP s) (⟨#[]⟩ : ByteArray) % 4294967296))) rfl Tryd.underlying62 Tryd.underlying22 (by rw [IntKind.wrap_u64]; omega)) rfl rfl rfl ?_; clear hf fa; intro fa hf
                      refine sqv hf (r_fa rfl Tryd.underlying25 (f := 1) (q := 1) rfl (by kernel_rfl) rfl) rfl rfl rfl ?_; clear hf fa; intro fa hf
                      refine sqn hf (d_storeK (T := 25) (v := (.int .u64 ((tailP (lastP s) (⟨#[]⟩ : ByteArray) % 4294967296)))) (cs := #[(.int .u8 (((opN s : Nat) : Int))), (.int .u64 (0 : Int)), (.int .u64 (0 : Int)), (.slice none 0 0)]) (cs' := #[(.int .u8 (((opN s : Nat) : Int))), (.int .u64 ((tailP (lastP s) (⟨#[]⟩ : ByteArray) % 4294967296))), (.int .u64 (0 : Int)), (.slice none 0 0)]) rfl rfl (by kernel_rfl) (by kernel_rfl) hk3 (by kernel_rfl) (by kernel_rfl)) rfl rfl ?_; clear hf fa; rintro fa _ w30 ⟨hk23, hg19⟩ hf
                      replace hkb1 := blk_grown hkb1 hg19 (by omega)
                      replace hra1 := Row.grown hra1 hg19 (Row.ne_type hra1 hk3 rfl)
                      replace hra2 := Row.grown hra2 hg19 (Row.ne_type hra2 hk3 rfl)
                      replace hb := hb.trans (grown_below hg19 hb.size hBb2)
                      apply wpList_nil
                      (try simp only [Exit.then, Exit.inBlock, ↓reduceIte, Nat.reduceEqDiff])
                      refine hK13 _ _ ?_
                      refine wp_seq_k (fun K41 hK41 => ?_)
                      skip
                      refine wp_region_unT 6 (fun wc => (w30.grownBy wc (some b1) ∧ (wc.heap[b1]? = some (.cells #[(.int .u8 (0 : Int)), (.int .u64 (0 : Int)), (.int .u64 (0 : Int)), (.slice none 0 0)] 25 (0, 0)) ∨ wc.heap[b1]? = some (.cells #[(.int .u8 (((opN s : Nat) : Int))), (.int .u64 ((tailP (lastP s) (⟨#[]⟩ : ByteArray) % 4294967296))), (.int .u64 (0 : Int)), (.slice none 0 0)] 25 (0, 0))))) (fun wa wc => ((w30.grownBy wa (some b1) ∧ (wa.heap[b1]? = some (.cells #[(.int .u8 (0 : Int)), (.int .u64 (0 : Int)), (.int .u64 (0 : Int)), (.slice none 0 0)] 25 (0, 0)) ∨ wa.heap[b1]? = some (.cells #[(.int .u8 (((opN s : Nat) : Int))), (.int .u64 ((tailP (lastP s) (⟨#[]⟩ : ByteArray) % 4294967296))), (.int .u64 (0 : Int)), (.slice none 0 0)] 25 (0, 0)))) → (w30.grownBy wc (some b1) ∧ (wc.heap[b1]? = some (.cells #[(.int .u8 (0 : Int)), (.int .u64 (0 : Int)), (.int .u64 (0 : Int)), (.slice none 0 0)] 25 (0, 0)) ∨ wc.heap[b1]? = some (.cells #[(.int .u8 (((opN s : Nat) : Int))), (.int .u64 ((tailP (lastP s) (⟨#[]⟩ : ByteArray) % 4294967296))), (.int .u64 (0 : Int)), (.slice none 0 0)] 25 (0, 0))))) ∧ wa.heap.size ≤ wc.heap.size ∧ (wa.heap[b1]? = some (.cells #[(.int .u8 (((opN s : Nat) : Int))), (.int .u64 ((tailP (lastP s) (⟨#[]⟩ : ByteArray) % 4294967296))), (.int .u64 (0 : Int)), (.slice none 0 0)] 25 (0, 0)) → wc.heap[b1]? = some (.cells #[(.int .u8 (((opN s : Nat) : Int))), (.int .u64 ((tailP (lastP s) (⟨#[]⟩ : ByteArray) % 4294967296))), (.int .u64 (0 : Int)), (.slice none 0 0)] 25 (0, 0))))
                        (fun V => [(fun x _ => x = (.agg #[(.int .u8 (((opN s : Nat) : Int))), (.int .u64 ((tailP (lastP s) (⟨#[]⟩ : ByteArray) % 4294967296))), (.int .u64 (0 : Int)), (.slice none 0 0)])), (fun x _ => x = (.agg #[(.int .u8 (((opN s : Nat) : Int))), (.int .u64 ((tailP (lastP s) (⟨#[]⟩ : ByteArray) % 4294967296))), (.int .u64 (0 : Int)), (.slice none 0 0)])), (fun x _ => x = (.string (lineP (opN s) ((tailP (lastP s) (⟨#[]⟩ : ByteArray) % 4294967296)) (0 : Int) []))), (fun x _ => x = (.string s)), (fun x _ => x = (.bool (decide ((lineP (opN s) ((tailP (lastP s) (⟨#[]⟩ : ByteArray) % 4294967296)) (0 : Int) []) = s)))), (fun _ wq => wq.heap[b1]? = some (.cells #[(.int .u8 (((opN s : Nat) : Int))), (.int .u64 ((tailP (lastP s) (⟨#[]⟩ : ByteArray) % 4294967296))), (.int .u64 (0 : Int)), (.slice none 0 0)] 25 (0, 0)))])
                        []
                        [[], [], [1], [], [2, 3], [0, 2], []]
                        hf (by kernel_rfl) (by kernel_rfl) (by kernel_rfl) (fun _ => rfl) ⟨below_grown (Below.refl _ _).drew, .inl (blk_ext hkb1 (Below.refl _ _).drew)⟩ (fun a b h1 h2 => h2.1 h1) (fun _ _ h => h.2.1) (fun V => ⟨(fun _ _ _ h _ => h), (fun _ _ _ h _ => h), (fun _ _ _ h _ => h), (fun _ _ _ h _ => h), (fun _ _ _ h _ => h), (fun _ _ _ h hG => hG.2.2 h), trivial⟩) (fun _ _ _ _ _ => rfl) ?_ ?_
                      · skip
                        intro V
                        refine ⟨fun wu0 hC hd => ?_, ?_⟩
                        · clear hd
                          have hgC := hC.1
                          replace hk23 := blk_grown hk23 hgC (by omega)
                          replace hra1 := Row.grown hra1 hgC (Row.ne_type hra1 hkb1 rfl)
                          replace hra2 := Row.grown hra2 hgC (Row.ne_type hra2 hkb1 rfl)
                          replace hb := hb.trans (grown_below hgC hb.size hBb1)
                          exact Runs.does (r_loadA (cs := [(.int .u8 (((opN s : Nat) : Int))), (.int .u64 ((tailP (lastP s) (⟨#[]⟩ : ByteArray) % 4294967296))), (.int .u64 (0 : Int)), (.slice none 0 0)]) rfl Tryd.underlying25 rfl (by kernel_rfl) (cellsAt_blk hk23)) ⟨⟨id, Nat.le_refl _, id⟩, rfl, nofr rfl⟩
                        refine ⟨fun wu1 hC hd => ?_, ?_⟩
                        · clear hd
                          have hgC := hC.1
                          replace hk23 := blk_grown hk23 hgC (by omega)
                          replace hra1 := Row.grown hra1 hgC (Row.ne_type hra1 hkb1 rfl)
                          replace hra2 := Row.grown hra2 hgC (Row.ne_type hra2 hkb1 rfl)
                          replace hb := hb.trans (grown_below hgC hb.size hBb1)
                          exact Runs.does (r_loadA (cs := [(.int .u8 (((opN s : Nat) : Int))), (.int .u64 ((tailP (lastP s) (⟨#[]⟩ : ByteArray) % 4294967296))), (.int .u64 (0 : Int)), (.slice none 0 0)]) rfl Tryd.underlying25 rfl (by kernel_rfl) (cellsAt_blk hk23)) ⟨⟨id, Nat.le_refl _, id⟩, rfl, nofr rfl⟩
                        refine ⟨fun wu2 hC hd => ?_, ?_⟩
                        · obtain ⟨h1, _⟩ := hd
                          replace h1 : V 1 = (.agg #[(.int .u8 (((opN s : Nat) : Int))), (.int .u64 ((tailP (lastP s) (⟨#[]⟩ : ByteArray) % 4294967296))), (.int .u64 (0 : Int)), (.slice none 0 0)]) := h1
                          have hgC := hC.1
                          replace hk23 := blk_grown hk23 hgC (by omega)
                          replace hra1 := Row.grown hra1 hgC (Row.ne_type hra1 hkb1 rfl)
                          replace hra2 := Row.grown hra2 hgC (Row.ne_type hra2 hkb1 rfl)
                          replace hb := hb.trans (grown_below hgC hb.size hBb1)
                          refine Does.mono (d_callB (vs := [(.agg #[(.int .u8 (((opN s : Nat) : Int))), (.int .u64 ((tailP (lastP s) (⟨#[]⟩ : ByteArray) % 4294967296))), (.int .u64 (0 : Int)), (.slice none 0 0)])]) (show [some (V 1)] = [some (.agg #[(.int .u8 (((opN s : Nat) : Int))), (.int .u64 ((tailP (lastP s) (⟨#[]⟩ : ByteArray) % 4294967296))), (.int .u64 (0 : Int)), (.slice none 0 0)])] from by rw [h1]) Tryd.func8 (by kernel_rfl) (by kernel_rfl) (rline_any (opN s) ((tailP (lastP s) (⟨#[]⟩ : ByteArray) % 4294967296)) (0 : Int) [] none 0 _ RdS.nil (fun y hy => by cases hy) hop (by first | decide | exact tailP_rng _ _ | omega) (by first | decide | exact tailP_rng _ _ | omega) (Nat.le_refl 0) (by decide))) (fun _ _ h => ⟨⟨fun hc => ⟨grown_trans hc.1 (below_grown h.2), hc.2.imp (fun z => blk_ext z h.2) (fun z => blk_ext z h.2)⟩, h.2.size, fun z => blk_ext z h.2⟩, h.1, nofr rfl⟩)
                        refine ⟨fun wu3 hC hd => ?_, ?_⟩
                        · clear hd
                          have hgC := hC.1
                          replace hk23 := blk_grown hk23 hgC (by omega)
                          replace hra1 := Row.grown hra1 hgC (Row.ne_type hra1 hkb1 rfl)
                          replace hra2 := Row.grown hra2 hgC (Row.ne_type hra2 hkb1 rfl)
                          replace hb := hb.trans (grown_below hgC hb.size hBb1)
                          exact Runs.does (r_move rfl) ⟨⟨id, Nat.le_refl _, id⟩, rfl, nofr rfl⟩
                        refine ⟨fun wu4 hC hd => ?_, ?_⟩
                        · obtain ⟨h2, h3, _⟩ := hd
                          replace h2 : V 2 = (.string (lineP (opN s) ((tailP (lastP s) (⟨#[]⟩ : ByteArray) % 4294967296)) (0 : Int) [])) := h2
                          replace h3 : V 3 = (.string s) := h3
                          have hgC := hC.1
                          replace hk23 := blk_grown hk23 hgC (by omega)
                          replace hra1 := Row.grown hra1 hgC (Row.ne_type hra1 hkb1 rfl)
                          replace hra2 := Row.grown hra2 hgC (Row.ne_type hra2 hkb1 rfl)
                          replace hb := hb.trans (grown_below hgC hb.size hBb1)
                          exact Runs.does (r_seq (congrArg some h2) (congrArg some h3)) ⟨⟨id, Nat.le_refl _, id⟩, rfl, nofr rfl⟩
                        refine ⟨fun wu5 hC hd => ?_, ?_⟩
                        · obtain ⟨h0, h2, _⟩ := hd
                          replace h0 : V 0 = (.agg #[(.int .u8 (((opN s : Nat) : Int))), (.int .u64 ((tailP (lastP s) (⟨#[]⟩ : ByteArray) % 4294967296))), (.int .u64 (0 : Int)), (.slice none 0 0)]) := h0
                          replace h2 : V 2 = (.string (lineP (opN s) ((tailP (lastP s) (⟨#[]⟩ : ByteArray) % 4294967296)) (0 : Int) [])) := h2
                          have hgC := hC.1
                          replace hk23 := blk_grown hk23 hgC (by omega)
                          replace hra1 := Row.grown hra1 hgC (Row.ne_type hra1 hkb1 rfl)
                          replace hra2 := Row.grown hra2 hgC (Row.ne_type hra2 hkb1 rfl)
                          replace hb := hb.trans (grown_below hgC hb.size hBb1)
                          rcases hC.2 with hX | hX
                          · refine Does.mono (d_storeK (T := 25) (v := (.agg #[(.int .u8 (((opN s : Nat) : Int))), (.int .u64 ((tailP (lastP s) (⟨#[]⟩ : ByteArray) % 4294967296))), (.int .u64 (0 : Int)), (.slice none 0 0)])) (cs := #[(.int .u8 (0 : Int)), (.int .u64 (0 : Int)), (.int .u64 (0 : Int)), (.slice none 0 0)]) (cs' := #[(.int .u8 (((opN s : Nat) : Int))), (.int .u64 ((tailP (lastP s) (⟨#[]⟩ : ByteArray) % 4294967296))), (.int .u64 (0 : Int)), (.slice none 0 0)]) rfl (congrArg some h0) (by kernel_rfl) (by kernel_rfl) hX (by kernel_rfl) (by kernel_rfl)) ?_
                            rintro _ wz ⟨hY, hgY⟩
                            exact ⟨⟨fun _ => ⟨grownBy_trans hgC hgY, .inr hY⟩, hgY.size, fun _ => hY⟩, hY, nofr rfl⟩
                          · refine Does.mono (d_storeK (T := 25) (v := (.agg #[(.int .u8 (((opN s : Nat) : Int))), (.int .u64 ((tailP (lastP s) (⟨#[]⟩ : ByteArray) % 4294967296))), (.int .u64 (0 : Int)), (.slice none 0 0)])) (cs := #[(.int .u8 (((opN s : Nat) : Int))), (.int .u64 ((tailP (lastP s) (⟨#[]⟩ : ByteArray) % 4294967296))), (.int .u64 (0 : Int)), (.slice none 0 0)]) (cs' := #[(.int .u8 (((opN s : Nat) : Int))), (.int .u64 ((tailP (lastP s) (⟨#[]⟩ : ByteArray) % 4294967296))), (.int .u64 (0 : Int)), (.slice none 0 0)]) rfl (congrArg some h0) (by kernel_rfl) (by kernel_rfl) hX (by kernel_rfl) (by kernel_rfl)) ?_
                            rintro _ wz ⟨hY, hgY⟩
                            exact ⟨⟨fun _ => ⟨grownBy_trans hgC hgY, .inr hY⟩, hgY.size, fun _ => hY⟩, hY, nofr rfl⟩
                        trivial
                      · skip
                        clear hf fa; intro V w31 fa he19 hp hnb hf
                        have hg20 := he19.1
                        have hv0 : V 0 = (.agg #[(.int .u8 (((opN s : Nat) : Int))), (.int .u64 ((tailP (lastP s) (⟨#[]⟩ : ByteArray) % 4294967296))), (.int .u64 (0 : Int)), (.slice none 0 0)]) := postsHold_at hp 0 rfl
                        have hv1 : V 1 = (.agg #[(.int .u8 (((opN s : Nat) : Int))), (.int .u64 ((tailP (lastP s) (⟨#[]⟩ : ByteArray) % 4294967296))), (.int .u64 (0 : Int)), (.slice none 0 0)]) := postsHold_at hp 1 rfl
                        have hv2 : V 2 = (.string (lineP (opN s) ((tailP (lastP s) (⟨#[]⟩ : ByteArray) % 4294967296)) (0 : Int) [])) := postsHold_at hp 2 rfl
                        have hv3 : V 3 = (.string s) := postsHold_at hp 3 rfl
                        have hv4 : V 4 = (.bool (decide ((lineP (opN s) ((tailP (lastP s) (⟨#[]⟩ : ByteArray) % 4294967296)) (0 : Int) []) = s))) := postsHold_at hp 4 rfl
                        have hk24 := postsHold_at hp 5 rfl
                        simp only [List.take_succ_cons, List.take_zero, insAll, ins, hv0, hv1, hv2, hv3, hv4] at hf
                        clear hp hnb hv0 hv1 hv2 hv3 hv4
                        replace hk23 := blk_grown hk23 hg20 (by omega)
                        replace hra1 := Row.grown hra1 hg20 (Row.ne_type hra1 hkb1 rfl)
                        replace hra2 := Row.grown hra2 hg20 (Row.ne_type hra2 hkb1 rfl)
                        replace hb := hb.trans (grown_below hg20 hb.size hBb1)
                        replace hk24 : w31.heap[b1]? = some (.cells #[(.int .u8 (((opN s : Nat) : Int))), (.int .u64 ((tailP (lastP s) (⟨#[]⟩ : ByteArray) % 4294967296))), (.int .u64 (0 : Int)), (.slice none 0 0)] 25 (0, 0)) := hk24
                        simp only [List.drop_succ_cons, List.drop_zero]
                        refine sqv hf (r_assign rfl) rfl rfl rfl ?_; clear hf fa; intro fa hf
                        apply wpList_nil
                        (try simp only [Exit.then, Exit.inBlock, ↓reduceIte, Nat.reduceEqDiff])
                        refine hK41 _ _ ?_
                        refine wp_ret ?_
                        (try simp only [Exit.then, Exit.inBlock])
                        refine retCT hf rfl rfl hk24 Tryd.underlying25 rfl (by kernel_rfl) rfl ?_
                        obtain ⟨e1, e2, e3, e4⟩ := q_yes hh.1
                        have hA : rqA s = ((tailP (lastP s) (⟨#[]⟩ : ByteArray) % 4294967296)) := by unfold rqA qaW; rw [if_neg (by have h0 := hqt49_1; have h1 := hqt49_3; have h2 := hqt52_1; have h3 := hqt61_1; have h4 := hqt84_1; have h5 := hqt99_1; omega), if_neg (by have h0 := hqt49_1; have h1 := hqt49_3; have h2 := hqt52_1; have h3 := hqt61_1; have h4 := hqt84_1; have h5 := hqt99_1; omega), if_neg (by have h0 := hqt49_1; have h1 := hqt49_3; have h2 := hqt52_1; have h3 := hqt61_1; have h4 := hqt84_1; have h5 := hqt99_1; omega), if_neg (by have h0 := hqt49_1; have h1 := hqt49_3; have h2 := hqt52_1; have h3 := hqt61_1; have h4 := hqt84_1; have h5 := hqt99_1; omega), if_pos (by have h0 := hqt49_1; have h1 := hqt49_3; have h2 := hqt52_1; have h3 := hqt61_1; have h4 := hqt84_1; have h5 := hqt99_1; omega)]; rfl
                        have hB : rqB s = (0 : Int) := by unfold rqB qbW; rw [if_neg (by have h0 := hqt49_1; have h1 := hqt49_3; have h2 := hqt52_1; have h3 := hqt61_1; have h4 := hqt84_1; have h5 := hqt99_1; omega)]
                        have hL : rqL s = [] := by unfold rqL qlW; rw [if_neg (by have h0 := hqt49_1; have h1 := hqt49_3; have h2 := hqt52_1; have h3 := hqt61_1; have h4 := hqt84_1; have h5 := hqt99_1; omega)]
                        have hK := rK_is hh.1 hA hB hL
                        rw [e1, e2, e3, e4, hA, hB, hL, hK]
                        exact ⟨_, rfl, _, _, rfl, Row.nil, hb⟩
                    · have hqt99_1b := hqt99_1
                      replace hqt99_1 := Bool.eq_false_iff.1 hqt99_1
                      try simp only [ne_eq, decide_eq_true_eq, Bool.and_eq_true, Bool.or_eq_true, Bool.not_eq_true', decide_eq_false_iff_not] at hqt99_1
                      refine wp_region_lit ?_
                      refine sqv hf (r_move rfl) rfl rfl rfl ?_; clear hf fa; intro fa hf
                      refine sqdt hf (d_callB (vs := [(.string (lastP s)), (.string ⟨#[]⟩)]) rfl Tryd.func33 (by kernel_rfl) (by kernel_rfl) (rtail_any (lastP s) (⟨#[]⟩ : ByteArray) _ (by have := wd_size s ((wordsS s).length - 1); unfold lastP; omega) (by decide))) rfl rfl rfl ?_; clear hf fa; rintro fa _ w32 ⟨rfl, he20⟩ hf
                      replace hkb1 := blk_ext hkb1 he20
                      replace hk3 := blk_ext hk3 he20
                      replace hra1 := Row.ext hra1 he20
                      replace hra2 := Row.ext hra2 he20
                      replace hb := hb.trans (Below.mono he20 hb.size)
                      refine sqv hf (r_fa rfl Tryd.underlying25 (f := 1) (q := 1) rfl (by kernel_rfl) rfl) rfl rfl rfl ?_; clear hf fa; intro fa hf
                      refine sqn hf (d_storeK (T := 25) (v := (.int .u64 ((tailP (lastP s) (⟨#[]⟩ : ByteArray))))) (cs := #[(.int .u8 (((opN s : Nat) : Int))), (.int .u64 (0 : Int)), (.int .u64 (0 : Int)), (.slice none 0 0)]) (cs' := #[(.int .u8 (((opN s : Nat) : Int))), (.int .u64 ((tailP (lastP s) (⟨#[]⟩ : ByteArray)))), (.int .u64 (0 : Int)), (.slice none 0 0)]) rfl rfl (by kernel_rfl) (by kernel_rfl) hk3 (by kernel_rfl) (by kernel_rfl)) rfl rfl ?_; clear hf fa; rintro fa _ w33 ⟨hk25, hg21⟩ hf
                      replace hkb1 := blk_grown hkb1 hg21 (by omega)
                      replace hra1 := Row.grown hra1 hg21 (Row.ne_type hra1 hk3 rfl)
                      replace hra2 := Row.grown hra2 hg21 (Row.ne_type hra2 hk3 rfl)
                      replace hb := hb.trans (grown_below hg21 hb.size hBb2)
                      apply wpList_nil
                      (try simp only [Exit.then, Exit.inBlock, ↓reduceIte, Nat.reduceEqDiff])
                      refine hK13 _ _ ?_
                      refine wp_seq_k (fun K42 hK42 => ?_)
                      skip
                      refine wp_region_unT 6 (fun wc => (w33.grownBy wc (some b1) ∧ (wc.heap[b1]? = some (.cells #[(.int .u8 (0 : Int)), (.int .u64 (0 : Int)), (.int .u64 (0 : Int)), (.slice none 0 0)] 25 (0, 0)) ∨ wc.heap[b1]? = some (.cells #[(.int .u8 (((opN s : Nat) : Int))), (.int .u64 ((tailP (lastP s) (⟨#[]⟩ : ByteArray)))), (.int .u64 (0 : Int)), (.slice none 0 0)] 25 (0, 0))))) (fun wa wc => ((w33.grownBy wa (some b1) ∧ (wa.heap[b1]? = some (.cells #[(.int .u8 (0 : Int)), (.int .u64 (0 : Int)), (.int .u64 (0 : Int)), (.slice none 0 0)] 25 (0, 0)) ∨ wa.heap[b1]? = some (.cells #[(.int .u8 (((opN s : Nat) : Int))), (.int .u64 ((tailP (lastP s) (⟨#[]⟩ : ByteArray)))), (.int .u64 (0 : Int)), (.slice none 0 0)] 25 (0, 0)))) → (w33.grownBy wc (some b1) ∧ (wc.heap[b1]? = some (.cells #[(.int .u8 (0 : Int)), (.int .u64 (0 : Int)), (.int .u64 (0 : Int)), (.slice none 0 0)] 25 (0, 0)) ∨ wc.heap[b1]? = some (.cells #[(.int .u8 (((opN s : Nat) : Int))), (.int .u64 ((tailP (lastP s) (⟨#[]⟩ : ByteArray)))), (.int .u64 (0 : Int)), (.slice none 0 0)] 25 (0, 0))))) ∧ wa.heap.size ≤ wc.heap.size ∧ (wa.heap[b1]? = some (.cells #[(.int .u8 (((opN s : Nat) : Int))), (.int .u64 ((tailP (lastP s) (⟨#[]⟩ : ByteArray)))), (.int .u64 (0 : Int)), (.slice none 0 0)] 25 (0, 0)) → wc.heap[b1]? = some (.cells #[(.int .u8 (((opN s : Nat) : Int))), (.int .u64 ((tailP (lastP s) (⟨#[]⟩ : ByteArray)))), (.int .u64 (0 : Int)), (.slice none 0 0)] 25 (0, 0))))
                        (fun V => [(fun x _ => x = (.agg #[(.int .u8 (((opN s : Nat) : Int))), (.int .u64 ((tailP (lastP s) (⟨#[]⟩ : ByteArray)))), (.int .u64 (0 : Int)), (.slice none 0 0)])), (fun x _ => x = (.agg #[(.int .u8 (((opN s : Nat) : Int))), (.int .u64 ((tailP (lastP s) (⟨#[]⟩ : ByteArray)))), (.int .u64 (0 : Int)), (.slice none 0 0)])), (fun x _ => x = (.string (lineP (opN s) ((tailP (lastP s) (⟨#[]⟩ : ByteArray))) (0 : Int) []))), (fun x _ => x = (.string s)), (fun x _ => x = (.bool (decide ((lineP (opN s) ((tailP (lastP s) (⟨#[]⟩ : ByteArray))) (0 : Int) []) = s)))), (fun _ wq => wq.heap[b1]? = some (.cells #[(.int .u8 (((opN s : Nat) : Int))), (.int .u64 ((tailP (lastP s) (⟨#[]⟩ : ByteArray)))), (.int .u64 (0 : Int)), (.slice none 0 0)] 25 (0, 0)))])
                        []
                        [[], [], [1], [], [2, 3], [0, 2], []]
                        hf (by kernel_rfl) (by kernel_rfl) (by kernel_rfl) (fun _ => rfl) ⟨below_grown (Below.refl _ _).drew, .inl (blk_ext hkb1 (Below.refl _ _).drew)⟩ (fun a b h1 h2 => h2.1 h1) (fun _ _ h => h.2.1) (fun V => ⟨(fun _ _ _ h _ => h), (fun _ _ _ h _ => h), (fun _ _ _ h _ => h), (fun _ _ _ h _ => h), (fun _ _ _ h _ => h), (fun _ _ _ h hG => hG.2.2 h), trivial⟩) (fun _ _ _ _ _ => rfl) ?_ ?_
                      · skip
                        intro V
                        refine ⟨fun wu0 hC hd => ?_, ?_⟩
                        · clear hd
                          have hgC := hC.1
                          replace hk25 := blk_grown hk25 hgC (by omega)
                          replace hra1 := Row.grown hra1 hgC (Row.ne_type hra1 hkb1 rfl)
                          replace hra2 := Row.grown hra2 hgC (Row.ne_type hra2 hkb1 rfl)
                          replace hb := hb.trans (grown_below hgC hb.size hBb1)
                          exact Runs.does (r_loadA (cs := [(.int .u8 (((opN s : Nat) : Int))), (.int .u64 ((tailP (lastP s) (⟨#[]⟩ : ByteArray)))), (.int .u64 (0 : Int)), (.slice none 0 0)]) rfl Tryd.underlying25 rfl (by kernel_rfl) (cellsAt_blk hk25)) ⟨⟨id, Nat.le_refl _, id⟩, rfl, nofr rfl⟩
                        refine ⟨fun wu1 hC hd => ?_, ?_⟩
                        · clear hd
                          have hgC := hC.1
                          replace hk25 := blk_grown hk25 hgC (by omega)
                          replace hra1 := Row.grown hra1 hgC (Row.ne_type hra1 hkb1 rfl)
                          replace hra2 := Row.grown hra2 hgC (Row.ne_type hra2 hkb1 rfl)
                          replace hb := hb.trans (grown_below hgC hb.size hBb1)
                          exact Runs.does (r_loadA (cs := [(.int .u8 (((opN s : Nat) : Int))), (.int .u64 ((tailP (lastP s) (⟨#[]⟩ : ByteArray)))), (.int .u64 (0 : Int)), (.slice none 0 0)]) rfl Tryd.underlying25 rfl (by kernel_rfl) (cellsAt_blk hk25)) ⟨⟨id, Nat.le_refl _, id⟩, rfl, nofr rfl⟩
                        refine ⟨fun wu2 hC hd => ?_, ?_⟩
                        · obtain ⟨h1, _⟩ := hd
                          replace h1 : V 1 = (.agg #[(.int .u8 (((opN s : Nat) : Int))), (.int .u64 ((tailP (lastP s) (⟨#[]⟩ : ByteArray)))), (.int .u64 (0 : Int)), (.slice none 0 0)]) := h1
                          have hgC := hC.1
                          replace hk25 := blk_grown hk25 hgC (by omega)
                          replace hra1 := Row.grown hra1 hgC (Row.ne_type hra1 hkb1 rfl)
                          replace hra2 := Row.grown hra2 hgC (Row.ne_type hra2 hkb1 rfl)
                          replace hb := hb.trans (grown_below hgC hb.size hBb1)
                          refine Does.mono (d_callB (vs := [(.agg #[(.int .u8 (((opN s : Nat) : Int))), (.int .u64 ((tailP (lastP s) (⟨#[]⟩ : ByteArray)))), (.int .u64 (0 : Int)), (.slice none 0 0)])]) (show [some (V 1)] = [some (.agg #[(.int .u8 (((opN s : Nat) : Int))), (.int .u64 ((tailP (lastP s) (⟨#[]⟩ : ByteArray)))), (.int .u64 (0 : Int)), (.slice none 0 0)])] from by rw [h1]) Tryd.func8 (by kernel_rfl) (by kernel_rfl) (rline_any (opN s) ((tailP (lastP s) (⟨#[]⟩ : ByteArray))) (0 : Int) [] none 0 _ RdS.nil (fun y hy => by cases hy) hop (by first | decide | exact tailP_rng _ _ | omega) (by first | decide | exact tailP_rng _ _ | omega) (Nat.le_refl 0) (by decide))) (fun _ _ h => ⟨⟨fun hc => ⟨grown_trans hc.1 (below_grown h.2), hc.2.imp (fun z => blk_ext z h.2) (fun z => blk_ext z h.2)⟩, h.2.size, fun z => blk_ext z h.2⟩, h.1, nofr rfl⟩)
                        refine ⟨fun wu3 hC hd => ?_, ?_⟩
                        · clear hd
                          have hgC := hC.1
                          replace hk25 := blk_grown hk25 hgC (by omega)
                          replace hra1 := Row.grown hra1 hgC (Row.ne_type hra1 hkb1 rfl)
                          replace hra2 := Row.grown hra2 hgC (Row.ne_type hra2 hkb1 rfl)
                          replace hb := hb.trans (grown_below hgC hb.size hBb1)
                          exact Runs.does (r_move rfl) ⟨⟨id, Nat.le_refl _, id⟩, rfl, nofr rfl⟩
                        refine ⟨fun wu4 hC hd => ?_, ?_⟩
                        · obtain ⟨h2, h3, _⟩ := hd
                          replace h2 : V 2 = (.string (lineP (opN s) ((tailP (lastP s) (⟨#[]⟩ : ByteArray))) (0 : Int) [])) := h2
                          replace h3 : V 3 = (.string s) := h3
                          have hgC := hC.1
                          replace hk25 := blk_grown hk25 hgC (by omega)
                          replace hra1 := Row.grown hra1 hgC (Row.ne_type hra1 hkb1 rfl)
                          replace hra2 := Row.grown hra2 hgC (Row.ne_type hra2 hkb1 rfl)
                          replace hb := hb.trans (grown_below hgC hb.size hBb1)
                          exact Runs.does (r_seq (congrArg some h2) (congrArg some h3)) ⟨⟨id, Nat.le_refl _, id⟩, rfl, nofr rfl⟩
                        refine ⟨fun wu5 hC hd => ?_, ?_⟩
                        · obtain ⟨h0, h2, _⟩ := hd
                          replace h0 : V 0 = (.agg #[(.int .u8 (((opN s : Nat) : Int))), (.int .u64 ((tailP (lastP s) (⟨#[]⟩ : ByteArray)))), (.int .u64 (0 : Int)), (.slice none 0 0)]) := h0
                          replace h2 : V 2 = (.string (lineP (opN s) ((tailP (lastP s) (⟨#[]⟩ : ByteArray))) (0 : Int) [])) := h2
                          have hgC := hC.1
                          replace hk25 := blk_grown hk25 hgC (by omega)
                          replace hra1 := Row.grown hra1 hgC (Row.ne_type hra1 hkb1 rfl)
                          replace hra2 := Row.grown hra2 hgC (Row.ne_type hra2 hkb1 rfl)
                          replace hb := hb.trans (grown_below hgC hb.size hBb1)
                          rcases hC.2 with hX | hX
                          · refine Does.mono (d_storeK (T := 25) (v := (.agg #[(.int .u8 (((opN s : Nat) : Int))), (.int .u64 ((tailP (lastP s) (⟨#[]⟩ : ByteArray)))), (.int .u64 (0 : Int)), (.slice none 0 0)])) (cs := #[(.int .u8 (0 : Int)), (.int .u64 (0 : Int)), (.int .u64 (0 : Int)), (.slice none 0 0)]) (cs' := #[(.int .u8 (((opN s : Nat) : Int))), (.int .u64 ((tailP (lastP s) (⟨#[]⟩ : ByteArray)))), (.int .u64 (0 : Int)), (.slice none 0 0)]) rfl (congrArg some h0) (by kernel_rfl) (by kernel_rfl) hX (by kernel_rfl) (by kernel_rfl)) ?_
                            rintro _ wz ⟨hY, hgY⟩
                            exact ⟨⟨fun _ => ⟨grownBy_trans hgC hgY, .inr hY⟩, hgY.size, fun _ => hY⟩, hY, nofr rfl⟩
                          · refine Does.mono (d_storeK (T := 25) (v := (.agg #[(.int .u8 (((opN s : Nat) : Int))), (.int .u64 ((tailP (lastP s) (⟨#[]⟩ : ByteArray)))), (.int .u64 (0 : Int)), (.slice none 0 0)])) (cs := #[(.int .u8 (((opN s : Nat) : Int))), (.int .u64 ((tailP (lastP s) (⟨#[]⟩ : ByteArray)))), (.int .u64 (0 : Int)), (.slice none 0 0)]) (cs' := #[(.int .u8 (((opN s : Nat) : Int))), (.int .u64 ((tailP (lastP s) (⟨#[]⟩ : ByteArray)))), (.int .u64 (0 : Int)), (.slice none 0 0)]) rfl (congrArg some h0) (by kernel_rfl) (by kernel_rfl) hX (by kernel_rfl) (by kernel_rfl)) ?_
                            rintro _ wz ⟨hY, hgY⟩
                            exact ⟨⟨fun _ => ⟨grownBy_trans hgC hgY, .inr hY⟩, hgY.size, fun _ => hY⟩, hY, nofr rfl⟩
                        trivial
                      · skip
                        clear hf fa; intro V w34 fa he21 hp hnb hf
                        have hg22 := he21.1
                        have hv0 : V 0 = (.agg #[(.int .u8 (((opN s : Nat) : Int))), (.int .u64 ((tailP (lastP s) (⟨#[]⟩ : ByteArray)))), (.int .u64 (0 : Int)), (.slice none 0 0)]) := postsHold_at hp 0 rfl
                        have hv1 : V 1 = (.agg #[(.int .u8 (((opN s : Nat) : Int))), (.int .u64 ((tailP (lastP s) (⟨#[]⟩ : ByteArray)))), (.int .u64 (0 : Int)), (.slice none 0 0)]) := postsHold_at hp 1 rfl
                        have hv2 : V 2 = (.string (lineP (opN s) ((tailP (lastP s) (⟨#[]⟩ : ByteArray))) (0 : Int) [])) := postsHold_at hp 2 rfl
                        have hv3 : V 3 = (.string s) := postsHold_at hp 3 rfl
                        have hv4 : V 4 = (.bool (decide ((lineP (opN s) ((tailP (lastP s) (⟨#[]⟩ : ByteArray))) (0 : Int) []) = s))) := postsHold_at hp 4 rfl
                        have hk26 := postsHold_at hp 5 rfl
                        simp only [List.take_succ_cons, List.take_zero, insAll, ins, hv0, hv1, hv2, hv3, hv4] at hf
                        clear hp hnb hv0 hv1 hv2 hv3 hv4
                        replace hk25 := blk_grown hk25 hg22 (by omega)
                        replace hra1 := Row.grown hra1 hg22 (Row.ne_type hra1 hkb1 rfl)
                        replace hra2 := Row.grown hra2 hg22 (Row.ne_type hra2 hkb1 rfl)
                        replace hb := hb.trans (grown_below hg22 hb.size hBb1)
                        replace hk26 : w34.heap[b1]? = some (.cells #[(.int .u8 (((opN s : Nat) : Int))), (.int .u64 ((tailP (lastP s) (⟨#[]⟩ : ByteArray)))), (.int .u64 (0 : Int)), (.slice none 0 0)] 25 (0, 0)) := hk26
                        simp only [List.drop_succ_cons, List.drop_zero]
                        refine sqv hf (r_assign rfl) rfl rfl rfl ?_; clear hf fa; intro fa hf
                        apply wpList_nil
                        (try simp only [Exit.then, Exit.inBlock, ↓reduceIte, Nat.reduceEqDiff])
                        refine hK42 _ _ ?_
                        refine wp_ret ?_
                        (try simp only [Exit.then, Exit.inBlock])
                        refine retCT hf rfl rfl hk26 Tryd.underlying25 rfl (by kernel_rfl) rfl ?_
                        obtain ⟨e1, e2, e3, e4⟩ := q_yes hh.1
                        have hA : rqA s = ((tailP (lastP s) (⟨#[]⟩ : ByteArray))) := by unfold rqA qaW; rw [if_neg (by have h0 := hqt49_1; have h1 := hqt49_3; have h2 := hqt52_1; have h3 := hqt61_1; have h4 := hqt84_1; have h5 := hqt99_1; omega), if_neg (by have h0 := hqt49_1; have h1 := hqt49_3; have h2 := hqt52_1; have h3 := hqt61_1; have h4 := hqt84_1; have h5 := hqt99_1; omega), if_neg (by have h0 := hqt49_1; have h1 := hqt49_3; have h2 := hqt52_1; have h3 := hqt61_1; have h4 := hqt84_1; have h5 := hqt99_1; omega), if_neg (by have h0 := hqt49_1; have h1 := hqt49_3; have h2 := hqt52_1; have h3 := hqt61_1; have h4 := hqt84_1; have h5 := hqt99_1; omega), if_neg (by have h0 := hqt49_1; have h1 := hqt49_3; have h2 := hqt52_1; have h3 := hqt61_1; have h4 := hqt84_1; have h5 := hqt99_1; omega)]; rfl
                        have hB : rqB s = (0 : Int) := by unfold rqB qbW; rw [if_neg (by have h0 := hqt49_1; have h1 := hqt49_3; have h2 := hqt52_1; have h3 := hqt61_1; have h4 := hqt84_1; have h5 := hqt99_1; omega)]
                        have hL : rqL s = [] := by unfold rqL qlW; rw [if_neg (by have h0 := hqt49_1; have h1 := hqt49_3; have h2 := hqt52_1; have h3 := hqt61_1; have h4 := hqt84_1; have h5 := hqt99_1; omega)]
                        have hK := rK_is hh.1 hA hB hL
                        rw [e1, e2, e3, e4, hA, hB, hL, hK]
                        exact ⟨_, rfl, _, _, rfl, Row.nil, hb⟩
    · have hqt16_1b := hqt16_1
      replace hqt16_1 := Bool.eq_false_iff.1 hqt16_1
      try simp only [ne_eq, decide_eq_true_eq, Bool.and_eq_true, Bool.or_eq_true, Bool.not_eq_true', decide_eq_false_iff_not] at hqt16_1
      refine wp_exit ?_
      (try simp only [Exit.then, Exit.inBlock, ↓reduceIte, Nat.reduceEqDiff])
      refine hK4 _ _ ?_
      refine wp_seq_k (fun K43 hK43 => ?_)
      refine wp_region_lit ?_
      refine sqv hf (r_build (vs := []) (cs := #[(.int .u8 (0 : Int)), (.int .u64 (0 : Int)), (.int .u64 (0 : Int)), (.slice none 0 0)]) rfl (fun _ => by kernel_rfl)) rfl rfl rfl ?_; clear hf fa; intro fa hf
      refine sqn hf (d_storeK (T := 25) (v := (.agg #[(.int .u8 (0 : Int)), (.int .u64 (0 : Int)), (.int .u64 (0 : Int)), (.slice none 0 0)])) (cs := #[(.int .u8 (0 : Int)), (.int .u64 (0 : Int)), (.int .u64 (0 : Int)), (.slice none 0 0)]) (cs' := #[(.int .u8 (0 : Int)), (.int .u64 (0 : Int)), (.int .u64 (0 : Int)), (.slice none 0 0)]) rfl rfl (by kernel_rfl) (by kernel_rfl) hkb1 (by kernel_rfl) (by kernel_rfl)) rfl rfl ?_; clear hf fa; rintro fa _ w35 ⟨hk27, hg23⟩ hf
      replace hra1 := Row.grown hra1 hg23 (Row.ne_type hra1 hkb1 rfl)
      replace hra2 := Row.grown hra2 hg23 (Row.ne_type hra2 hkb1 rfl)
      replace hb := hb.trans (grown_below hg23 hb.size hBb1)
      refine sqv hf (r_assign rfl) rfl rfl rfl ?_; clear hf fa; intro fa hf
      apply wpList_nil
      (try simp only [Exit.then, Exit.inBlock, ↓reduceIte, Nat.reduceEqDiff])
      refine hK43 _ _ ?_
      refine wp_ret ?_
      (try simp only [Exit.then, Exit.inBlock])
      refine retCT hf rfl rfl hk27 Tryd.underlying25 rfl (by kernel_rfl) rfl ?_
      obtain ⟨e1, e2, e3, e4, e5⟩ := q_no (row_miss (fun j hj r2 hr2 => hno j (by omega) r2 hr2))
      rw [e1, e2, e3, e4, e5]
      exact ⟨_, rfl, none, 0, rfl, Row.nil, hb⟩
end Go.Proofs.YtpalmpfkliepfaaDoor
