/- What is proved here: the law ExportsFinds is true. -/
import Derived.Test.YtcmdajkkdognfaaExC
namespace Go.Proofs.Ytcmdajkkdognfaa
open Go.RowKit
set_option linter.unusedVariables false
set_option linter.unusedSimpArgs false
def idxR (nm : ByteArray) : List MExp → Nat → Int
  | [], _ => -1
  | y :: l, k => if y.1 = nm then (k : Int) else idxR nm l (k + 1)
theorem idx_gen (nm : ByteArray) : ∀ (l : List MExp) (k : Nat), (∃ j y, idxR nm l k = ((k + j : Nat) : Int) ∧ l[j]? = some y ∧ fndP nm l = (y, true)) ∨ (idxR nm l k = -1 ∧ fndP nm l = (zMExp, false))
  | [], k => .inr ⟨rfl, rfl⟩
  | y :: l, k => by
    rw [idxR, fndP]
    by_cases h : y.1 = nm
    · rw [if_pos h, if_pos h]; exact .inl ⟨0, y, rfl, rfl, rfl⟩
    · rw [if_neg h, if_neg h]
      rcases idx_gen nm l (k + 1) with ⟨j, z, h1, h2, h3⟩ | h
      · exact .inl ⟨j + 1, z, by rw [h1]; omega, h2, h3⟩
      · exact .inr h
theorem idx_lt (nm : ByteArray) (L : List MExp) : idxR nm L 0 < (L.length : Int) := by
  rcases idx_gen nm L 0 with ⟨j, y, h1, h2, _⟩ | ⟨h1, _⟩
  · have := (List.getElem?_eq_some_iff.1 h2).1; omega
  · omega
theorem fnd_yes {nm : ByteArray} {L : List MExp} {o : Int} (ho : o = idxR nm L 0) (h : 0 ≤ o) : fndP nm L = (L.getD o.toNat zMExp, true) := by
  rcases idx_gen nm L 0 with ⟨j, y, h1, h2, h3⟩ | ⟨h1, _⟩
  · rw [h3, ho, h1, show (((0 + j : Nat) : Int)).toNat = j by omega]; simp [h2]
  · omega
theorem fnd_no {nm : ByteArray} {L : List MExp} {o : Int} (ho : o = idxR nm L 0) (h : ¬ 0 ≤ o) : fndP nm L = (zMExp, false) := by
  rcases idx_gen nm L 0 with ⟨j, y, h1, h2, h3⟩ | ⟨_, h2⟩
  · omega
  · exact h2
theorem tw_gen : ∀ (l : List MExp) (S : List ByteArray) (k : Nat), twI S l k < ((k + l.length : Nat) : Int)
  | [], S, k => by rw [twI]; omega
  | y :: l, S, k => by
    rw [twI]
    have := tw_gen l (S ++ [y.1]) (k + 1)
    rw [List.length_cons]
    split <;> omega
theorem tw_lt (L : List MExp) : twI [] L 0 < (L.length : Int) := by have := tw_gen L [] 0; omega
theorem tw_yes {L : List MExp} (h : 0 ≤ twI [] L 0) : twN L = (L.getD (twI [] L 0).toNat zMExp).1 := if_pos h
theorem tw_no {L : List MExp} (h : ¬ 0 ≤ twI [] L 0) : twN L = ⟨#[]⟩ := if_neg h

set_option maxHeartbeats 1000000 in
set_option maxRecDepth 100000 in
theorem exportsFinds_any (a : Option Addr) (L : List MExp) (c : Nat) (kd : Int) (nm : ByteArray) (w : World) (hl : RdS 3 vMExp w a L) (hlc : L.length ≤ c) (hcm : c ≤ 9223372036854775807) (hLs : ∀ y ∈ L, y.1.size ≤ maxLen) : Calls Try.prog 3 #[(.slice a L.length c), (.int .u8 kd), (.string nm)] w fun e w' => e = .returned (.bool true) ∧ Below w.heap.size w w' := by
  refine sx_enter (L := [(0, (.slice a L.length c)), (1, (.int .u8 kd)), (2, (.string nm))]) Try.func3 rfl rfl rfl rfl (fun fa hf => ?_)
  have hb : Below w.heap.size w w := Below.refl _ _
  refine wp_seq_k (fun K1 hK1 => ?_)
  refine wp_region_lit ?_
  refine sqv hf (r_assign rfl) rfl rfl rfl ?_; clear hf fa; intro fa hf
  apply wpList_nil
  (try simp only [Exit.then, Exit.inBlock, ↓reduceIte, Nat.reduceEqDiff])
  refine hK1 _ _ ?_
  refine wp_seq_k (fun K2 hK2 => ?_)
  refine wp_seq_k (fun K3 hK3 => ?_)
  refine wp_region_lit ?_
  refine sqdt hf (d_callB (vs := []) rfl Try.func16 (by kernel_rfl) (by kernel_rfl) (awake11_any _)) rfl rfl rfl ?_; clear hf fa; rintro fa _ w1 ⟨rfl, he1⟩ hf
  replace hb := hb.trans (Below.mono he1 hb.size)
  refine sqv hf (Runs.veq (v' := (.bool false)) (r_not rfl) rfl) rfl rfl rfl ?_; clear hf fa; intro fa hf
  apply wpList_nil
  (try simp only [Exit.then, Exit.inBlock, ↓reduceIte, Nat.reduceEqDiff])
  refine hK3 _ _ ?_
  refine wp_cond_false (hf.ev rfl) ?_
  refine wp_skip ?_
  (try simp only [Exit.then, Exit.inBlock, ↓reduceIte, Nat.reduceEqDiff])
  refine hK2 _ _ ?_
  refine wp_seq_k (fun K4 hK4 => ?_)
  refine wp_seq_k (fun K5 hK5 => ?_)
  refine wp_region_lit ?_
  refine sqv hf (r_move rfl) rfl rfl rfl ?_; clear hf fa; intro fa hf
  refine sqv hf (r_lensl rfl Try.underlying22) rfl rfl rfl ?_; clear hf fa; intro fa hf
  refine sqv hf (r_gt rfl rfl) rfl rfl rfl ?_; clear hf fa; intro fa hf
  apply wpList_nil
  (try simp only [Exit.then, Exit.inBlock, ↓reduceIte, Nat.reduceEqDiff])
  refine hK5 _ _ ?_
  refine wp_cond_split (t := (decide ((40 : Int) < ((L.length : Nat) : Int)))) (hf.ev rfl) (fun hqt18_1 => ?_) (fun hqt18_1 => ?_)
  · have hqt18_1b := hqt18_1
    try simp only [decide_eq_true_eq, Bool.and_eq_true, Bool.or_eq_true, Bool.not_eq_true', decide_eq_false_iff_not, ne_eq, Bool.not_eq_true] at hqt18_1
    refine wp_seq_k (fun K6 hK6 => ?_)
    refine wp_region_lit ?_
    refine sqv hf (r_assign rfl) rfl rfl rfl ?_; clear hf fa; intro fa hf
    apply wpList_nil
    (try simp only [Exit.then, Exit.inBlock, ↓reduceIte, Nat.reduceEqDiff])
    refine hK6 _ _ ?_
    refine wp_ret ?_
    (try simp only [Exit.then, Exit.inBlock])
    refine ret1 hf rfl rfl ?_
    exact ⟨rfl, hb⟩
  · have hqt18_1b := hqt18_1
    replace hqt18_1 := Bool.eq_false_iff.1 hqt18_1
    try simp only [ne_eq, decide_eq_true_eq, Bool.and_eq_true, Bool.or_eq_true, Bool.not_eq_true', decide_eq_false_iff_not] at hqt18_1
    refine wp_skip ?_
    (try simp only [Exit.then, Exit.inBlock, ↓reduceIte, Nat.reduceEqDiff])
    refine hK4 _ _ ?_
    refine wp_seq_k (fun K7 hK7 => ?_)
    have hl40 : L.length ≤ 40 := by have h := hqt18_1; omega
    have hl9 : L.length ≤ 4096 := by omega
    have hol := nms_len2 L kd
    refine wp_region_lit ?_
    refine sqv hf (r_assign rfl) rfl rfl rfl ?_; clear hf fa; intro fa hf
    apply wpList_nil
    (try simp only [Exit.then, Exit.inBlock, ↓reduceIte, Nat.reduceEqDiff])
    refine hK7 _ _ ?_
    refine wp_seq_k (fun K8 hK8 => ?_)
    refine wp_seq_k (fun K9 hK9 => ?_)
    refine wp_region_lit ?_
    refine sqv hf (r_move rfl) rfl rfl rfl ?_; clear hf fa; intro fa hf
    refine sqv hf (r_lensl rfl Try.underlying22) rfl rfl rfl ?_; clear hf fa; intro fa hf
    refine sqv hf (r_sub (C := (((L.length : Nat) : Int) - (1 : Int))) rfl rfl (by rw [IntKind.wrap_i64]; omega)) rfl rfl rfl ?_; clear hf fa; intro fa hf
    refine sqv hf (r_assign rfl) rfl rfl rfl ?_; clear hf fa; intro fa hf
    apply wpList_nil
    (try simp only [Exit.then, Exit.inBlock, ↓reduceIte, Nat.reduceEqDiff])
    refine hK9 _ _ ?_
    refine wp_block ?_
    refine wp_loop_k (fun mq fa wr => ∃ (k : Nat) (o : Int), mq = k ∧ Fr 104 fa [(0, (.slice a L.length c)), (1, (.int .u8 kd)), (2, (.string nm)), (7, (.int .i64 o)), (8, (.int .i64 (((k : Nat) : Int) - (1 : Int))))] ∧ Below w.heap.size w wr ∧ (k ≤ L.length) ∧ (o = idxR nm (L.drop k) k)) ?_ ?_
    · skip
      exact ⟨_, L.length, (-1 : Int), rfl, hf.sub ⟨rfl, rfl, rfl, rfl, rfl, trivial⟩, hb, by omega, (by rw [List.drop_eq_nil_of_le (by omega)]; rfl)⟩
    · skip
      clear hf fa; intro mq1 fa w2 hI KL1 hKL1
      clear hb
      obtain ⟨k, o, hmq1, hf, hb, hk, Ho⟩ := hI
      refine wp_seq_k (fun K10 hK10 => ?_)
      refine wp_seq_k (fun K11 hK11 => ?_)
      refine wp_region_lit ?_
      refine sqv hf (r_move rfl) rfl rfl rfl ?_; clear hf fa; intro fa hf
      refine sqv hf (r_ge rfl rfl) rfl rfl rfl ?_; clear hf fa; intro fa hf
      apply wpList_nil
      (try simp only [Exit.then, Exit.inBlock, ↓reduceIte, Nat.reduceEqDiff])
      refine hK11 _ _ ?_
      refine wp_cond_split (t := (decide ((0 : Int) ≤ (((k : Nat) : Int) - (1 : Int))))) (hf.ev rfl) (fun hqt23_1 => ?_) (fun hqt23_1 => ?_)
      · have hqt23_1b := hqt23_1
        try simp only [decide_eq_true_eq, Bool.and_eq_true, Bool.or_eq_true, Bool.not_eq_true', decide_eq_false_iff_not, ne_eq, Bool.not_eq_true] at hqt23_1
        refine wp_skip ?_
        (try simp only [Exit.then, Exit.inBlock, ↓reduceIte, Nat.reduceEqDiff])
        refine hK10 _ _ ?_
        refine wp_seq_k (fun K12 hK12 => ?_)
        refine wp_block ?_
        refine wp_seq_k (fun K13 hK13 => ?_)
        obtain ⟨y, hy⟩ : ∃ x, L[k - 1]? = some x := ⟨_, List.getElem?_eq_getElem (by omega)⟩
        refine wp_region_lit ?_
        refine sqv hf (r_move rfl) rfl rfl rfl ?_; clear hf fa; intro fa hf
        refine sqv hf (r_move rfl) rfl rfl rfl ?_; clear hf fa; intro fa hf
        have hy1 : (L)[(k - 1)]? = some y := hy
        obtain ⟨ab1, aoff1, hat1, hlb1, hel1⟩ := RdS.at hl hy1
        refine sqv hf (r_ixa (sz := 3) (j := (k - 1)) (evAt rfl hat1) rfl Try.underlying22 (by kernel_rfl) (by omega) (by omega) rfl) rfl rfl rfl ?_; clear hf fa; intro fa hf
        refine sqv hf (r_fa rfl Try.underlying26 (f := 0) (q := (aoff1 + (k - 1) * 3)) rfl (by kernel_rfl) rfl) rfl rfl rfl ?_; clear hf fa; intro fa hf
        refine sqv hf (r_load (v := (.string y.1)) rfl Try.underlying9 rfl (cellsAt_cell (cellsAt_below hel1 hb hlb1) (i := 0) rfl rfl)) rfl rfl rfl ?_; clear hf fa; intro fa hf
        refine sqv hf (r_move rfl) rfl rfl rfl ?_; clear hf fa; intro fa hf
        refine sqv hf (r_seq rfl rfl) rfl rfl rfl ?_; clear hf fa; intro fa hf
        apply wpList_nil
        (try simp only [Exit.then, Exit.inBlock, ↓reduceIte, Nat.reduceEqDiff])
        refine hK13 _ _ ?_
        refine wp_cond_split (t := (decide (y.1 = nm))) (hf.ev rfl) (fun hqt32_1 => ?_) (fun hqt32_1 => ?_)
        · have hqt32_1b := hqt32_1
          try simp only [decide_eq_true_eq, Bool.and_eq_true, Bool.or_eq_true, Bool.not_eq_true', decide_eq_false_iff_not, ne_eq, Bool.not_eq_true] at hqt32_1
          refine wp_region_lit ?_
          refine sqv hf (r_move rfl) rfl rfl rfl ?_; clear hf fa; intro fa hf
          refine sqv hf (r_assign rfl) rfl rfl rfl ?_; clear hf fa; intro fa hf
          apply wpList_nil
          (try simp only [Exit.then, Exit.inBlock, ↓reduceIte, Nat.reduceEqDiff])
          refine hK12 _ _ ?_
          refine wp_region_lit ?_
          refine sqv hf (r_move rfl) rfl rfl rfl ?_; clear hf fa; intro fa hf
          refine sqv hf (r_sub (C := ((((k : Nat) : Int) - (1 : Int)) - (1 : Int))) rfl rfl (by rw [IntKind.wrap_i64]; omega)) rfl rfl rfl ?_; clear hf fa; intro fa hf
          refine sqv hf (r_assign rfl) rfl rfl rfl ?_; clear hf fa; intro fa hf
          apply wpList_nil
          (try simp only [Exit.then, Exit.inBlock, ↓reduceIte, Nat.reduceEqDiff])
          have hd : L.drop (k - 1) = y :: L.drop k := (by have h := drop_at hy; rwa [show k - 1 + 1 = k by omega] at h)
          refine hKL1 _ _ _ (by omega) ⟨(k - 1), (((k : Nat) : Int) - (1 : Int)), rfl, hf.sub ⟨rfl, rfl, rfl, rfl, (some_int (by first | rfl | omega)), trivial⟩, hb, by omega, (by rw [hd, idxR, if_pos hqt32_1]; omega)⟩
        · have hqt32_1b := hqt32_1
          replace hqt32_1 := Bool.eq_false_iff.1 hqt32_1
          try simp only [ne_eq, decide_eq_true_eq, Bool.and_eq_true, Bool.or_eq_true, Bool.not_eq_true', decide_eq_false_iff_not] at hqt32_1
          refine wp_skip ?_
          (try simp only [Exit.then, Exit.inBlock, ↓reduceIte, Nat.reduceEqDiff])
          refine hK12 _ _ ?_
          refine wp_region_lit ?_
          refine sqv hf (r_move rfl) rfl rfl rfl ?_; clear hf fa; intro fa hf
          refine sqv hf (r_sub (C := ((((k : Nat) : Int) - (1 : Int)) - (1 : Int))) rfl rfl (by rw [IntKind.wrap_i64]; omega)) rfl rfl rfl ?_; clear hf fa; intro fa hf
          refine sqv hf (r_assign rfl) rfl rfl rfl ?_; clear hf fa; intro fa hf
          apply wpList_nil
          (try simp only [Exit.then, Exit.inBlock, ↓reduceIte, Nat.reduceEqDiff])
          have hd : L.drop (k - 1) = y :: L.drop k := (by have h := drop_at hy; rwa [show k - 1 + 1 = k by omega] at h)
          refine hKL1 _ _ _ (by omega) ⟨(k - 1), o, rfl, hf.sub ⟨rfl, rfl, rfl, rfl, (some_int (by first | rfl | omega)), trivial⟩, hb, by omega, (by rw [hd, idxR, if_neg hqt32_1, show k - 1 + 1 = k by omega]; exact Ho)⟩
      · have hqt23_1b := hqt23_1
        replace hqt23_1 := Bool.eq_false_iff.1 hqt23_1
        try simp only [ne_eq, decide_eq_true_eq, Bool.and_eq_true, Bool.or_eq_true, Bool.not_eq_true', decide_eq_false_iff_not] at hqt23_1
        refine wp_exit ?_
        (try simp only [Exit.then, Exit.inBlock, ↓reduceIte, Nat.reduceEqDiff])
        refine hK8 _ _ ?_
        refine wp_seq_k (fun K14 hK14 => ?_)
        have hk0 : k = 0 := by omega
        have hO : o = idxR nm L 0 := by rw [Ho, hk0, List.drop_zero]
        have hO1 := idx_lt nm L
        have hT1 := tw_lt L
        rw [← hO] at hO1
        refine wp_region_lit ?_
        refine sqv hf (r_move rfl) rfl rfl rfl ?_; clear hf fa; intro fa hf
        refine sqv hf (r_move rfl) rfl rfl rfl ?_; clear hf fa; intro fa hf
        refine sqdt hf (d_callB (vs := [(.slice a L.length c), (.string nm)]) rfl Try.func17 (by kernel_rfl) (by kernel_rfl) (find_any a L c nm _ (RdS.ext hl hb) hlc hl9 hLs)) rfl rfl rfl ?_; clear hf fa; rintro fa _ w3 ⟨rfl, he2⟩ hf
        replace hb := hb.trans (Below.mono he2 hb.size)
        refine sqv hf (r_move rfl) rfl rfl rfl ?_; clear hf fa; intro fa hf
        refine sqv hf (r_extract rfl (i := 0) rfl) rfl rfl rfl ?_; clear hf fa; intro fa hf
        refine sqv hf (r_extract rfl (i := 1) rfl) rfl rfl rfl ?_; clear hf fa; intro fa hf
        refine sqdt hf (d_alloc (z := (.agg #[(.string ⟨#[]⟩), (.int .u8 (0 : Int)), (.int .u32 (0 : Int))])) (cs := #[(.string ⟨#[]⟩), (.int .u8 (0 : Int)), (.int .u32 (0 : Int))]) (by kernel_rfl) rfl) rfl rfl rfl ?_; clear hf fa; rintro fa _ w4 ⟨b1, rfl, hle1, hk1, he3⟩ hf
        have hBb1 : w.heap.size ≤ b1 := Nat.le_trans hb.size hle1
        replace hb := hb.trans (Below.mono he3 hb.size)
        refine sqn hf (d_storeK (T := 26) (v := (.agg #[(.string (fndP nm L).1.1), (.int .u8 ((fndP nm L).1.2.1)), (.int .u32 ((fndP nm L).1.2.2.1))])) (cs := #[(.string ⟨#[]⟩), (.int .u8 (0 : Int)), (.int .u32 (0 : Int))]) (cs' := #[(.string (fndP nm L).1.1), (.int .u8 ((fndP nm L).1.2.1)), (.int .u32 ((fndP nm L).1.2.2.1))]) rfl rfl (by kernel_rfl) (by kernel_rfl) hk1 (by kernel_rfl) (by kernel_rfl)) rfl rfl ?_; clear hf fa; rintro fa _ w5 ⟨hk2, hg1⟩ hf
        replace hb := hb.trans (grown_below hg1 hb.size hBb1)
        refine sqv hf (r_assign rfl) rfl rfl rfl ?_; clear hf fa; intro fa hf
        apply wpList_nil
        (try simp only [Exit.then, Exit.inBlock, ↓reduceIte, Nat.reduceEqDiff])
        refine hK14 _ _ ?_
        refine wp_seq_k (fun K15 hK15 => ?_)
        refine wp_region_lit ?_
        refine sqv hf (r_move rfl) rfl rfl rfl ?_; clear hf fa; intro fa hf
        refine sqdt hf (d_callB (vs := [(.slice a L.length c)]) rfl Try.func18 (by kernel_rfl) (by kernel_rfl) (twice_any a L c _ (RdS.ext hl hb) hlc hl9 hLs)) rfl rfl rfl ?_; clear hf fa; rintro fa _ w6 ⟨rfl, he4⟩ hf
        replace hk2 := blk_ext hk2 he4
        replace hb := hb.trans (Below.mono he4 hb.size)
        refine sqv hf (r_move rfl) rfl rfl rfl ?_; clear hf fa; intro fa hf
        refine sqv hf (r_extract rfl (i := 0) rfl) rfl rfl rfl ?_; clear hf fa; intro fa hf
        refine sqv hf (r_extract rfl (i := 1) rfl) rfl rfl rfl ?_; clear hf fa; intro fa hf
        refine sqv hf (r_assign rfl) rfl rfl rfl ?_; clear hf fa; intro fa hf
        refine sqv hf (r_assign rfl) rfl rfl rfl ?_; clear hf fa; intro fa hf
        apply wpList_nil
        (try simp only [Exit.then, Exit.inBlock, ↓reduceIte, Nat.reduceEqDiff])
        refine hK15 _ _ ?_
        refine wp_seq_k (fun K16 hK16 => ?_)
        refine wp_region_lit ?_
        refine sqv hf (r_move rfl) rfl rfl rfl ?_; clear hf fa; intro fa hf
        refine sqdt hf (d_callB (vs := [(.slice a L.length c)]) rfl Try.func19 (by kernel_rfl) (by kernel_rfl) (rtwice_any a L c _ (RdS.ext hl hb) hlc hl9 hLs)) rfl rfl rfl ?_; clear hf fa; rintro fa _ w7 ⟨rfl, he5⟩ hf
        replace hk2 := blk_ext hk2 he5
        replace hb := hb.trans (Below.mono he5 hb.size)
        refine sqv hf (r_assign rfl) rfl rfl rfl ?_; clear hf fa; intro fa hf
        apply wpList_nil
        (try simp only [Exit.then, Exit.inBlock, ↓reduceIte, Nat.reduceEqDiff])
        refine hK16 _ _ ?_
        refine wp_seq_k (fun K17 hK17 => ?_)
        refine wp_seq_k (fun K18 hK18 => ?_)
        by_cases hsp1 : 0 ≤ o
        · have hsp1b : decide (0 ≤ o) = true := decide_eq_true hsp1
          by_cases hsp2 : 0 ≤ twI [] L 0
          · have hsp2b : decide (0 ≤ twI [] L 0) = true := decide_eq_true hsp2
            have hy2 : (L)[(o).toNat]? = some (L.getD o.toNat zMExp) := getD_at zMExp (by omega)
            obtain ⟨ab2, aoff2, hat2, hlb2, hel2⟩ := RdS.at hl hy2
            have hy3 : (L)[((twI [] L 0)).toNat]? = some (L.getD (twI [] L 0).toNat zMExp) := getD_at zMExp (by omega)
            obtain ⟨_, _, hab1, hlb3, hel3⟩ := RdS.at hl hy3
            rw [hat2] at hab1; cases hab1
            refine wp_region_un (fun wq => Below w7.heap.size w7 wq) (fun w w' => Below w.heap.size w w')
              (fun V => [(fun x _ => x = (.bool true)), (fun x _ => x = (.int .i64 o)), (fun x _ => x = (.bool true)), (fun x _ => x = (.bool false)), (fun x _ => x = (.bool false)), (fun x _ => x = (.bool true)), (fun x _ => x = (.bool true)), (fun x _ => x = (.agg #[(.string (fndP nm L).1.1), (.int .u8 ((fndP nm L).1.2.1)), (.int .u32 ((fndP nm L).1.2.2.1))])), (fun x _ => x = (.slice a L.length c)), (fun x _ => x = (.int .i64 o)), (fun x _ => x = (.pointer (some ⟨ab2, (aoff2 + (o).toNat * 3), none⟩))), (fun x _ => x = (.agg #[(.string (L.getD o.toNat zMExp).1), (.int .u8 ((L.getD o.toNat zMExp).2.1)), (.int .u32 ((L.getD o.toNat zMExp).2.2.1))])), (fun x _ => x = (.bool false)), (fun x _ => x = (.bool false)), (fun x _ => x = (.bool false)), (fun x _ => x = (.bool false)), (fun x _ => x = (.bool true)), (fun x _ => x = (.bool false)), (fun x _ => x = (.bool false)), (fun x _ => x = gb false (.bool false)), (fun x _ => x = gb false (.bool false)), (fun x _ => x = gb false (.bool false)), (fun x _ => x = (.bool false)), (fun x _ => x = (.bool false)), (fun x _ => x = (.bool false)), (fun x _ => x = (.bool true)), (fun x _ => x = (.int .i64 ((twI [] L 0)))), (fun x _ => x = (.bool true)), (fun x _ => x = (.bool false)), (fun x _ => x = (.bool false)), (fun x _ => x = (.bool false)), (fun x _ => x = (.bool true)), (fun x _ => x = (.bool true)), (fun x _ => x = (.string (twN L))), (fun x _ => x = (.slice a L.length c)), (fun x _ => x = (.int .i64 ((twI [] L 0)))), (fun x _ => x = (.pointer (some ⟨ab2, (aoff2 + ((twI [] L 0)).toNat * 3), none⟩))), (fun x _ => x = (.pointer (some ⟨ab2, (aoff2 + ((twI [] L 0)).toNat * 3), none⟩))), (fun x _ => x = (.string (L.getD (twI [] L 0).toNat zMExp).1)), (fun x _ => x = (.bool false)), (fun x _ => x = (.bool false)), (fun x _ => x = (.bool false)), (fun x _ => x = (.bool false)), (fun x _ => x = (.bool true)), (fun x _ => x = (.bool false)), (fun x _ => x = (.bool false)), (fun x _ => x = gb false (.bool false)), (fun x _ => x = gb false (.bool false)), (fun x _ => x = (.bool false)), (fun x _ => x = (.bool false))])
              []
              [[], [], [1], [0, 2], [3], [4], [4, 5], [6], [6], [6], [6, 8, 9], [6, 10], [6, 7, 11], [4, 6, 12], [4, 13], [6, 14], [15], [15, 16], [15, 17], [18], [18], [18, 19, 20], [15, 18, 21], [15, 22], [18, 23], [24], [24], [24, 26], [24, 25, 27], [24, 28], [24, 29], [30], [30, 31], [32], [32], [32], [32, 34, 35], [32, 36], [32, 37], [32, 33, 38], [30, 32, 39], [30, 40], [32, 41], [42], [42, 43], [42, 44], [45], [45, 46], [42, 45, 47], [42, 48]]
              hf (by kernel_rfl) (by kernel_rfl) (fun _ => rfl) ((Below.refl _ _).drew) (fun a b h1 h2 => h1.trans (h2.mono h1.size)) (fun _ _ h => h.size) (fun V => ⟨kept_eq, kept_eq, kept_eq, kept_eq, kept_eq, kept_eq, kept_eq, kept_eq, kept_eq, kept_eq, kept_eq, kept_eq, kept_eq, kept_eq, kept_eq, kept_eq, kept_eq, kept_eq, kept_eq, kept_eq, kept_eq, kept_eq, kept_eq, kept_eq, kept_eq, kept_eq, kept_eq, kept_eq, kept_eq, kept_eq, kept_eq, kept_eq, kept_eq, kept_eq, kept_eq, kept_eq, kept_eq, kept_eq, kept_eq, kept_eq, kept_eq, kept_eq, kept_eq, kept_eq, kept_eq, kept_eq, kept_eq, kept_eq, kept_eq, kept_eq, trivial⟩) (fun _ _ _ _ _ => rfl) ?_ ?_
            · skip
              intro V
              refine ⟨fun wu0 hC hd => ?_, ?_⟩
              · clear hd
                replace hb := hb.trans (hC.mono hb.size)
                replace hk2 := blk_ext hk2 hC
                exact Runs.does (Runs.veq (r_move rfl) (congrArg Value.bool (show _ = true from (by rw [fnd_yes hO hsp1])))) ⟨Below.refl _ _, rfl, nofr rfl⟩
              refine ⟨fun wu1 hC hd => ?_, ?_⟩
              · clear hd
                replace hb := hb.trans (hC.mono hb.size)
                replace hk2 := blk_ext hk2 hC
                exact Runs.does (r_move rfl) ⟨Below.refl _ _, rfl, nofr rfl⟩
              refine ⟨fun wu2 hC hd => ?_, ?_⟩
              · obtain ⟨h1, _⟩ := hd
                skip
                replace h1 : V 1 = (.int .i64 o) := h1
                replace hb := hb.trans (hC.mono hb.size)
                replace hk2 := blk_ext hk2 hC
                exact Runs.does (Runs.veq (r_ge (congrArg some h1) rfl) (congrArg Value.bool (show _ = true from (decide_eq_true hsp1)))) ⟨Below.refl _ _, rfl, nofr rfl⟩
              refine ⟨fun wu3 hC hd => ?_, ?_⟩
              · obtain ⟨h0, h2, _⟩ := hd
                skip
                skip
                replace h0 : V 0 = (.bool true) := h0
                replace h2 : V 2 = (.bool true) := h2
                replace hb := hb.trans (hC.mono hb.size)
                replace hk2 := blk_ext hk2 hC
                exact Runs.does (Runs.veq (v' := (.bool false)) (r_bne Try.underlying4 (congrArg some h0) (congrArg some h2)) rfl) ⟨Below.refl _ _, rfl, nofr rfl⟩
              refine ⟨fun wu4 hC hd => ?_, ?_⟩
              · obtain ⟨h3, _⟩ := hd
                skip
                replace h3 : V 3 = (.bool false) := h3
                replace hb := hb.trans (hC.mono hb.size)
                replace hk2 := blk_ext hk2 hC
                exact Runs.does (r_move (congrArg some h3)) ⟨Below.refl _ _, rfl, nofr rfl⟩
              refine ⟨fun wu5 hC hd => ?_, ?_⟩
              · obtain ⟨h4, _⟩ := hd
                skip
                replace h4 : V 4 = (.bool false) := h4
                replace hb := hb.trans (hC.mono hb.size)
                replace hk2 := blk_ext hk2 hC
                refine ⟨true, false, congrArg some h4, fun hact => ?_, fun hact => ?_⟩
                · exact Runs.does (Runs.veq (r_move rfl) (congrArg Value.bool (show _ = true from (by rw [fnd_yes hO hsp1])))) ⟨Below.refl _ _, rfl, nofr rfl⟩
                · exfalso; simp at hact
              refine ⟨fun wu6 hC hd => ?_, ?_⟩
              · obtain ⟨h4, h5, _⟩ := hd
                skip
                skip
                replace h4 : V 4 = (.bool false) := h4
                replace h5 : V 5 = (.bool true) := h5
                replace hb := hb.trans (hC.mono hb.size)
                replace hk2 := blk_ext hk2 hC
                refine ⟨true, false, congrArg some h4, fun hact => ?_, fun hact => ?_⟩
                · exact Runs.does (r_move (congrArg some h5)) ⟨Below.refl _ _, rfl, nofr rfl⟩
                · exfalso; simp at hact
              refine ⟨fun wu7 hC hd => ?_, ?_⟩
              · obtain ⟨h6, _⟩ := hd
                skip
                replace h6 : V 6 = (.bool true) := h6
                replace hb := hb.trans (hC.mono hb.size)
                replace hk2 := blk_ext hk2 hC
                refine ⟨true, true, congrArg some h6, fun hact => ?_, fun hact => ?_⟩
                · exact Runs.does (r_loadA (cs := [(.string (fndP nm L).1.1), (.int .u8 ((fndP nm L).1.2.1)), (.int .u32 ((fndP nm L).1.2.2.1))]) rfl Try.underlying26 rfl (by kernel_rfl) (cellsAt_blk hk2)) ⟨Below.refl _ _, rfl, nofr rfl⟩
                · exfalso; simp at hact
              refine ⟨fun wu8 hC hd => ?_, ?_⟩
              · obtain ⟨h6, _⟩ := hd
                skip
                replace h6 : V 6 = (.bool true) := h6
                replace hb := hb.trans (hC.mono hb.size)
                replace hk2 := blk_ext hk2 hC
                refine ⟨true, true, congrArg some h6, fun hact => ?_, fun hact => ?_⟩
                · exact Runs.does (r_move rfl) ⟨Below.refl _ _, rfl, nofr rfl⟩
                · exfalso; simp at hact
              refine ⟨fun wu9 hC hd => ?_, ?_⟩
              · obtain ⟨h6, _⟩ := hd
                skip
                replace h6 : V 6 = (.bool true) := h6
                replace hb := hb.trans (hC.mono hb.size)
                replace hk2 := blk_ext hk2 hC
                refine ⟨true, true, congrArg some h6, fun hact => ?_, fun hact => ?_⟩
                · exact Runs.does (r_move rfl) ⟨Below.refl _ _, rfl, nofr rfl⟩
                · exfalso; simp at hact
              refine ⟨fun wu10 hC hd => ?_, ?_⟩
              · obtain ⟨h6, h8, h9, _⟩ := hd
                skip
                skip
                skip
                replace h6 : V 6 = (.bool true) := h6
                replace h8 : V 8 = (.slice a L.length c) := h8
                replace h9 : V 9 = (.int .i64 o) := h9
                replace hb := hb.trans (hC.mono hb.size)
                replace hk2 := blk_ext hk2 hC
                refine ⟨true, true, congrArg some h6, fun hact => ?_, fun hact => ?_⟩
                · exact Runs.does (r_ixa (sz := 3) (j := (o).toNat) (evAt (congrArg some h8) hat2) (congrArg some h9) Try.underlying22 (by kernel_rfl) (by omega) (by omega) rfl) ⟨Below.refl _ _, rfl, nofr rfl⟩
                · exfalso; simp at hact
              refine ⟨fun wu11 hC hd => ?_, ?_⟩
              · obtain ⟨h6, h10, _⟩ := hd
                skip
                skip
                replace h6 : V 6 = (.bool true) := h6
                replace h10 : V 10 = (.pointer (some ⟨ab2, (aoff2 + (o).toNat * 3), none⟩)) := h10
                replace hb := hb.trans (hC.mono hb.size)
                replace hk2 := blk_ext hk2 hC
                refine ⟨true, true, congrArg some h6, fun hact => ?_, fun hact => ?_⟩
                · exact Runs.does (r_loadA (cs := [(.string (L.getD o.toNat zMExp).1), (.int .u8 ((L.getD o.toNat zMExp).2.1)), (.int .u32 ((L.getD o.toNat zMExp).2.2.1))]) (congrArg some h10) Try.underlying26 rfl (by kernel_rfl) (cellsAt_below hel2 hb hlb2)) ⟨Below.refl _ _, rfl, nofr rfl⟩
                · exfalso; simp at hact
              refine ⟨fun wu12 hC hd => ?_, ?_⟩
              · obtain ⟨h6, h7, h11, _⟩ := hd
                skip
                skip
                skip
                replace h6 : V 6 = (.bool true) := h6
                replace h7 : V 7 = (.agg #[(.string (fndP nm L).1.1), (.int .u8 ((fndP nm L).1.2.1)), (.int .u32 ((fndP nm L).1.2.2.1))]) := h7
                replace h11 : V 11 = (.agg #[(.string (L.getD o.toNat zMExp).1), (.int .u8 ((L.getD o.toNat zMExp).2.1)), (.int .u32 ((L.getD o.toNat zMExp).2.2.1))]) := h11
                replace hb := hb.trans (hC.mono hb.size)
                replace hk2 := blk_ext hk2 hC
                refine ⟨true, true, congrArg some h6, fun hact => ?_, fun hact => ?_⟩
                · exact Runs.does (Runs.veq (r_ane (k := 5) (congrArg some h7) (congrArg some h11) (by kernel_rfl) (eqt_struct (xs := #[(.string (fndP nm L).1.1), (.int .u8 ((fndP nm L).1.2.1)), (.int .u32 ((fndP nm L).1.2.2.1))]) (ys := #[(.string (L.getD o.toNat zMExp).1), (.int .u8 ((L.getD o.toNat zMExp).2.1)), (.int .u32 ((L.getD o.toNat zMExp).2.2.1))]) Try.underlying26 (by kernel_rfl) (eqf_cons (by kernel_rfl) (fun _ => by kernel_rfl) (fun _ => by kernel_rfl) (eqt_str (a := (fndP nm L).1.1) (b := (L.getD o.toNat zMExp).1) Try.underlying9) (eqf_cons (by kernel_rfl) (fun _ => by kernel_rfl) (fun _ => by kernel_rfl) (eqt_int (kk := .u8) (a := ((fndP nm L).1.2.1)) (b := ((L.getD o.toNat zMExp).2.1)) Try.underlying5) (eqf_one (by kernel_rfl) (fun _ => by kernel_rfl) (fun _ => by kernel_rfl) (eqt_int (kk := .u32) (a := ((fndP nm L).1.2.2.1)) (b := ((L.getD o.toNat zMExp).2.2.1)) Try.underlying24))))) rfl) (congrArg Value.bool (show _ = false from (by simp [fnd_yes hO hsp1])))) ⟨Below.refl _ _, rfl, nofr rfl⟩
                · exfalso; simp at hact
              refine ⟨fun wu13 hC hd => ?_, ?_⟩
              · obtain ⟨h4, h6, h12, _⟩ := hd
                skip
                skip
                skip
                replace h4 : V 4 = (.bool false) := h4
                replace h6 : V 6 = (.bool true) := h6
                replace h12 : V 12 = (.bool false) := h12
                replace hb := hb.trans (hC.mono hb.size)
                replace hk2 := blk_ext hk2 hC
                refine ⟨true, false, congrArg some h4, fun hact => ?_, fun hact => ?_⟩
                · exact Runs.does (r_pick (b := true) (congrArg some h6) (congrArg some h12) rfl rfl) ⟨Below.refl _ _, rfl, nofr rfl⟩
                · exfalso; simp at hact
              refine ⟨fun wu14 hC hd => ?_, ?_⟩
              · obtain ⟨h4, h13, _⟩ := hd
                skip
                skip
                replace h4 : V 4 = (.bool false) := h4
                replace h13 : V 13 = (.bool false) := h13
                replace hb := hb.trans (hC.mono hb.size)
                replace hk2 := blk_ext hk2 hC
                exact Runs.does (r_pick (b := false) (congrArg some h4) rfl (congrArg some h13) rfl) ⟨Below.refl _ _, rfl, nofr rfl⟩
              refine ⟨fun wu15 hC hd => ?_, ?_⟩
              · obtain ⟨h6, h14, _⟩ := hd
                skip
                skip
                replace h6 : V 6 = (.bool true) := h6
                replace h14 : V 14 = (.bool false) := h14
                replace hb := hb.trans (hC.mono hb.size)
                replace hk2 := blk_ext hk2 hC
                exact Runs.does (r_move (congrArg some h14)) ⟨Below.refl _ _, rfl, nofr rfl⟩
              refine ⟨fun wu16 hC hd => ?_, ?_⟩
              · obtain ⟨h15, _⟩ := hd
                skip
                replace h15 : V 15 = (.bool false) := h15
                replace hb := hb.trans (hC.mono hb.size)
                replace hk2 := blk_ext hk2 hC
                refine ⟨true, false, congrArg some h15, fun hact => ?_, fun hact => ?_⟩
                · exact Runs.does (Runs.veq (r_move rfl) (congrArg Value.bool (show _ = true from (by rw [fnd_yes hO hsp1])))) ⟨Below.refl _ _, rfl, nofr rfl⟩
                · exfalso; simp at hact
              refine ⟨fun wu17 hC hd => ?_, ?_⟩
              · obtain ⟨h15, h16, _⟩ := hd
                skip
                skip
                replace h15 : V 15 = (.bool false) := h15
                replace h16 : V 16 = (.bool true) := h16
                replace hb := hb.trans (hC.mono hb.size)
                replace hk2 := blk_ext hk2 hC
                refine ⟨true, false, congrArg some h15, fun hact => ?_, fun hact => ?_⟩
                · exact Runs.does (Runs.veq (v' := (.bool false)) (r_not (congrArg some h16)) rfl) ⟨Below.refl _ _, rfl, nofr rfl⟩
                · exfalso; simp at hact
              refine ⟨fun wu18 hC hd => ?_, ?_⟩
              · obtain ⟨h15, h17, _⟩ := hd
                skip
                skip
                replace h15 : V 15 = (.bool false) := h15
                replace h17 : V 17 = (.bool false) := h17
                replace hb := hb.trans (hC.mono hb.size)
                replace hk2 := blk_ext hk2 hC
                refine ⟨true, false, congrArg some h15, fun hact => ?_, fun hact => ?_⟩
                · exact Runs.does (r_move (congrArg some h17)) ⟨Below.refl _ _, rfl, nofr rfl⟩
                · exfalso; simp at hact
              refine ⟨fun wu19 hC hd => ?_, ?_⟩
              · obtain ⟨h18, _⟩ := hd
                skip
                replace h18 : V 18 = (.bool false) := h18
                replace hb := hb.trans (hC.mono hb.size)
                replace hk2 := blk_ext hk2 hC
                refine ⟨true, false, congrArg some h18, fun hact => ?_, fun hact => ?_⟩
                · exfalso; simp at hact
                · exact ⟨Below.refl _ _, rfl, nofr rfl⟩
              refine ⟨fun wu20 hC hd => ?_, ?_⟩
              · obtain ⟨h18, _⟩ := hd
                skip
                replace h18 : V 18 = (.bool false) := h18
                replace hb := hb.trans (hC.mono hb.size)
                replace hk2 := blk_ext hk2 hC
                refine ⟨true, false, congrArg some h18, fun hact => ?_, fun hact => ?_⟩
                · exfalso; simp at hact
                · exact ⟨Below.refl _ _, rfl, nofr rfl⟩
              refine ⟨fun wu21 hC hd => ?_, ?_⟩
              · obtain ⟨h18, h19, h20, _⟩ := hd
                skip
                skip
                skip
                replace h18 : V 18 = (.bool false) := h18
                replace h19 : V 19 = gb false (.bool false) := h19
                replace h20 : V 20 = gb false (.bool false) := h20
                replace hb := hb.trans (hC.mono hb.size)
                replace hk2 := blk_ext hk2 hC
                refine ⟨true, false, congrArg some h18, fun hact => ?_, fun hact => ?_⟩
                · exfalso; simp at hact
                · exact ⟨Below.refl _ _, rfl, nofr rfl⟩
              refine ⟨fun wu22 hC hd => ?_, ?_⟩
              · obtain ⟨h15, h18, h21, _⟩ := hd
                skip
                skip
                skip
                replace h15 : V 15 = (.bool false) := h15
                replace h18 : V 18 = (.bool false) := h18
                replace h21 : V 21 = gb false (.bool false) := h21
                replace hb := hb.trans (hC.mono hb.size)
                replace hk2 := blk_ext hk2 hC
                refine ⟨true, false, congrArg some h15, fun hact => ?_, fun hact => ?_⟩
                · exact Runs.does (r_pick (b := false) (congrArg some h18) (congrArg some h21) rfl rfl) ⟨Below.refl _ _, rfl, nofr rfl⟩
                · exfalso; simp at hact
              refine ⟨fun wu23 hC hd => ?_, ?_⟩
              · obtain ⟨h15, h22, _⟩ := hd
                skip
                skip
                replace h15 : V 15 = (.bool false) := h15
                replace h22 : V 22 = (.bool false) := h22
                replace hb := hb.trans (hC.mono hb.size)
                replace hk2 := blk_ext hk2 hC
                exact Runs.does (r_pick (b := false) (congrArg some h15) rfl (congrArg some h22) rfl) ⟨Below.refl _ _, rfl, nofr rfl⟩
              refine ⟨fun wu24 hC hd => ?_, ?_⟩
              · obtain ⟨h18, h23, _⟩ := hd
                skip
                skip
                replace h18 : V 18 = (.bool false) := h18
                replace h23 : V 23 = (.bool false) := h23
                replace hb := hb.trans (hC.mono hb.size)
                replace hk2 := blk_ext hk2 hC
                exact Runs.does (r_move (congrArg some h23)) ⟨Below.refl _ _, rfl, nofr rfl⟩
              refine ⟨fun wu25 hC hd => ?_, ?_⟩
              · obtain ⟨h24, _⟩ := hd
                skip
                replace h24 : V 24 = (.bool false) := h24
                replace hb := hb.trans (hC.mono hb.size)
                replace hk2 := blk_ext hk2 hC
                refine ⟨true, false, congrArg some h24, fun hact => ?_, fun hact => ?_⟩
                · exact Runs.does (Runs.veq (r_move rfl) (congrArg Value.bool (show _ = true from (decide_eq_true hsp2)))) ⟨Below.refl _ _, rfl, nofr rfl⟩
                · exfalso; simp at hact
              refine ⟨fun wu26 hC hd => ?_, ?_⟩
              · obtain ⟨h24, _⟩ := hd
                skip
                replace h24 : V 24 = (.bool false) := h24
                replace hb := hb.trans (hC.mono hb.size)
                replace hk2 := blk_ext hk2 hC
                refine ⟨true, false, congrArg some h24, fun hact => ?_, fun hact => ?_⟩
                · exact Runs.does (r_move rfl) ⟨Below.refl _ _, rfl, nofr rfl⟩
                · exfalso; simp at hact
              refine ⟨fun wu27 hC hd => ?_, ?_⟩
              · obtain ⟨h24, h26, _⟩ := hd
                skip
                skip
                replace h24 : V 24 = (.bool false) := h24
                replace h26 : V 26 = (.int .i64 ((twI [] L 0))) := h26
                replace hb := hb.trans (hC.mono hb.size)
                replace hk2 := blk_ext hk2 hC
                refine ⟨true, false, congrArg some h24, fun hact => ?_, fun hact => ?_⟩
                · exact Runs.does (Runs.veq (r_ge (congrArg some h26) rfl) (congrArg Value.bool (show _ = true from (decide_eq_true hsp2)))) ⟨Below.refl _ _, rfl, nofr rfl⟩
                · exfalso; simp at hact
              refine ⟨fun wu28 hC hd => ?_, ?_⟩
              · obtain ⟨h24, h25, h27, _⟩ := hd
                skip
                skip
                skip
                replace h24 : V 24 = (.bool false) := h24
                replace h25 : V 25 = (.bool true) := h25
                replace h27 : V 27 = (.bool true) := h27
                replace hb := hb.trans (hC.mono hb.size)
                replace hk2 := blk_ext hk2 hC
                refine ⟨true, false, congrArg some h24, fun hact => ?_, fun hact => ?_⟩
                · exact Runs.does (Runs.veq (v' := (.bool false)) (r_bne Try.underlying4 (congrArg some h25) (congrArg some h27)) rfl) ⟨Below.refl _ _, rfl, nofr rfl⟩
                · exfalso; simp at hact
              refine ⟨fun wu29 hC hd => ?_, ?_⟩
              · obtain ⟨h24, h28, _⟩ := hd
                skip
                skip
                replace h24 : V 24 = (.bool false) := h24
                replace h28 : V 28 = (.bool false) := h28
                replace hb := hb.trans (hC.mono hb.size)
                replace hk2 := blk_ext hk2 hC
                exact Runs.does (r_pick (b := false) (congrArg some h24) rfl (congrArg some h28) rfl) ⟨Below.refl _ _, rfl, nofr rfl⟩
              refine ⟨fun wu30 hC hd => ?_, ?_⟩
              · obtain ⟨h24, h29, _⟩ := hd
                skip
                skip
                replace h24 : V 24 = (.bool false) := h24
                replace h29 : V 29 = (.bool false) := h29
                replace hb := hb.trans (hC.mono hb.size)
                replace hk2 := blk_ext hk2 hC
                exact Runs.does (r_move (congrArg some h29)) ⟨Below.refl _ _, rfl, nofr rfl⟩
              refine ⟨fun wu31 hC hd => ?_, ?_⟩
              · obtain ⟨h30, _⟩ := hd
                skip
                replace h30 : V 30 = (.bool false) := h30
                replace hb := hb.trans (hC.mono hb.size)
                replace hk2 := blk_ext hk2 hC
                refine ⟨true, false, congrArg some h30, fun hact => ?_, fun hact => ?_⟩
                · exact Runs.does (Runs.veq (r_move rfl) (congrArg Value.bool (show _ = true from (decide_eq_true hsp2)))) ⟨Below.refl _ _, rfl, nofr rfl⟩
                · exfalso; simp at hact
              refine ⟨fun wu32 hC hd => ?_, ?_⟩
              · obtain ⟨h30, h31, _⟩ := hd
                skip
                skip
                replace h30 : V 30 = (.bool false) := h30
                replace h31 : V 31 = (.bool true) := h31
                replace hb := hb.trans (hC.mono hb.size)
                replace hk2 := blk_ext hk2 hC
                refine ⟨true, false, congrArg some h30, fun hact => ?_, fun hact => ?_⟩
                · exact Runs.does (r_move (congrArg some h31)) ⟨Below.refl _ _, rfl, nofr rfl⟩
                · exfalso; simp at hact
              refine ⟨fun wu33 hC hd => ?_, ?_⟩
              · obtain ⟨h32, _⟩ := hd
                skip
                replace h32 : V 32 = (.bool true) := h32
                replace hb := hb.trans (hC.mono hb.size)
                replace hk2 := blk_ext hk2 hC
                refine ⟨true, true, congrArg some h32, fun hact => ?_, fun hact => ?_⟩
                · exact Runs.does (r_move rfl) ⟨Below.refl _ _, rfl, nofr rfl⟩
                · exfalso; simp at hact
              refine ⟨fun wu34 hC hd => ?_, ?_⟩
              · obtain ⟨h32, _⟩ := hd
                skip
                replace h32 : V 32 = (.bool true) := h32
                replace hb := hb.trans (hC.mono hb.size)
                replace hk2 := blk_ext hk2 hC
                refine ⟨true, true, congrArg some h32, fun hact => ?_, fun hact => ?_⟩
                · exact Runs.does (r_move rfl) ⟨Below.refl _ _, rfl, nofr rfl⟩
                · exfalso; simp at hact
              refine ⟨fun wu35 hC hd => ?_, ?_⟩
              · obtain ⟨h32, _⟩ := hd
                skip
                replace h32 : V 32 = (.bool true) := h32
                replace hb := hb.trans (hC.mono hb.size)
                replace hk2 := blk_ext hk2 hC
                refine ⟨true, true, congrArg some h32, fun hact => ?_, fun hact => ?_⟩
                · exact Runs.does (r_move rfl) ⟨Below.refl _ _, rfl, nofr rfl⟩
                · exfalso; simp at hact
              refine ⟨fun wu36 hC hd => ?_, ?_⟩
              · obtain ⟨h32, h34, h35, _⟩ := hd
                skip
                skip
                skip
                replace h32 : V 32 = (.bool true) := h32
                replace h34 : V 34 = (.slice a L.length c) := h34
                replace h35 : V 35 = (.int .i64 ((twI [] L 0))) := h35
                replace hb := hb.trans (hC.mono hb.size)
                replace hk2 := blk_ext hk2 hC
                refine ⟨true, true, congrArg some h32, fun hact => ?_, fun hact => ?_⟩
                · exact Runs.does (r_ixa (sz := 3) (j := ((twI [] L 0)).toNat) (evAt (congrArg some h34) hat2) (congrArg some h35) Try.underlying22 (by kernel_rfl) (by omega) (by omega) rfl) ⟨Below.refl _ _, rfl, nofr rfl⟩
                · exfalso; simp at hact
              refine ⟨fun wu37 hC hd => ?_, ?_⟩
              · obtain ⟨h32, h36, _⟩ := hd
                skip
                skip
                replace h32 : V 32 = (.bool true) := h32
                replace h36 : V 36 = (.pointer (some ⟨ab2, (aoff2 + ((twI [] L 0)).toNat * 3), none⟩)) := h36
                replace hb := hb.trans (hC.mono hb.size)
                replace hk2 := blk_ext hk2 hC
                refine ⟨true, true, congrArg some h32, fun hact => ?_, fun hact => ?_⟩
                · exact Runs.does (r_fa (congrArg some h36) Try.underlying26 (f := 0) (q := (aoff2 + ((twI [] L 0)).toNat * 3)) rfl (by kernel_rfl) rfl) ⟨Below.refl _ _, rfl, nofr rfl⟩
                · exfalso; simp at hact
              refine ⟨fun wu38 hC hd => ?_, ?_⟩
              · obtain ⟨h32, h37, _⟩ := hd
                skip
                skip
                replace h32 : V 32 = (.bool true) := h32
                replace h37 : V 37 = (.pointer (some ⟨ab2, (aoff2 + ((twI [] L 0)).toNat * 3), none⟩)) := h37
                replace hb := hb.trans (hC.mono hb.size)
                replace hk2 := blk_ext hk2 hC
                refine ⟨true, true, congrArg some h32, fun hact => ?_, fun hact => ?_⟩
                · exact Runs.does (r_load (v := (.string (L.getD (twI [] L 0).toNat zMExp).1)) (congrArg some h37) Try.underlying9 rfl (cellsAt_cell (cellsAt_below hel3 hb hlb3) (i := 0) rfl rfl)) ⟨Below.refl _ _, rfl, nofr rfl⟩
                · exfalso; simp at hact
              refine ⟨fun wu39 hC hd => ?_, ?_⟩
              · obtain ⟨h32, h33, h38, _⟩ := hd
                skip
                skip
                skip
                replace h32 : V 32 = (.bool true) := h32
                replace h33 : V 33 = (.string (twN L)) := h33
                replace h38 : V 38 = (.string (L.getD (twI [] L 0).toNat zMExp).1) := h38
                replace hb := hb.trans (hC.mono hb.size)
                replace hk2 := blk_ext hk2 hC
                refine ⟨true, true, congrArg some h32, fun hact => ?_, fun hact => ?_⟩
                · exact Runs.does (Runs.veq (r_sne (congrArg some h33) (congrArg some h38)) (congrArg Value.bool (show _ = false from (by rw [tw_yes hsp2]; simp)))) ⟨Below.refl _ _, rfl, nofr rfl⟩
                · exfalso; simp at hact
              refine ⟨fun wu40 hC hd => ?_, ?_⟩
              · obtain ⟨h30, h32, h39, _⟩ := hd
                skip
                skip
                skip
                replace h30 : V 30 = (.bool false) := h30
                replace h32 : V 32 = (.bool true) := h32
                replace h39 : V 39 = (.bool false) := h39
                replace hb := hb.trans (hC.mono hb.size)
                replace hk2 := blk_ext hk2 hC
                refine ⟨true, false, congrArg some h30, fun hact => ?_, fun hact => ?_⟩
                · exact Runs.does (r_pick (b := true) (congrArg some h32) (congrArg some h39) rfl rfl) ⟨Below.refl _ _, rfl, nofr rfl⟩
                · exfalso; simp at hact
              refine ⟨fun wu41 hC hd => ?_, ?_⟩
              · obtain ⟨h30, h40, _⟩ := hd
                skip
                skip
                replace h30 : V 30 = (.bool false) := h30
                replace h40 : V 40 = (.bool false) := h40
                replace hb := hb.trans (hC.mono hb.size)
                replace hk2 := blk_ext hk2 hC
                exact Runs.does (r_pick (b := false) (congrArg some h30) rfl (congrArg some h40) rfl) ⟨Below.refl _ _, rfl, nofr rfl⟩
              refine ⟨fun wu42 hC hd => ?_, ?_⟩
              · obtain ⟨h32, h41, _⟩ := hd
                skip
                skip
                replace h32 : V 32 = (.bool true) := h32
                replace h41 : V 41 = (.bool false) := h41
                replace hb := hb.trans (hC.mono hb.size)
                replace hk2 := blk_ext hk2 hC
                exact Runs.does (r_move (congrArg some h41)) ⟨Below.refl _ _, rfl, nofr rfl⟩
              refine ⟨fun wu43 hC hd => ?_, ?_⟩
              · obtain ⟨h42, _⟩ := hd
                skip
                replace h42 : V 42 = (.bool false) := h42
                replace hb := hb.trans (hC.mono hb.size)
                replace hk2 := blk_ext hk2 hC
                refine ⟨true, false, congrArg some h42, fun hact => ?_, fun hact => ?_⟩
                · exact Runs.does (Runs.veq (r_move rfl) (congrArg Value.bool (show _ = true from (decide_eq_true hsp2)))) ⟨Below.refl _ _, rfl, nofr rfl⟩
                · exfalso; simp at hact
              refine ⟨fun wu44 hC hd => ?_, ?_⟩
              · obtain ⟨h42, h43, _⟩ := hd
                skip
                skip
                replace h42 : V 42 = (.bool false) := h42
                replace h43 : V 43 = (.bool true) := h43
                replace hb := hb.trans (hC.mono hb.size)
                replace hk2 := blk_ext hk2 hC
                refine ⟨true, false, congrArg some h42, fun hact => ?_, fun hact => ?_⟩
                · exact Runs.does (Runs.veq (v' := (.bool false)) (r_not (congrArg some h43)) rfl) ⟨Below.refl _ _, rfl, nofr rfl⟩
                · exfalso; simp at hact
              refine ⟨fun wu45 hC hd => ?_, ?_⟩
              · obtain ⟨h42, h44, _⟩ := hd
                skip
                skip
                replace h42 : V 42 = (.bool false) := h42
                replace h44 : V 44 = (.bool false) := h44
                replace hb := hb.trans (hC.mono hb.size)
                replace hk2 := blk_ext hk2 hC
                refine ⟨true, false, congrArg some h42, fun hact => ?_, fun hact => ?_⟩
                · exact Runs.does (r_move (congrArg some h44)) ⟨Below.refl _ _, rfl, nofr rfl⟩
                · exfalso; simp at hact
              refine ⟨fun wu46 hC hd => ?_, ?_⟩
              · obtain ⟨h45, _⟩ := hd
                skip
                replace h45 : V 45 = (.bool false) := h45
                replace hb := hb.trans (hC.mono hb.size)
                replace hk2 := blk_ext hk2 hC
                refine ⟨true, false, congrArg some h45, fun hact => ?_, fun hact => ?_⟩
                · exfalso; simp at hact
                · exact ⟨Below.refl _ _, rfl, nofr rfl⟩
              refine ⟨fun wu47 hC hd => ?_, ?_⟩
              · obtain ⟨h45, h46, _⟩ := hd
                skip
                skip
                replace h45 : V 45 = (.bool false) := h45
                replace h46 : V 46 = gb false (.bool false) := h46
                replace hb := hb.trans (hC.mono hb.size)
                replace hk2 := blk_ext hk2 hC
                refine ⟨true, false, congrArg some h45, fun hact => ?_, fun hact => ?_⟩
                · exfalso; simp at hact
                · exact ⟨Below.refl _ _, rfl, nofr rfl⟩
              refine ⟨fun wu48 hC hd => ?_, ?_⟩
              · obtain ⟨h42, h45, h47, _⟩ := hd
                skip
                skip
                skip
                replace h42 : V 42 = (.bool false) := h42
                replace h45 : V 45 = (.bool false) := h45
                replace h47 : V 47 = gb false (.bool false) := h47
                replace hb := hb.trans (hC.mono hb.size)
                replace hk2 := blk_ext hk2 hC
                refine ⟨true, false, congrArg some h42, fun hact => ?_, fun hact => ?_⟩
                · exact Runs.does (r_pick (b := false) (congrArg some h45) (congrArg some h47) rfl rfl) ⟨Below.refl _ _, rfl, nofr rfl⟩
                · exfalso; simp at hact
              refine ⟨fun wu49 hC hd => ?_, ?_⟩
              · obtain ⟨h42, h48, _⟩ := hd
                skip
                skip
                replace h42 : V 42 = (.bool false) := h42
                replace h48 : V 48 = (.bool false) := h48
                replace hb := hb.trans (hC.mono hb.size)
                replace hk2 := blk_ext hk2 hC
                exact Runs.does (r_pick (b := false) (congrArg some h42) rfl (congrArg some h48) rfl) ⟨Below.refl _ _, rfl, nofr rfl⟩
              trivial
            · skip
              clear hf fa; intro V w8 fa he6 hp hnb hf
              have hv0 : V 0 = (.bool true) := postsHold_at hp 0 rfl
              have hv1 : V 1 = (.int .i64 o) := postsHold_at hp 1 rfl
              have hv2 : V 2 = (.bool true) := postsHold_at hp 2 rfl
              have hv3 : V 3 = (.bool false) := postsHold_at hp 3 rfl
              have hv4 : V 4 = (.bool false) := postsHold_at hp 4 rfl
              have hv5 : V 5 = (.bool true) := postsHold_at hp 5 rfl
              have hv6 : V 6 = (.bool true) := postsHold_at hp 6 rfl
              have hv7 : V 7 = (.agg #[(.string (fndP nm L).1.1), (.int .u8 ((fndP nm L).1.2.1)), (.int .u32 ((fndP nm L).1.2.2.1))]) := postsHold_at hp 7 rfl
              have hv8 : V 8 = (.slice a L.length c) := postsHold_at hp 8 rfl
              have hv9 : V 9 = (.int .i64 o) := postsHold_at hp 9 rfl
              have hv10 : V 10 = (.pointer (some ⟨ab2, (aoff2 + (o).toNat * 3), none⟩)) := postsHold_at hp 10 rfl
              have hv11 : V 11 = (.agg #[(.string (L.getD o.toNat zMExp).1), (.int .u8 ((L.getD o.toNat zMExp).2.1)), (.int .u32 ((L.getD o.toNat zMExp).2.2.1))]) := postsHold_at hp 11 rfl
              have hv12 : V 12 = (.bool false) := postsHold_at hp 12 rfl
              have hv13 : V 13 = (.bool false) := postsHold_at hp 13 rfl
              have hv14 : V 14 = (.bool false) := postsHold_at hp 14 rfl
              have hv15 : V 15 = (.bool false) := postsHold_at hp 15 rfl
              have hv16 : V 16 = (.bool true) := postsHold_at hp 16 rfl
              have hv17 : V 17 = (.bool false) := postsHold_at hp 17 rfl
              have hv18 : V 18 = (.bool false) := postsHold_at hp 18 rfl
              have hv19 : V 19 = gb false (.bool false) := postsHold_at hp 19 rfl
              have hv20 : V 20 = gb false (.bool false) := postsHold_at hp 20 rfl
              have hv21 : V 21 = gb false (.bool false) := postsHold_at hp 21 rfl
              have hv22 : V 22 = (.bool false) := postsHold_at hp 22 rfl
              have hv23 : V 23 = (.bool false) := postsHold_at hp 23 rfl
              have hv24 : V 24 = (.bool false) := postsHold_at hp 24 rfl
              have hv25 : V 25 = (.bool true) := postsHold_at hp 25 rfl
              have hv26 : V 26 = (.int .i64 ((twI [] L 0))) := postsHold_at hp 26 rfl
              have hv27 : V 27 = (.bool true) := postsHold_at hp 27 rfl
              have hv28 : V 28 = (.bool false) := postsHold_at hp 28 rfl
              have hv29 : V 29 = (.bool false) := postsHold_at hp 29 rfl
              have hv30 : V 30 = (.bool false) := postsHold_at hp 30 rfl
              have hv31 : V 31 = (.bool true) := postsHold_at hp 31 rfl
              have hv32 : V 32 = (.bool true) := postsHold_at hp 32 rfl
              have hv33 : V 33 = (.string (twN L)) := postsHold_at hp 33 rfl
              have hv34 : V 34 = (.slice a L.length c) := postsHold_at hp 34 rfl
              have hv35 : V 35 = (.int .i64 ((twI [] L 0))) := postsHold_at hp 35 rfl
              have hv36 : V 36 = (.pointer (some ⟨ab2, (aoff2 + ((twI [] L 0)).toNat * 3), none⟩)) := postsHold_at hp 36 rfl
              have hv37 : V 37 = (.pointer (some ⟨ab2, (aoff2 + ((twI [] L 0)).toNat * 3), none⟩)) := postsHold_at hp 37 rfl
              have hv38 : V 38 = (.string (L.getD (twI [] L 0).toNat zMExp).1) := postsHold_at hp 38 rfl
              have hv39 : V 39 = (.bool false) := postsHold_at hp 39 rfl
              have hv40 : V 40 = (.bool false) := postsHold_at hp 40 rfl
              have hv41 : V 41 = (.bool false) := postsHold_at hp 41 rfl
              have hv42 : V 42 = (.bool false) := postsHold_at hp 42 rfl
              have hv43 : V 43 = (.bool true) := postsHold_at hp 43 rfl
              have hv44 : V 44 = (.bool false) := postsHold_at hp 44 rfl
              have hv45 : V 45 = (.bool false) := postsHold_at hp 45 rfl
              have hv46 : V 46 = gb false (.bool false) := postsHold_at hp 46 rfl
              have hv47 : V 47 = gb false (.bool false) := postsHold_at hp 47 rfl
              have hv48 : V 48 = (.bool false) := postsHold_at hp 48 rfl
              have hv49 : V 49 = (.bool false) := postsHold_at hp 49 rfl
              simp only [List.take_succ_cons, List.take_zero, insAll, ins, hv0, hv1, hv2, hv3, hv4, hv5, hv6, hv7, hv8, hv9, hv10, hv11, hv12, hv13, hv14, hv15, hv16, hv17, hv18, hv19, hv20, hv21, hv22, hv23, hv24, hv25, hv26, hv27, hv28, hv29, hv30, hv31, hv32, hv33, hv34, hv35, hv36, hv37, hv38, hv39, hv40, hv41, hv42, hv43, hv44, hv45, hv46, hv47, hv48, hv49] at hf
              clear hp hnb hv0 hv1 hv2 hv3 hv4 hv5 hv6 hv7 hv8 hv9 hv10 hv11 hv12 hv13 hv14 hv15 hv16 hv17 hv18 hv19 hv20 hv21 hv22 hv23 hv24 hv25 hv26 hv27 hv28 hv29 hv30 hv31 hv32 hv33 hv34 hv35 hv36 hv37 hv38 hv39 hv40 hv41 hv42 hv43 hv44 hv45 hv46 hv47 hv48 hv49
              replace hk2 := blk_ext hk2 he6
              replace hb := hb.trans (Below.mono he6 hb.size)
              (try simp only [Exit.then, Exit.inBlock, ↓reduceIte, Nat.reduceEqDiff])
              refine hK18 _ _ ?_
              refine wp_cond_false (hf.ev rfl) ?_
              refine wp_skip ?_
              (try simp only [Exit.then, Exit.inBlock, ↓reduceIte, Nat.reduceEqDiff])
              refine hK17 _ _ ?_
              refine wp_seq_k (fun K19 hK19 => ?_)
              refine wp_region_lit ?_
              refine sqv hf (r_move rfl) rfl rfl rfl ?_; clear hf fa; intro fa hf
              refine sqv hf (r_move rfl) rfl rfl rfl ?_; clear hf fa; intro fa hf
              refine sqdt hf (d_callX (vs := [(.slice a L.length c), (.int .u8 kd)]) rfl Try.func21 (by kernel_rfl) (by kernel_rfl) (names_any a L c kd _ (RdS.ext hl hb) hlc hl9 hLs)) rfl rfl rfl ?_; clear hf fa; rintro fa v w9 ⟨hr1, he7⟩ hf; obtain ⟨ra1, rc1, rfl, hcrc1, hmrc1⟩ := Row.slice hr1
              replace hr1 := Row.rebase hr1 hb.size
              replace hk2 := blk_ext hk2 he7
              replace hb := hb.trans (Below.mono he7 hb.size)
              refine sqv hf (r_move rfl) rfl rfl rfl ?_; clear hf fa; intro fa hf
              refine sqv hf (r_move rfl) rfl rfl rfl ?_; clear hf fa; intro fa hf
              refine sqdt hf (d_callX (vs := [(.slice a L.length c), (.int .u8 kd)]) rfl Try.func22 (by kernel_rfl) (by kernel_rfl) (rnames_any a L c kd _ (RdS.ext hl hb) hlc hl9 hLs)) rfl rfl rfl ?_; clear hf fa; rintro fa v w10 ⟨hr2, he8⟩ hf; obtain ⟨ra2, rc2, rfl, hcrc2, hmrc2⟩ := Row.slice hr2
              replace hr2 := Row.rebase hr2 hb.size
              replace hk2 := blk_ext hk2 he8
              replace hr1 := Row.ext hr1 he8
              replace hb := hb.trans (Below.mono he8 hb.size)
              refine sqdt hf (d_callB (vs := [(.slice ra1 (((nmsP L kd)).length) rc1), (.slice ra2 (((nmsP L kd)).length) rc2)]) rfl Try.func20 (by kernel_rfl) (by kernel_rfl) (same_any ra1 ra2 rc1 rc2 (nmsP L kd) _ (Row.rd (by intros; rfl) hr1) (Row.rd (by intros; rfl) hr2) (by omega) (by have := Row.caps hr1; omega) (by have := Row.caps hr2; omega))) rfl rfl rfl ?_; clear hf fa; rintro fa _ w11 ⟨rfl, he9⟩ hf
              replace hk2 := blk_ext hk2 he9
              replace hr1 := Row.ext hr1 he9
              replace hr2 := Row.ext hr2 he9
              replace hb := hb.trans (Below.mono he9 hb.size)
              refine sqv hf (r_assign rfl) rfl rfl rfl ?_; clear hf fa; intro fa hf
              apply wpList_nil
              (try simp only [Exit.then, Exit.inBlock, ↓reduceIte, Nat.reduceEqDiff])
              refine hK19 _ _ ?_
              refine wp_ret ?_
              (try simp only [Exit.then, Exit.inBlock])
              refine ret1 hf rfl rfl ?_
              exact ⟨rfl, hb⟩
          · have hsp2b : decide (0 ≤ twI [] L 0) = false := decide_eq_false hsp2
            have hy4 : (L)[(o).toNat]? = some (L.getD o.toNat zMExp) := getD_at zMExp (by omega)
            obtain ⟨ab3, aoff3, hat3, hlb4, hel4⟩ := RdS.at hl hy4
            refine wp_region_un (fun wq => Below w7.heap.size w7 wq) (fun w w' => Below w.heap.size w w')
              (fun V => [(fun x _ => x = (.bool true)), (fun x _ => x = (.int .i64 o)), (fun x _ => x = (.bool true)), (fun x _ => x = (.bool false)), (fun x _ => x = (.bool false)), (fun x _ => x = (.bool true)), (fun x _ => x = (.bool true)), (fun x _ => x = (.agg #[(.string (fndP nm L).1.1), (.int .u8 ((fndP nm L).1.2.1)), (.int .u32 ((fndP nm L).1.2.2.1))])), (fun x _ => x = (.slice a L.length c)), (fun x _ => x = (.int .i64 o)), (fun x _ => x = (.pointer (some ⟨ab3, (aoff3 + (o).toNat * 3), none⟩))), (fun x _ => x = (.agg #[(.string (L.getD o.toNat zMExp).1), (.int .u8 ((L.getD o.toNat zMExp).2.1)), (.int .u32 ((L.getD o.toNat zMExp).2.2.1))])), (fun x _ => x = (.bool false)), (fun x _ => x = (.bool false)), (fun x _ => x = (.bool false)), (fun x _ => x = (.bool false)), (fun x _ => x = (.bool true)), (fun x _ => x = (.bool false)), (fun x _ => x = (.bool false)), (fun x _ => x = gb false (.bool false)), (fun x _ => x = gb false (.bool false)), (fun x _ => x = gb false (.bool false)), (fun x _ => x = (.bool false)), (fun x _ => x = (.bool false)), (fun x _ => x = (.bool false)), (fun x _ => x = (.bool false)), (fun x _ => x = (.int .i64 ((twI [] L 0)))), (fun x _ => x = (.bool false)), (fun x _ => x = (.bool false)), (fun x _ => x = (.bool false)), (fun x _ => x = (.bool false)), (fun x _ => x = (.bool false)), (fun x _ => x = (.bool false)), (fun x _ => x = gb false (.bool false)), (fun x _ => x = gb false (.bool false)), (fun x _ => x = gb false (.bool false)), (fun x _ => x = gb false (.bool false)), (fun x _ => x = gb false (.bool false)), (fun x _ => x = gb false (.bool false)), (fun x _ => x = gb false (.bool false)), (fun x _ => x = (.bool false)), (fun x _ => x = (.bool false)), (fun x _ => x = (.bool false)), (fun x _ => x = (.bool false)), (fun x _ => x = (.bool true)), (fun x _ => x = (.bool true)), (fun x _ => x = (.string (twN L))), (fun x _ => x = (.bool false)), (fun x _ => x = (.bool false)), (fun x _ => x = (.bool false))])
              []
              [[], [], [1], [0, 2], [3], [4], [4, 5], [6], [6], [6], [6, 8, 9], [6, 10], [6, 7, 11], [4, 6, 12], [4, 13], [6, 14], [15], [15, 16], [15, 17], [18], [18], [18, 19, 20], [15, 18, 21], [15, 22], [18, 23], [24], [24], [24, 26], [24, 25, 27], [24, 28], [24, 29], [30], [30, 31], [32], [32], [32], [32, 34, 35], [32, 36], [32, 37], [32, 33, 38], [30, 32, 39], [30, 40], [32, 41], [42], [42, 43], [42, 44], [45], [45, 46], [42, 45, 47], [42, 48]]
              hf (by kernel_rfl) (by kernel_rfl) (fun _ => rfl) ((Below.refl _ _).drew) (fun a b h1 h2 => h1.trans (h2.mono h1.size)) (fun _ _ h => h.size) (fun V => ⟨kept_eq, kept_eq, kept_eq, kept_eq, kept_eq, kept_eq, kept_eq, kept_eq, kept_eq, kept_eq, kept_eq, kept_eq, kept_eq, kept_eq, kept_eq, kept_eq, kept_eq, kept_eq, kept_eq, kept_eq, kept_eq, kept_eq, kept_eq, kept_eq, kept_eq, kept_eq, kept_eq, kept_eq, kept_eq, kept_eq, kept_eq, kept_eq, kept_eq, kept_eq, kept_eq, kept_eq, kept_eq, kept_eq, kept_eq, kept_eq, kept_eq, kept_eq, kept_eq, kept_eq, kept_eq, kept_eq, kept_eq, kept_eq, kept_eq, kept_eq, trivial⟩) (fun _ _ _ _ _ => rfl) ?_ ?_
            · skip
              intro V
              refine ⟨fun wu0 hC hd => ?_, ?_⟩
              · clear hd
                replace hb := hb.trans (hC.mono hb.size)
                replace hk2 := blk_ext hk2 hC
                exact Runs.does (Runs.veq (r_move rfl) (congrArg Value.bool (show _ = true from (by rw [fnd_yes hO hsp1])))) ⟨Below.refl _ _, rfl, nofr rfl⟩
              refine ⟨fun wu1 hC hd => ?_, ?_⟩
              · clear hd
                replace hb := hb.trans (hC.mono hb.size)
                replace hk2 := blk_ext hk2 hC
                exact Runs.does (r_move rfl) ⟨Below.refl _ _, rfl, nofr rfl⟩
              refine ⟨fun wu2 hC hd => ?_, ?_⟩
              · obtain ⟨h1, _⟩ := hd
                skip
                replace h1 : V 1 = (.int .i64 o) := h1
                replace hb := hb.trans (hC.mono hb.size)
                replace hk2 := blk_ext hk2 hC
                exact Runs.does (Runs.veq (r_ge (congrArg some h1) rfl) (congrArg Value.bool (show _ = true from (decide_eq_true hsp1)))) ⟨Below.refl _ _, rfl, nofr rfl⟩
              refine ⟨fun wu3 hC hd => ?_, ?_⟩
              · obtain ⟨h0, h2, _⟩ := hd
                skip
                skip
                replace h0 : V 0 = (.bool true) := h0
                replace h2 : V 2 = (.bool true) := h2
                replace hb := hb.trans (hC.mono hb.size)
                replace hk2 := blk_ext hk2 hC
                exact Runs.does (Runs.veq (v' := (.bool false)) (r_bne Try.underlying4 (congrArg some h0) (congrArg some h2)) rfl) ⟨Below.refl _ _, rfl, nofr rfl⟩
              refine ⟨fun wu4 hC hd => ?_, ?_⟩
              · obtain ⟨h3, _⟩ := hd
                skip
                replace h3 : V 3 = (.bool false) := h3
                replace hb := hb.trans (hC.mono hb.size)
                replace hk2 := blk_ext hk2 hC
                exact Runs.does (r_move (congrArg some h3)) ⟨Below.refl _ _, rfl, nofr rfl⟩
              refine ⟨fun wu5 hC hd => ?_, ?_⟩
              · obtain ⟨h4, _⟩ := hd
                skip
                replace h4 : V 4 = (.bool false) := h4
                replace hb := hb.trans (hC.mono hb.size)
                replace hk2 := blk_ext hk2 hC
                refine ⟨true, false, congrArg some h4, fun hact => ?_, fun hact => ?_⟩
                · exact Runs.does (Runs.veq (r_move rfl) (congrArg Value.bool (show _ = true from (by rw [fnd_yes hO hsp1])))) ⟨Below.refl _ _, rfl, nofr rfl⟩
                · exfalso; simp at hact
              refine ⟨fun wu6 hC hd => ?_, ?_⟩
              · obtain ⟨h4, h5, _⟩ := hd
                skip
                skip
                replace h4 : V 4 = (.bool false) := h4
                replace h5 : V 5 = (.bool true) := h5
                replace hb := hb.trans (hC.mono hb.size)
                replace hk2 := blk_ext hk2 hC
                refine ⟨true, false, congrArg some h4, fun hact => ?_, fun hact => ?_⟩
                · exact Runs.does (r_move (congrArg some h5)) ⟨Below.refl _ _, rfl, nofr rfl⟩
                · exfalso; simp at hact
              refine ⟨fun wu7 hC hd => ?_, ?_⟩
              · obtain ⟨h6, _⟩ := hd
                skip
                replace h6 : V 6 = (.bool true) := h6
                replace hb := hb.trans (hC.mono hb.size)
                replace hk2 := blk_ext hk2 hC
                refine ⟨true, true, congrArg some h6, fun hact => ?_, fun hact => ?_⟩
                · exact Runs.does (r_loadA (cs := [(.string (fndP nm L).1.1), (.int .u8 ((fndP nm L).1.2.1)), (.int .u32 ((fndP nm L).1.2.2.1))]) rfl Try.underlying26 rfl (by kernel_rfl) (cellsAt_blk hk2)) ⟨Below.refl _ _, rfl, nofr rfl⟩
                · exfalso; simp at hact
              refine ⟨fun wu8 hC hd => ?_, ?_⟩
              · obtain ⟨h6, _⟩ := hd
                skip
                replace h6 : V 6 = (.bool true) := h6
                replace hb := hb.trans (hC.mono hb.size)
                replace hk2 := blk_ext hk2 hC
                refine ⟨true, true, congrArg some h6, fun hact => ?_, fun hact => ?_⟩
                · exact Runs.does (r_move rfl) ⟨Below.refl _ _, rfl, nofr rfl⟩
                · exfalso; simp at hact
              refine ⟨fun wu9 hC hd => ?_, ?_⟩
              · obtain ⟨h6, _⟩ := hd
                skip
                replace h6 : V 6 = (.bool true) := h6
                replace hb := hb.trans (hC.mono hb.size)
                replace hk2 := blk_ext hk2 hC
                refine ⟨true, true, congrArg some h6, fun hact => ?_, fun hact => ?_⟩
                · exact Runs.does (r_move rfl) ⟨Below.refl _ _, rfl, nofr rfl⟩
                · exfalso; simp at hact
              refine ⟨fun wu10 hC hd => ?_, ?_⟩
              · obtain ⟨h6, h8, h9, _⟩ := hd
                skip
                skip
                skip
                replace h6 : V 6 = (.bool true) := h6
                replace h8 : V 8 = (.slice a L.length c) := h8
                replace h9 : V 9 = (.int .i64 o) := h9
                replace hb := hb.trans (hC.mono hb.size)
                replace hk2 := blk_ext hk2 hC
                refine ⟨true, true, congrArg some h6, fun hact => ?_, fun hact => ?_⟩
                · exact Runs.does (r_ixa (sz := 3) (j := (o).toNat) (evAt (congrArg some h8) hat3) (congrArg some h9) Try.underlying22 (by kernel_rfl) (by omega) (by omega) rfl) ⟨Below.refl _ _, rfl, nofr rfl⟩
                · exfalso; simp at hact
              refine ⟨fun wu11 hC hd => ?_, ?_⟩
              · obtain ⟨h6, h10, _⟩ := hd
                skip
                skip
                replace h6 : V 6 = (.bool true) := h6
                replace h10 : V 10 = (.pointer (some ⟨ab3, (aoff3 + (o).toNat * 3), none⟩)) := h10
                replace hb := hb.trans (hC.mono hb.size)
                replace hk2 := blk_ext hk2 hC
                refine ⟨true, true, congrArg some h6, fun hact => ?_, fun hact => ?_⟩
                · exact Runs.does (r_loadA (cs := [(.string (L.getD o.toNat zMExp).1), (.int .u8 ((L.getD o.toNat zMExp).2.1)), (.int .u32 ((L.getD o.toNat zMExp).2.2.1))]) (congrArg some h10) Try.underlying26 rfl (by kernel_rfl) (cellsAt_below hel4 hb hlb4)) ⟨Below.refl _ _, rfl, nofr rfl⟩
                · exfalso; simp at hact
              refine ⟨fun wu12 hC hd => ?_, ?_⟩
              · obtain ⟨h6, h7, h11, _⟩ := hd
                skip
                skip
                skip
                replace h6 : V 6 = (.bool true) := h6
                replace h7 : V 7 = (.agg #[(.string (fndP nm L).1.1), (.int .u8 ((fndP nm L).1.2.1)), (.int .u32 ((fndP nm L).1.2.2.1))]) := h7
                replace h11 : V 11 = (.agg #[(.string (L.getD o.toNat zMExp).1), (.int .u8 ((L.getD o.toNat zMExp).2.1)), (.int .u32 ((L.getD o.toNat zMExp).2.2.1))]) := h11
                replace hb := hb.trans (hC.mono hb.size)
                replace hk2 := blk_ext hk2 hC
                refine ⟨true, true, congrArg some h6, fun hact => ?_, fun hact => ?_⟩
                · exact Runs.does (Runs.veq (r_ane (k := 5) (congrArg some h7) (congrArg some h11) (by kernel_rfl) (eqt_struct (xs := #[(.string (fndP nm L).1.1), (.int .u8 ((fndP nm L).1.2.1)), (.int .u32 ((fndP nm L).1.2.2.1))]) (ys := #[(.string (L.getD o.toNat zMExp).1), (.int .u8 ((L.getD o.toNat zMExp).2.1)), (.int .u32 ((L.getD o.toNat zMExp).2.2.1))]) Try.underlying26 (by kernel_rfl) (eqf_cons (by kernel_rfl) (fun _ => by kernel_rfl) (fun _ => by kernel_rfl) (eqt_str (a := (fndP nm L).1.1) (b := (L.getD o.toNat zMExp).1) Try.underlying9) (eqf_cons (by kernel_rfl) (fun _ => by kernel_rfl) (fun _ => by kernel_rfl) (eqt_int (kk := .u8) (a := ((fndP nm L).1.2.1)) (b := ((L.getD o.toNat zMExp).2.1)) Try.underlying5) (eqf_one (by kernel_rfl) (fun _ => by kernel_rfl) (fun _ => by kernel_rfl) (eqt_int (kk := .u32) (a := ((fndP nm L).1.2.2.1)) (b := ((L.getD o.toNat zMExp).2.2.1)) Try.underlying24))))) rfl) (congrArg Value.bool (show _ = false from (by simp [fnd_yes hO hsp1])))) ⟨Below.refl _ _, rfl, nofr rfl⟩
                · exfalso; simp at hact
              refine ⟨fun wu13 hC hd => ?_, ?_⟩
              · obtain ⟨h4, h6, h12, _⟩ := hd
                skip
                skip
                skip
                replace h4 : V 4 = (.bool false) := h4
                replace h6 : V 6 = (.bool true) := h6
                replace h12 : V 12 = (.bool false) := h12
                replace hb := hb.trans (hC.mono hb.size)
                replace hk2 := blk_ext hk2 hC
                refine ⟨true, false, congrArg some h4, fun hact => ?_, fun hact => ?_⟩
                · exact Runs.does (r_pick (b := true) (congrArg some h6) (congrArg some h12) rfl rfl) ⟨Below.refl _ _, rfl, nofr rfl⟩
                · exfalso; simp at hact
              refine ⟨fun wu14 hC hd => ?_, ?_⟩
              · obtain ⟨h4, h13, _⟩ := hd
                skip
                skip
                replace h4 : V 4 = (.bool false) := h4
                replace h13 : V 13 = (.bool false) := h13
                replace hb := hb.trans (hC.mono hb.size)
                replace hk2 := blk_ext hk2 hC
                exact Runs.does (r_pick (b := false) (congrArg some h4) rfl (congrArg some h13) rfl) ⟨Below.refl _ _, rfl, nofr rfl⟩
              refine ⟨fun wu15 hC hd => ?_, ?_⟩
              · obtain ⟨h6, h14, _⟩ := hd
                skip
                skip
                replace h6 : V 6 = (.bool true) := h6
                replace h14 : V 14 = (.bool false) := h14
                replace hb := hb.trans (hC.mono hb.size)
                replace hk2 := blk_ext hk2 hC
                exact Runs.does (r_move (congrArg some h14)) ⟨Below.refl _ _, rfl, nofr rfl⟩
              refine ⟨fun wu16 hC hd => ?_, ?_⟩
              · obtain ⟨h15, _⟩ := hd
                skip
                replace h15 : V 15 = (.bool false) := h15
                replace hb := hb.trans (hC.mono hb.size)
                replace hk2 := blk_ext hk2 hC
                refine ⟨true, false, congrArg some h15, fun hact => ?_, fun hact => ?_⟩
                · exact Runs.does (Runs.veq (r_move rfl) (congrArg Value.bool (show _ = true from (by rw [fnd_yes hO hsp1])))) ⟨Below.refl _ _, rfl, nofr rfl⟩
                · exfalso; simp at hact
              refine ⟨fun wu17 hC hd => ?_, ?_⟩
              · obtain ⟨h15, h16, _⟩ := hd
                skip
                skip
                replace h15 : V 15 = (.bool false) := h15
                replace h16 : V 16 = (.bool true) := h16
                replace hb := hb.trans (hC.mono hb.size)
                replace hk2 := blk_ext hk2 hC
                refine ⟨true, false, congrArg some h15, fun hact => ?_, fun hact => ?_⟩
                · exact Runs.does (Runs.veq (v' := (.bool false)) (r_not (congrArg some h16)) rfl) ⟨Below.refl _ _, rfl, nofr rfl⟩
                · exfalso; simp at hact
              refine ⟨fun wu18 hC hd => ?_, ?_⟩
              · obtain ⟨h15, h17, _⟩ := hd
                skip
                skip
                replace h15 : V 15 = (.bool false) := h15
                replace h17 : V 17 = (.bool false) := h17
                replace hb := hb.trans (hC.mono hb.size)
                replace hk2 := blk_ext hk2 hC
                refine ⟨true, false, congrArg some h15, fun hact => ?_, fun hact => ?_⟩
                · exact Runs.does (r_move (congrArg some h17)) ⟨Below.refl _ _, rfl, nofr rfl⟩
                · exfalso; simp at hact
              refine ⟨fun wu19 hC hd => ?_, ?_⟩
              · obtain ⟨h18, _⟩ := hd
                skip
                replace h18 : V 18 = (.bool false) := h18
                replace hb := hb.trans (hC.mono hb.size)
                replace hk2 := blk_ext hk2 hC
                refine ⟨true, false, congrArg some h18, fun hact => ?_, fun hact => ?_⟩
                · exfalso; simp at hact
                · exact ⟨Below.refl _ _, rfl, nofr rfl⟩
              refine ⟨fun wu20 hC hd => ?_, ?_⟩
              · obtain ⟨h18, _⟩ := hd
                skip
                replace h18 : V 18 = (.bool false) := h18
                replace hb := hb.trans (hC.mono hb.size)
                replace hk2 := blk_ext hk2 hC
                refine ⟨true, false, congrArg some h18, fun hact => ?_, fun hact => ?_⟩
                · exfalso; simp at hact
                · exact ⟨Below.refl _ _, rfl, nofr rfl⟩
              refine ⟨fun wu21 hC hd => ?_, ?_⟩
              · obtain ⟨h18, h19, h20, _⟩ := hd
                skip
                skip
                skip
                replace h18 : V 18 = (.bool false) := h18
                replace h19 : V 19 = gb false (.bool false) := h19
                replace h20 : V 20 = gb false (.bool false) := h20
                replace hb := hb.trans (hC.mono hb.size)
                replace hk2 := blk_ext hk2 hC
                refine ⟨true, false, congrArg some h18, fun hact => ?_, fun hact => ?_⟩
                · exfalso; simp at hact
                · exact ⟨Below.refl _ _, rfl, nofr rfl⟩
              refine ⟨fun wu22 hC hd => ?_, ?_⟩
              · obtain ⟨h15, h18, h21, _⟩ := hd
                skip
                skip
                skip
                replace h15 : V 15 = (.bool false) := h15
                replace h18 : V 18 = (.bool false) := h18
                replace h21 : V 21 = gb false (.bool false) := h21
                replace hb := hb.trans (hC.mono hb.size)
                replace hk2 := blk_ext hk2 hC
                refine ⟨true, false, congrArg some h15, fun hact => ?_, fun hact => ?_⟩
                · exact Runs.does (r_pick (b := false) (congrArg some h18) (congrArg some h21) rfl rfl) ⟨Below.refl _ _, rfl, nofr rfl⟩
                · exfalso; simp at hact
              refine ⟨fun wu23 hC hd => ?_, ?_⟩
              · obtain ⟨h15, h22, _⟩ := hd
                skip
                skip
                replace h15 : V 15 = (.bool false) := h15
                replace h22 : V 22 = (.bool false) := h22
                replace hb := hb.trans (hC.mono hb.size)
                replace hk2 := blk_ext hk2 hC
                exact Runs.does (r_pick (b := false) (congrArg some h15) rfl (congrArg some h22) rfl) ⟨Below.refl _ _, rfl, nofr rfl⟩
              refine ⟨fun wu24 hC hd => ?_, ?_⟩
              · obtain ⟨h18, h23, _⟩ := hd
                skip
                skip
                replace h18 : V 18 = (.bool false) := h18
                replace h23 : V 23 = (.bool false) := h23
                replace hb := hb.trans (hC.mono hb.size)
                replace hk2 := blk_ext hk2 hC
                exact Runs.does (r_move (congrArg some h23)) ⟨Below.refl _ _, rfl, nofr rfl⟩
              refine ⟨fun wu25 hC hd => ?_, ?_⟩
              · obtain ⟨h24, _⟩ := hd
                skip
                replace h24 : V 24 = (.bool false) := h24
                replace hb := hb.trans (hC.mono hb.size)
                replace hk2 := blk_ext hk2 hC
                refine ⟨true, false, congrArg some h24, fun hact => ?_, fun hact => ?_⟩
                · exact Runs.does (Runs.veq (r_move rfl) (congrArg Value.bool (show _ = false from (decide_eq_false hsp2)))) ⟨Below.refl _ _, rfl, nofr rfl⟩
                · exfalso; simp at hact
              refine ⟨fun wu26 hC hd => ?_, ?_⟩
              · obtain ⟨h24, _⟩ := hd
                skip
                replace h24 : V 24 = (.bool false) := h24
                replace hb := hb.trans (hC.mono hb.size)
                replace hk2 := blk_ext hk2 hC
                refine ⟨true, false, congrArg some h24, fun hact => ?_, fun hact => ?_⟩
                · exact Runs.does (r_move rfl) ⟨Below.refl _ _, rfl, nofr rfl⟩
                · exfalso; simp at hact
              refine ⟨fun wu27 hC hd => ?_, ?_⟩
              · obtain ⟨h24, h26, _⟩ := hd
                skip
                skip
                replace h24 : V 24 = (.bool false) := h24
                replace h26 : V 26 = (.int .i64 ((twI [] L 0))) := h26
                replace hb := hb.trans (hC.mono hb.size)
                replace hk2 := blk_ext hk2 hC
                refine ⟨true, false, congrArg some h24, fun hact => ?_, fun hact => ?_⟩
                · exact Runs.does (Runs.veq (r_ge (congrArg some h26) rfl) (congrArg Value.bool (show _ = false from (decide_eq_false hsp2)))) ⟨Below.refl _ _, rfl, nofr rfl⟩
                · exfalso; simp at hact
              refine ⟨fun wu28 hC hd => ?_, ?_⟩
              · obtain ⟨h24, h25, h27, _⟩ := hd
                skip
                skip
                skip
                replace h24 : V 24 = (.bool false) := h24
                replace h25 : V 25 = (.bool false) := h25
                replace h27 : V 27 = (.bool false) := h27
                replace hb := hb.trans (hC.mono hb.size)
                replace hk2 := blk_ext hk2 hC
                refine ⟨true, false, congrArg some h24, fun hact => ?_, fun hact => ?_⟩
                · exact Runs.does (Runs.veq (v' := (.bool false)) (r_bne Try.underlying4 (congrArg some h25) (congrArg some h27)) rfl) ⟨Below.refl _ _, rfl, nofr rfl⟩
                · exfalso; simp at hact
              refine ⟨fun wu29 hC hd => ?_, ?_⟩
              · obtain ⟨h24, h28, _⟩ := hd
                skip
                skip
                replace h24 : V 24 = (.bool false) := h24
                replace h28 : V 28 = (.bool false) := h28
                replace hb := hb.trans (hC.mono hb.size)
                replace hk2 := blk_ext hk2 hC
                exact Runs.does (r_pick (b := false) (congrArg some h24) rfl (congrArg some h28) rfl) ⟨Below.refl _ _, rfl, nofr rfl⟩
              refine ⟨fun wu30 hC hd => ?_, ?_⟩
              · obtain ⟨h24, h29, _⟩ := hd
                skip
                skip
                replace h24 : V 24 = (.bool false) := h24
                replace h29 : V 29 = (.bool false) := h29
                replace hb := hb.trans (hC.mono hb.size)
                replace hk2 := blk_ext hk2 hC
                exact Runs.does (r_move (congrArg some h29)) ⟨Below.refl _ _, rfl, nofr rfl⟩
              refine ⟨fun wu31 hC hd => ?_, ?_⟩
              · obtain ⟨h30, _⟩ := hd
                skip
                replace h30 : V 30 = (.bool false) := h30
                replace hb := hb.trans (hC.mono hb.size)
                replace hk2 := blk_ext hk2 hC
                refine ⟨true, false, congrArg some h30, fun hact => ?_, fun hact => ?_⟩
                · exact Runs.does (Runs.veq (r_move rfl) (congrArg Value.bool (show _ = false from (decide_eq_false hsp2)))) ⟨Below.refl _ _, rfl, nofr rfl⟩
                · exfalso; simp at hact
              refine ⟨fun wu32 hC hd => ?_, ?_⟩
              · obtain ⟨h30, h31, _⟩ := hd
                skip
                skip
                replace h30 : V 30 = (.bool false) := h30
                replace h31 : V 31 = (.bool false) := h31
                replace hb := hb.trans (hC.mono hb.size)
                replace hk2 := blk_ext hk2 hC
                refine ⟨true, false, congrArg some h30, fun hact => ?_, fun hact => ?_⟩
                · exact Runs.does (r_move (congrArg some h31)) ⟨Below.refl _ _, rfl, nofr rfl⟩
                · exfalso; simp at hact
              refine ⟨fun wu33 hC hd => ?_, ?_⟩
              · obtain ⟨h32, _⟩ := hd
                skip
                replace h32 : V 32 = (.bool false) := h32
                replace hb := hb.trans (hC.mono hb.size)
                replace hk2 := blk_ext hk2 hC
                refine ⟨true, false, congrArg some h32, fun hact => ?_, fun hact => ?_⟩
                · exfalso; simp at hact
                · exact ⟨Below.refl _ _, rfl, nofr rfl⟩
              refine ⟨fun wu34 hC hd => ?_, ?_⟩
              · obtain ⟨h32, _⟩ := hd
                skip
                replace h32 : V 32 = (.bool false) := h32
                replace hb := hb.trans (hC.mono hb.size)
                replace hk2 := blk_ext hk2 hC
                refine ⟨true, false, congrArg some h32, fun hact => ?_, fun hact => ?_⟩
                · exfalso; simp at hact
                · exact ⟨Below.refl _ _, rfl, nofr rfl⟩
              refine ⟨fun wu35 hC hd => ?_, ?_⟩
              · obtain ⟨h32, _⟩ := hd
                skip
                replace h32 : V 32 = (.bool false) := h32
                replace hb := hb.trans (hC.mono hb.size)
                replace hk2 := blk_ext hk2 hC
                refine ⟨true, false, congrArg some h32, fun hact => ?_, fun hact => ?_⟩
                · exfalso; simp at hact
                · exact ⟨Below.refl _ _, rfl, nofr rfl⟩
              refine ⟨fun wu36 hC hd => ?_, ?_⟩
              · obtain ⟨h32, h34, h35, _⟩ := hd
                skip
                skip
                skip
                replace h32 : V 32 = (.bool false) := h32
                replace h34 : V 34 = gb false (.bool false) := h34
                replace h35 : V 35 = gb false (.bool false) := h35
                replace hb := hb.trans (hC.mono hb.size)
                replace hk2 := blk_ext hk2 hC
                refine ⟨true, false, congrArg some h32, fun hact => ?_, fun hact => ?_⟩
                · exfalso; simp at hact
                · exact ⟨Below.refl _ _, rfl, nofr rfl⟩
              refine ⟨fun wu37 hC hd => ?_, ?_⟩
              · obtain ⟨h32, h36, _⟩ := hd
                skip
                skip
                replace h32 : V 32 = (.bool false) := h32
                replace h36 : V 36 = gb false (.bool false) := h36
                replace hb := hb.trans (hC.mono hb.size)
                replace hk2 := blk_ext hk2 hC
                refine ⟨true, false, congrArg some h32, fun hact => ?_, fun hact => ?_⟩
                · exfalso; simp at hact
                · exact ⟨Below.refl _ _, rfl, nofr rfl⟩
              refine ⟨fun wu38 hC hd => ?_, ?_⟩
              · obtain ⟨h32, h37, _⟩ := hd
                skip
                skip
                replace h32 : V 32 = (.bool false) := h32
                replace h37 : V 37 = gb false (.bool false) := h37
                replace hb := hb.trans (hC.mono hb.size)
                replace hk2 := blk_ext hk2 hC
                refine ⟨true, false, congrArg some h32, fun hact => ?_, fun hact => ?_⟩
                · exfalso; simp at hact
                · exact ⟨Below.refl _ _, rfl, nofr rfl⟩
              refine ⟨fun wu39 hC hd => ?_, ?_⟩
              · obtain ⟨h32, h33, h38, _⟩ := hd
                skip
                skip
                skip
                replace h32 : V 32 = (.bool false) := h32
                replace h33 : V 33 = gb false (.bool false) := h33
                replace h38 : V 38 = gb false (.bool false) := h38
                replace hb := hb.trans (hC.mono hb.size)
                replace hk2 := blk_ext hk2 hC
                refine ⟨true, false, congrArg some h32, fun hact => ?_, fun hact => ?_⟩
                · exfalso; simp at hact
                · exact ⟨Below.refl _ _, rfl, nofr rfl⟩
              refine ⟨fun wu40 hC hd => ?_, ?_⟩
              · obtain ⟨h30, h32, h39, _⟩ := hd
                skip
                skip
                skip
                replace h30 : V 30 = (.bool false) := h30
                replace h32 : V 32 = (.bool false) := h32
                replace h39 : V 39 = gb false (.bool false) := h39
                replace hb := hb.trans (hC.mono hb.size)
                replace hk2 := blk_ext hk2 hC
                refine ⟨true, false, congrArg some h30, fun hact => ?_, fun hact => ?_⟩
                · exact Runs.does (r_pick (b := false) (congrArg some h32) (congrArg some h39) rfl rfl) ⟨Below.refl _ _, rfl, nofr rfl⟩
                · exfalso; simp at hact
              refine ⟨fun wu41 hC hd => ?_, ?_⟩
              · obtain ⟨h30, h40, _⟩ := hd
                skip
                skip
                replace h30 : V 30 = (.bool false) := h30
                replace h40 : V 40 = (.bool false) := h40
                replace hb := hb.trans (hC.mono hb.size)
                replace hk2 := blk_ext hk2 hC
                exact Runs.does (r_pick (b := false) (congrArg some h30) rfl (congrArg some h40) rfl) ⟨Below.refl _ _, rfl, nofr rfl⟩
              refine ⟨fun wu42 hC hd => ?_, ?_⟩
              · obtain ⟨h32, h41, _⟩ := hd
                skip
                skip
                replace h32 : V 32 = (.bool false) := h32
                replace h41 : V 41 = (.bool false) := h41
                replace hb := hb.trans (hC.mono hb.size)
                replace hk2 := blk_ext hk2 hC
                exact Runs.does (r_move (congrArg some h41)) ⟨Below.refl _ _, rfl, nofr rfl⟩
              refine ⟨fun wu43 hC hd => ?_, ?_⟩
              · obtain ⟨h42, _⟩ := hd
                skip
                replace h42 : V 42 = (.bool false) := h42
                replace hb := hb.trans (hC.mono hb.size)
                replace hk2 := blk_ext hk2 hC
                refine ⟨true, false, congrArg some h42, fun hact => ?_, fun hact => ?_⟩
                · exact Runs.does (Runs.veq (r_move rfl) (congrArg Value.bool (show _ = false from (decide_eq_false hsp2)))) ⟨Below.refl _ _, rfl, nofr rfl⟩
                · exfalso; simp at hact
              refine ⟨fun wu44 hC hd => ?_, ?_⟩
              · obtain ⟨h42, h43, _⟩ := hd
                skip
                skip
                replace h42 : V 42 = (.bool false) := h42
                replace h43 : V 43 = (.bool false) := h43
                replace hb := hb.trans (hC.mono hb.size)
                replace hk2 := blk_ext hk2 hC
                refine ⟨true, false, congrArg some h42, fun hact => ?_, fun hact => ?_⟩
                · exact Runs.does (Runs.veq (v' := (.bool true)) (r_not (congrArg some h43)) rfl) ⟨Below.refl _ _, rfl, nofr rfl⟩
                · exfalso; simp at hact
              refine ⟨fun wu45 hC hd => ?_, ?_⟩
              · obtain ⟨h42, h44, _⟩ := hd
                skip
                skip
                replace h42 : V 42 = (.bool false) := h42
                replace h44 : V 44 = (.bool true) := h44
                replace hb := hb.trans (hC.mono hb.size)
                replace hk2 := blk_ext hk2 hC
                refine ⟨true, false, congrArg some h42, fun hact => ?_, fun hact => ?_⟩
                · exact Runs.does (r_move (congrArg some h44)) ⟨Below.refl _ _, rfl, nofr rfl⟩
                · exfalso; simp at hact
              refine ⟨fun wu46 hC hd => ?_, ?_⟩
              · obtain ⟨h45, _⟩ := hd
                skip
                replace h45 : V 45 = (.bool true) := h45
                replace hb := hb.trans (hC.mono hb.size)
                replace hk2 := blk_ext hk2 hC
                refine ⟨true, true, congrArg some h45, fun hact => ?_, fun hact => ?_⟩
                · exact Runs.does (r_move rfl) ⟨Below.refl _ _, rfl, nofr rfl⟩
                · exfalso; simp at hact
              refine ⟨fun wu47 hC hd => ?_, ?_⟩
              · obtain ⟨h45, h46, _⟩ := hd
                skip
                skip
                replace h45 : V 45 = (.bool true) := h45
                replace h46 : V 46 = (.string (twN L)) := h46
                replace hb := hb.trans (hC.mono hb.size)
                replace hk2 := blk_ext hk2 hC
                refine ⟨true, true, congrArg some h45, fun hact => ?_, fun hact => ?_⟩
                · exact Runs.does (Runs.veq (r_sne (congrArg some h46) rfl) (congrArg Value.bool (show _ = false from (by rw [tw_no hsp2]; simp)))) ⟨Below.refl _ _, rfl, nofr rfl⟩
                · exfalso; simp at hact
              refine ⟨fun wu48 hC hd => ?_, ?_⟩
              · obtain ⟨h42, h45, h47, _⟩ := hd
                skip
                skip
                skip
                replace h42 : V 42 = (.bool false) := h42
                replace h45 : V 45 = (.bool true) := h45
                replace h47 : V 47 = (.bool false) := h47
                replace hb := hb.trans (hC.mono hb.size)
                replace hk2 := blk_ext hk2 hC
                refine ⟨true, false, congrArg some h42, fun hact => ?_, fun hact => ?_⟩
                · exact Runs.does (r_pick (b := true) (congrArg some h45) (congrArg some h47) rfl rfl) ⟨Below.refl _ _, rfl, nofr rfl⟩
                · exfalso; simp at hact
              refine ⟨fun wu49 hC hd => ?_, ?_⟩
              · obtain ⟨h42, h48, _⟩ := hd
                skip
                skip
                replace h42 : V 42 = (.bool false) := h42
                replace h48 : V 48 = (.bool false) := h48
                replace hb := hb.trans (hC.mono hb.size)
                replace hk2 := blk_ext hk2 hC
                exact Runs.does (r_pick (b := false) (congrArg some h42) rfl (congrArg some h48) rfl) ⟨Below.refl _ _, rfl, nofr rfl⟩
              trivial
            · skip
              clear hf fa; intro V w12 fa he10 hp hnb hf
              have hv0 : V 0 = (.bool true) := postsHold_at hp 0 rfl
              have hv1 : V 1 = (.int .i64 o) := postsHold_at hp 1 rfl
              have hv2 : V 2 = (.bool true) := postsHold_at hp 2 rfl
              have hv3 : V 3 = (.bool false) := postsHold_at hp 3 rfl
              have hv4 : V 4 = (.bool false) := postsHold_at hp 4 rfl
              have hv5 : V 5 = (.bool true) := postsHold_at hp 5 rfl
              have hv6 : V 6 = (.bool true) := postsHold_at hp 6 rfl
              have hv7 : V 7 = (.agg #[(.string (fndP nm L).1.1), (.int .u8 ((fndP nm L).1.2.1)), (.int .u32 ((fndP nm L).1.2.2.1))]) := postsHold_at hp 7 rfl
              have hv8 : V 8 = (.slice a L.length c) := postsHold_at hp 8 rfl
              have hv9 : V 9 = (.int .i64 o) := postsHold_at hp 9 rfl
              have hv10 : V 10 = (.pointer (some ⟨ab3, (aoff3 + (o).toNat * 3), none⟩)) := postsHold_at hp 10 rfl
              have hv11 : V 11 = (.agg #[(.string (L.getD o.toNat zMExp).1), (.int .u8 ((L.getD o.toNat zMExp).2.1)), (.int .u32 ((L.getD o.toNat zMExp).2.2.1))]) := postsHold_at hp 11 rfl
              have hv12 : V 12 = (.bool false) := postsHold_at hp 12 rfl
              have hv13 : V 13 = (.bool false) := postsHold_at hp 13 rfl
              have hv14 : V 14 = (.bool false) := postsHold_at hp 14 rfl
              have hv15 : V 15 = (.bool false) := postsHold_at hp 15 rfl
              have hv16 : V 16 = (.bool true) := postsHold_at hp 16 rfl
              have hv17 : V 17 = (.bool false) := postsHold_at hp 17 rfl
              have hv18 : V 18 = (.bool false) := postsHold_at hp 18 rfl
              have hv19 : V 19 = gb false (.bool false) := postsHold_at hp 19 rfl
              have hv20 : V 20 = gb false (.bool false) := postsHold_at hp 20 rfl
              have hv21 : V 21 = gb false (.bool false) := postsHold_at hp 21 rfl
              have hv22 : V 22 = (.bool false) := postsHold_at hp 22 rfl
              have hv23 : V 23 = (.bool false) := postsHold_at hp 23 rfl
              have hv24 : V 24 = (.bool false) := postsHold_at hp 24 rfl
              have hv25 : V 25 = (.bool false) := postsHold_at hp 25 rfl
              have hv26 : V 26 = (.int .i64 ((twI [] L 0))) := postsHold_at hp 26 rfl
              have hv27 : V 27 = (.bool false) := postsHold_at hp 27 rfl
              have hv28 : V 28 = (.bool false) := postsHold_at hp 28 rfl
              have hv29 : V 29 = (.bool false) := postsHold_at hp 29 rfl
              have hv30 : V 30 = (.bool false) := postsHold_at hp 30 rfl
              have hv31 : V 31 = (.bool false) := postsHold_at hp 31 rfl
              have hv32 : V 32 = (.bool false) := postsHold_at hp 32 rfl
              have hv33 : V 33 = gb false (.bool false) := postsHold_at hp 33 rfl
              have hv34 : V 34 = gb false (.bool false) := postsHold_at hp 34 rfl
              have hv35 : V 35 = gb false (.bool false) := postsHold_at hp 35 rfl
              have hv36 : V 36 = gb false (.bool false) := postsHold_at hp 36 rfl
              have hv37 : V 37 = gb false (.bool false) := postsHold_at hp 37 rfl
              have hv38 : V 38 = gb false (.bool false) := postsHold_at hp 38 rfl
              have hv39 : V 39 = gb false (.bool false) := postsHold_at hp 39 rfl
              have hv40 : V 40 = (.bool false) := postsHold_at hp 40 rfl
              have hv41 : V 41 = (.bool false) := postsHold_at hp 41 rfl
              have hv42 : V 42 = (.bool false) := postsHold_at hp 42 rfl
              have hv43 : V 43 = (.bool false) := postsHold_at hp 43 rfl
              have hv44 : V 44 = (.bool true) := postsHold_at hp 44 rfl
              have hv45 : V 45 = (.bool true) := postsHold_at hp 45 rfl
              have hv46 : V 46 = (.string (twN L)) := postsHold_at hp 46 rfl
              have hv47 : V 47 = (.bool false) := postsHold_at hp 47 rfl
              have hv48 : V 48 = (.bool false) := postsHold_at hp 48 rfl
              have hv49 : V 49 = (.bool false) := postsHold_at hp 49 rfl
              simp only [List.take_succ_cons, List.take_zero, insAll, ins, hv0, hv1, hv2, hv3, hv4, hv5, hv6, hv7, hv8, hv9, hv10, hv11, hv12, hv13, hv14, hv15, hv16, hv17, hv18, hv19, hv20, hv21, hv22, hv23, hv24, hv25, hv26, hv27, hv28, hv29, hv30, hv31, hv32, hv33, hv34, hv35, hv36, hv37, hv38, hv39, hv40, hv41, hv42, hv43, hv44, hv45, hv46, hv47, hv48, hv49] at hf
              clear hp hnb hv0 hv1 hv2 hv3 hv4 hv5 hv6 hv7 hv8 hv9 hv10 hv11 hv12 hv13 hv14 hv15 hv16 hv17 hv18 hv19 hv20 hv21 hv22 hv23 hv24 hv25 hv26 hv27 hv28 hv29 hv30 hv31 hv32 hv33 hv34 hv35 hv36 hv37 hv38 hv39 hv40 hv41 hv42 hv43 hv44 hv45 hv46 hv47 hv48 hv49
              replace hk2 := blk_ext hk2 he10
              replace hb := hb.trans (Below.mono he10 hb.size)
              (try simp only [Exit.then, Exit.inBlock, ↓reduceIte, Nat.reduceEqDiff])
              refine hK18 _ _ ?_
              refine wp_cond_false (hf.ev rfl) ?_
              refine wp_skip ?_
              (try simp only [Exit.then, Exit.inBlock, ↓reduceIte, Nat.reduceEqDiff])
              refine hK17 _ _ ?_
              refine wp_seq_k (fun K20 hK20 => ?_)
              refine wp_region_lit ?_
              refine sqv hf (r_move rfl) rfl rfl rfl ?_; clear hf fa; intro fa hf
              refine sqv hf (r_move rfl) rfl rfl rfl ?_; clear hf fa; intro fa hf
              refine sqdt hf (d_callX (vs := [(.slice a L.length c), (.int .u8 kd)]) rfl Try.func21 (by kernel_rfl) (by kernel_rfl) (names_any a L c kd _ (RdS.ext hl hb) hlc hl9 hLs)) rfl rfl rfl ?_; clear hf fa; rintro fa v w13 ⟨hr3, he11⟩ hf; obtain ⟨ra3, rc3, rfl, hcrc3, hmrc3⟩ := Row.slice hr3
              replace hr3 := Row.rebase hr3 hb.size
              replace hk2 := blk_ext hk2 he11
              replace hb := hb.trans (Below.mono he11 hb.size)
              refine sqv hf (r_move rfl) rfl rfl rfl ?_; clear hf fa; intro fa hf
              refine sqv hf (r_move rfl) rfl rfl rfl ?_; clear hf fa; intro fa hf
              refine sqdt hf (d_callX (vs := [(.slice a L.length c), (.int .u8 kd)]) rfl Try.func22 (by kernel_rfl) (by kernel_rfl) (rnames_any a L c kd _ (RdS.ext hl hb) hlc hl9 hLs)) rfl rfl rfl ?_; clear hf fa; rintro fa v w14 ⟨hr4, he12⟩ hf; obtain ⟨ra4, rc4, rfl, hcrc4, hmrc4⟩ := Row.slice hr4
              replace hr4 := Row.rebase hr4 hb.size
              replace hk2 := blk_ext hk2 he12
              replace hr3 := Row.ext hr3 he12
              replace hb := hb.trans (Below.mono he12 hb.size)
              refine sqdt hf (d_callB (vs := [(.slice ra3 (((nmsP L kd)).length) rc3), (.slice ra4 (((nmsP L kd)).length) rc4)]) rfl Try.func20 (by kernel_rfl) (by kernel_rfl) (same_any ra3 ra4 rc3 rc4 (nmsP L kd) _ (Row.rd (by intros; rfl) hr3) (Row.rd (by intros; rfl) hr4) (by omega) (by have := Row.caps hr3; omega) (by have := Row.caps hr4; omega))) rfl rfl rfl ?_; clear hf fa; rintro fa _ w15 ⟨rfl, he13⟩ hf
              replace hk2 := blk_ext hk2 he13
              replace hr3 := Row.ext hr3 he13
              replace hr4 := Row.ext hr4 he13
              replace hb := hb.trans (Below.mono he13 hb.size)
              refine sqv hf (r_assign rfl) rfl rfl rfl ?_; clear hf fa; intro fa hf
              apply wpList_nil
              (try simp only [Exit.then, Exit.inBlock, ↓reduceIte, Nat.reduceEqDiff])
              refine hK20 _ _ ?_
              refine wp_ret ?_
              (try simp only [Exit.then, Exit.inBlock])
              refine ret1 hf rfl rfl ?_
              exact ⟨rfl, hb⟩
        · have hsp1b : decide (0 ≤ o) = false := decide_eq_false hsp1
          by_cases hsp3 : 0 ≤ twI [] L 0
          · have hsp3b : decide (0 ≤ twI [] L 0) = true := decide_eq_true hsp3
            have hy5 : (L)[((twI [] L 0)).toNat]? = some (L.getD (twI [] L 0).toNat zMExp) := getD_at zMExp (by omega)
            obtain ⟨ab4, aoff4, hat4, hlb5, hel5⟩ := RdS.at hl hy5
            refine wp_region_un (fun wq => Below w7.heap.size w7 wq) (fun w w' => Below w.heap.size w w')
              (fun V => [(fun x _ => x = (.bool false)), (fun x _ => x = (.int .i64 o)), (fun x _ => x = (.bool false)), (fun x _ => x = (.bool false)), (fun x _ => x = (.bool false)), (fun x _ => x = (.bool false)), (fun x _ => x = (.bool false)), (fun x _ => x = gb false (.bool false)), (fun x _ => x = gb false (.bool false)), (fun x _ => x = gb false (.bool false)), (fun x _ => x = gb false (.bool false)), (fun x _ => x = gb false (.bool false)), (fun x _ => x = gb false (.bool false)), (fun x _ => x = (.bool false)), (fun x _ => x = (.bool false)), (fun x _ => x = (.bool false)), (fun x _ => x = (.bool false)), (fun x _ => x = (.bool true)), (fun x _ => x = (.bool true)), (fun x _ => x = (.agg #[(.string (fndP nm L).1.1), (.int .u8 ((fndP nm L).1.2.1)), (.int .u32 ((fndP nm L).1.2.2.1))])), (fun x _ => x = (.agg #[(.string ⟨#[]⟩), (.int .u8 (0 : Int)), (.int .u32 (0 : Int))])), (fun x _ => x = (.bool false)), (fun x _ => x = (.bool false)), (fun x _ => x = (.bool false)), (fun x _ => x = (.bool false)), (fun x _ => x = (.bool true)), (fun x _ => x = (.int .i64 ((twI [] L 0)))), (fun x _ => x = (.bool true)), (fun x _ => x = (.bool false)), (fun x _ => x = (.bool false)), (fun x _ => x = (.bool false)), (fun x _ => x = (.bool true)), (fun x _ => x = (.bool true)), (fun x _ => x = (.string (twN L))), (fun x _ => x = (.slice a L.length c)), (fun x _ => x = (.int .i64 ((twI [] L 0)))), (fun x _ => x = (.pointer (some ⟨ab4, (aoff4 + ((twI [] L 0)).toNat * 3), none⟩))), (fun x _ => x = (.pointer (some ⟨ab4, (aoff4 + ((twI [] L 0)).toNat * 3), none⟩))), (fun x _ => x = (.string (L.getD (twI [] L 0).toNat zMExp).1)), (fun x _ => x = (.bool false)), (fun x _ => x = (.bool false)), (fun x _ => x = (.bool false)), (fun x _ => x = (.bool false)), (fun x _ => x = (.bool true)), (fun x _ => x = (.bool false)), (fun x _ => x = (.bool false)), (fun x _ => x = gb false (.bool false)), (fun x _ => x = gb false (.bool false)), (fun x _ => x = (.bool false)), (fun x _ => x = (.bool false))])
              []
              [[], [], [1], [0, 2], [3], [4], [4, 5], [6], [6], [6], [6, 8, 9], [6, 10], [6, 7, 11], [4, 6, 12], [4, 13], [6, 14], [15], [15, 16], [15, 17], [18], [18], [18, 19, 20], [15, 18, 21], [15, 22], [18, 23], [24], [24], [24, 26], [24, 25, 27], [24, 28], [24, 29], [30], [30, 31], [32], [32], [32], [32, 34, 35], [32, 36], [32, 37], [32, 33, 38], [30, 32, 39], [30, 40], [32, 41], [42], [42, 43], [42, 44], [45], [45, 46], [42, 45, 47], [42, 48]]
              hf (by kernel_rfl) (by kernel_rfl) (fun _ => rfl) ((Below.refl _ _).drew) (fun a b h1 h2 => h1.trans (h2.mono h1.size)) (fun _ _ h => h.size) (fun V => ⟨kept_eq, kept_eq, kept_eq, kept_eq, kept_eq, kept_eq, kept_eq, kept_eq, kept_eq, kept_eq, kept_eq, kept_eq, kept_eq, kept_eq, kept_eq, kept_eq, kept_eq, kept_eq, kept_eq, kept_eq, kept_eq, kept_eq, kept_eq, kept_eq, kept_eq, kept_eq, kept_eq, kept_eq, kept_eq, kept_eq, kept_eq, kept_eq, kept_eq, kept_eq, kept_eq, kept_eq, kept_eq, kept_eq, kept_eq, kept_eq, kept_eq, kept_eq, kept_eq, kept_eq, kept_eq, kept_eq, kept_eq, kept_eq, kept_eq, kept_eq, trivial⟩) (fun _ _ _ _ _ => rfl) ?_ ?_
            · skip
              intro V
              refine ⟨fun wu0 hC hd => ?_, ?_⟩
              · clear hd
                replace hb := hb.trans (hC.mono hb.size)
                replace hk2 := blk_ext hk2 hC
                exact Runs.does (Runs.veq (r_move rfl) (congrArg Value.bool (show _ = false from (by rw [fnd_no hO hsp1])))) ⟨Below.refl _ _, rfl, nofr rfl⟩
              refine ⟨fun wu1 hC hd => ?_, ?_⟩
              · clear hd
                replace hb := hb.trans (hC.mono hb.size)
                replace hk2 := blk_ext hk2 hC
                exact Runs.does (r_move rfl) ⟨Below.refl _ _, rfl, nofr rfl⟩
              refine ⟨fun wu2 hC hd => ?_, ?_⟩
              · obtain ⟨h1, _⟩ := hd
                skip
                replace h1 : V 1 = (.int .i64 o) := h1
                replace hb := hb.trans (hC.mono hb.size)
                replace hk2 := blk_ext hk2 hC
                exact Runs.does (Runs.veq (r_ge (congrArg some h1) rfl) (congrArg Value.bool (show _ = false from (decide_eq_false hsp1)))) ⟨Below.refl _ _, rfl, nofr rfl⟩
              refine ⟨fun wu3 hC hd => ?_, ?_⟩
              · obtain ⟨h0, h2, _⟩ := hd
                skip
                skip
                replace h0 : V 0 = (.bool false) := h0
                replace h2 : V 2 = (.bool false) := h2
                replace hb := hb.trans (hC.mono hb.size)
                replace hk2 := blk_ext hk2 hC
                exact Runs.does (Runs.veq (v' := (.bool false)) (r_bne Try.underlying4 (congrArg some h0) (congrArg some h2)) rfl) ⟨Below.refl _ _, rfl, nofr rfl⟩
              refine ⟨fun wu4 hC hd => ?_, ?_⟩
              · obtain ⟨h3, _⟩ := hd
                skip
                replace h3 : V 3 = (.bool false) := h3
                replace hb := hb.trans (hC.mono hb.size)
                replace hk2 := blk_ext hk2 hC
                exact Runs.does (r_move (congrArg some h3)) ⟨Below.refl _ _, rfl, nofr rfl⟩
              refine ⟨fun wu5 hC hd => ?_, ?_⟩
              · obtain ⟨h4, _⟩ := hd
                skip
                replace h4 : V 4 = (.bool false) := h4
                replace hb := hb.trans (hC.mono hb.size)
                replace hk2 := blk_ext hk2 hC
                refine ⟨true, false, congrArg some h4, fun hact => ?_, fun hact => ?_⟩
                · exact Runs.does (Runs.veq (r_move rfl) (congrArg Value.bool (show _ = false from (by rw [fnd_no hO hsp1])))) ⟨Below.refl _ _, rfl, nofr rfl⟩
                · exfalso; simp at hact
              refine ⟨fun wu6 hC hd => ?_, ?_⟩
              · obtain ⟨h4, h5, _⟩ := hd
                skip
                skip
                replace h4 : V 4 = (.bool false) := h4
                replace h5 : V 5 = (.bool false) := h5
                replace hb := hb.trans (hC.mono hb.size)
                replace hk2 := blk_ext hk2 hC
                refine ⟨true, false, congrArg some h4, fun hact => ?_, fun hact => ?_⟩
                · exact Runs.does (r_move (congrArg some h5)) ⟨Below.refl _ _, rfl, nofr rfl⟩
                · exfalso; simp at hact
              refine ⟨fun wu7 hC hd => ?_, ?_⟩
              · obtain ⟨h6, _⟩ := hd
                skip
                replace h6 : V 6 = (.bool false) := h6
                replace hb := hb.trans (hC.mono hb.size)
                replace hk2 := blk_ext hk2 hC
                refine ⟨true, false, congrArg some h6, fun hact => ?_, fun hact => ?_⟩
                · exfalso; simp at hact
                · exact ⟨Below.refl _ _, rfl, nofr rfl⟩
              refine ⟨fun wu8 hC hd => ?_, ?_⟩
              · obtain ⟨h6, _⟩ := hd
                skip
                replace h6 : V 6 = (.bool false) := h6
                replace hb := hb.trans (hC.mono hb.size)
                replace hk2 := blk_ext hk2 hC
                refine ⟨true, false, congrArg some h6, fun hact => ?_, fun hact => ?_⟩
                · exfalso; simp at hact
                · exact ⟨Below.refl _ _, rfl, nofr rfl⟩
              refine ⟨fun wu9 hC hd => ?_, ?_⟩
              · obtain ⟨h6, _⟩ := hd
                skip
                replace h6 : V 6 = (.bool false) := h6
                replace hb := hb.trans (hC.mono hb.size)
                replace hk2 := blk_ext hk2 hC
                refine ⟨true, false, congrArg some h6, fun hact => ?_, fun hact => ?_⟩
                · exfalso; simp at hact
                · exact ⟨Below.refl _ _, rfl, nofr rfl⟩
              refine ⟨fun wu10 hC hd => ?_, ?_⟩
              · obtain ⟨h6, h8, h9, _⟩ := hd
                skip
                skip
                skip
                replace h6 : V 6 = (.bool false) := h6
                replace h8 : V 8 = gb false (.bool false) := h8
                replace h9 : V 9 = gb false (.bool false) := h9
                replace hb := hb.trans (hC.mono hb.size)
                replace hk2 := blk_ext hk2 hC
                refine ⟨true, false, congrArg some h6, fun hact => ?_, fun hact => ?_⟩
                · exfalso; simp at hact
                · exact ⟨Below.refl _ _, rfl, nofr rfl⟩
              refine ⟨fun wu11 hC hd => ?_, ?_⟩
              · obtain ⟨h6, h10, _⟩ := hd
                skip
                skip
                replace h6 : V 6 = (.bool false) := h6
                replace h10 : V 10 = gb false (.bool false) := h10
                replace hb := hb.trans (hC.mono hb.size)
                replace hk2 := blk_ext hk2 hC
                refine ⟨true, false, congrArg some h6, fun hact => ?_, fun hact => ?_⟩
                · exfalso; simp at hact
                · exact ⟨Below.refl _ _, rfl, nofr rfl⟩
              refine ⟨fun wu12 hC hd => ?_, ?_⟩
              · obtain ⟨h6, h7, h11, _⟩ := hd
                skip
                skip
                skip
                replace h6 : V 6 = (.bool false) := h6
                replace h7 : V 7 = gb false (.bool false) := h7
                replace h11 : V 11 = gb false (.bool false) := h11
                replace hb := hb.trans (hC.mono hb.size)
                replace hk2 := blk_ext hk2 hC
                refine ⟨true, false, congrArg some h6, fun hact => ?_, fun hact => ?_⟩
                · exfalso; simp at hact
                · exact ⟨Below.refl _ _, rfl, nofr rfl⟩
              refine ⟨fun wu13 hC hd => ?_, ?_⟩
              · obtain ⟨h4, h6, h12, _⟩ := hd
                skip
                skip
                skip
                replace h4 : V 4 = (.bool false) := h4
                replace h6 : V 6 = (.bool false) := h6
                replace h12 : V 12 = gb false (.bool false) := h12
                replace hb := hb.trans (hC.mono hb.size)
                replace hk2 := blk_ext hk2 hC
                refine ⟨true, false, congrArg some h4, fun hact => ?_, fun hact => ?_⟩
                · exact Runs.does (r_pick (b := false) (congrArg some h6) (congrArg some h12) rfl rfl) ⟨Below.refl _ _, rfl, nofr rfl⟩
                · exfalso; simp at hact
              refine ⟨fun wu14 hC hd => ?_, ?_⟩
              · obtain ⟨h4, h13, _⟩ := hd
                skip
                skip
                replace h4 : V 4 = (.bool false) := h4
                replace h13 : V 13 = (.bool false) := h13
                replace hb := hb.trans (hC.mono hb.size)
                replace hk2 := blk_ext hk2 hC
                exact Runs.does (r_pick (b := false) (congrArg some h4) rfl (congrArg some h13) rfl) ⟨Below.refl _ _, rfl, nofr rfl⟩
              refine ⟨fun wu15 hC hd => ?_, ?_⟩
              · obtain ⟨h6, h14, _⟩ := hd
                skip
                skip
                replace h6 : V 6 = (.bool false) := h6
                replace h14 : V 14 = (.bool false) := h14
                replace hb := hb.trans (hC.mono hb.size)
                replace hk2 := blk_ext hk2 hC
                exact Runs.does (r_move (congrArg some h14)) ⟨Below.refl _ _, rfl, nofr rfl⟩
              refine ⟨fun wu16 hC hd => ?_, ?_⟩
              · obtain ⟨h15, _⟩ := hd
                skip
                replace h15 : V 15 = (.bool false) := h15
                replace hb := hb.trans (hC.mono hb.size)
                replace hk2 := blk_ext hk2 hC
                refine ⟨true, false, congrArg some h15, fun hact => ?_, fun hact => ?_⟩
                · exact Runs.does (Runs.veq (r_move rfl) (congrArg Value.bool (show _ = false from (by rw [fnd_no hO hsp1])))) ⟨Below.refl _ _, rfl, nofr rfl⟩
                · exfalso; simp at hact
              refine ⟨fun wu17 hC hd => ?_, ?_⟩
              · obtain ⟨h15, h16, _⟩ := hd
                skip
                skip
                replace h15 : V 15 = (.bool false) := h15
                replace h16 : V 16 = (.bool false) := h16
                replace hb := hb.trans (hC.mono hb.size)
                replace hk2 := blk_ext hk2 hC
                refine ⟨true, false, congrArg some h15, fun hact => ?_, fun hact => ?_⟩
                · exact Runs.does (Runs.veq (v' := (.bool true)) (r_not (congrArg some h16)) rfl) ⟨Below.refl _ _, rfl, nofr rfl⟩
                · exfalso; simp at hact
              refine ⟨fun wu18 hC hd => ?_, ?_⟩
              · obtain ⟨h15, h17, _⟩ := hd
                skip
                skip
                replace h15 : V 15 = (.bool false) := h15
                replace h17 : V 17 = (.bool true) := h17
                replace hb := hb.trans (hC.mono hb.size)
                replace hk2 := blk_ext hk2 hC
                refine ⟨true, false, congrArg some h15, fun hact => ?_, fun hact => ?_⟩
                · exact Runs.does (r_move (congrArg some h17)) ⟨Below.refl _ _, rfl, nofr rfl⟩
                · exfalso; simp at hact
              refine ⟨fun wu19 hC hd => ?_, ?_⟩
              · obtain ⟨h18, _⟩ := hd
                skip
                replace h18 : V 18 = (.bool true) := h18
                replace hb := hb.trans (hC.mono hb.size)
                replace hk2 := blk_ext hk2 hC
                refine ⟨true, true, congrArg some h18, fun hact => ?_, fun hact => ?_⟩
                · exact Runs.does (r_loadA (cs := [(.string (fndP nm L).1.1), (.int .u8 ((fndP nm L).1.2.1)), (.int .u32 ((fndP nm L).1.2.2.1))]) rfl Try.underlying26 rfl (by kernel_rfl) (cellsAt_blk hk2)) ⟨Below.refl _ _, rfl, nofr rfl⟩
                · exfalso; simp at hact
              refine ⟨fun wu20 hC hd => ?_, ?_⟩
              · obtain ⟨h18, _⟩ := hd
                skip
                replace h18 : V 18 = (.bool true) := h18
                replace hb := hb.trans (hC.mono hb.size)
                replace hk2 := blk_ext hk2 hC
                refine ⟨true, true, congrArg some h18, fun hact => ?_, fun hact => ?_⟩
                · exact Runs.does (r_build (vs := []) (cs := #[(.string ⟨#[]⟩), (.int .u8 (0 : Int)), (.int .u32 (0 : Int))]) rfl (fun _ => by kernel_rfl)) ⟨Below.refl _ _, rfl, nofr rfl⟩
                · exfalso; simp at hact
              refine ⟨fun wu21 hC hd => ?_, ?_⟩
              · obtain ⟨h18, h19, h20, _⟩ := hd
                skip
                skip
                skip
                replace h18 : V 18 = (.bool true) := h18
                replace h19 : V 19 = (.agg #[(.string (fndP nm L).1.1), (.int .u8 ((fndP nm L).1.2.1)), (.int .u32 ((fndP nm L).1.2.2.1))]) := h19
                replace h20 : V 20 = (.agg #[(.string ⟨#[]⟩), (.int .u8 (0 : Int)), (.int .u32 (0 : Int))]) := h20
                replace hb := hb.trans (hC.mono hb.size)
                replace hk2 := blk_ext hk2 hC
                refine ⟨true, true, congrArg some h18, fun hact => ?_, fun hact => ?_⟩
                · exact Runs.does (Runs.veq (r_ane (k := 5) (congrArg some h19) (congrArg some h20) (by kernel_rfl) (eqt_struct (xs := #[(.string (fndP nm L).1.1), (.int .u8 ((fndP nm L).1.2.1)), (.int .u32 ((fndP nm L).1.2.2.1))]) (ys := #[(.string ⟨#[]⟩), (.int .u8 (0 : Int)), (.int .u32 (0 : Int))]) Try.underlying26 (by kernel_rfl) (eqf_cons (by kernel_rfl) (fun _ => by kernel_rfl) (fun _ => by kernel_rfl) (eqt_str (a := (fndP nm L).1.1) (b := ⟨#[]⟩) Try.underlying9) (eqf_cons (by kernel_rfl) (fun _ => by kernel_rfl) (fun _ => by kernel_rfl) (eqt_int (kk := .u8) (a := ((fndP nm L).1.2.1)) (b := (0 : Int)) Try.underlying5) (eqf_one (by kernel_rfl) (fun _ => by kernel_rfl) (fun _ => by kernel_rfl) (eqt_int (kk := .u32) (a := ((fndP nm L).1.2.2.1)) (b := (0 : Int)) Try.underlying24))))) rfl) (congrArg Value.bool (show _ = false from (by simp [fnd_no hO hsp1, zMExp])))) ⟨Below.refl _ _, rfl, nofr rfl⟩
                · exfalso; simp at hact
              refine ⟨fun wu22 hC hd => ?_, ?_⟩
              · obtain ⟨h15, h18, h21, _⟩ := hd
                skip
                skip
                skip
                replace h15 : V 15 = (.bool false) := h15
                replace h18 : V 18 = (.bool true) := h18
                replace h21 : V 21 = (.bool false) := h21
                replace hb := hb.trans (hC.mono hb.size)
                replace hk2 := blk_ext hk2 hC
                refine ⟨true, false, congrArg some h15, fun hact => ?_, fun hact => ?_⟩
                · exact Runs.does (r_pick (b := true) (congrArg some h18) (congrArg some h21) rfl rfl) ⟨Below.refl _ _, rfl, nofr rfl⟩
                · exfalso; simp at hact
              refine ⟨fun wu23 hC hd => ?_, ?_⟩
              · obtain ⟨h15, h22, _⟩ := hd
                skip
                skip
                replace h15 : V 15 = (.bool false) := h15
                replace h22 : V 22 = (.bool false) := h22
                replace hb := hb.trans (hC.mono hb.size)
                replace hk2 := blk_ext hk2 hC
                exact Runs.does (r_pick (b := false) (congrArg some h15) rfl (congrArg some h22) rfl) ⟨Below.refl _ _, rfl, nofr rfl⟩
              refine ⟨fun wu24 hC hd => ?_, ?_⟩
              · obtain ⟨h18, h23, _⟩ := hd
                skip
                skip
                replace h18 : V 18 = (.bool true) := h18
                replace h23 : V 23 = (.bool false) := h23
                replace hb := hb.trans (hC.mono hb.size)
                replace hk2 := blk_ext hk2 hC
                exact Runs.does (r_move (congrArg some h23)) ⟨Below.refl _ _, rfl, nofr rfl⟩
              refine ⟨fun wu25 hC hd => ?_, ?_⟩
              · obtain ⟨h24, _⟩ := hd
                skip
                replace h24 : V 24 = (.bool false) := h24
                replace hb := hb.trans (hC.mono hb.size)
                replace hk2 := blk_ext hk2 hC
                refine ⟨true, false, congrArg some h24, fun hact => ?_, fun hact => ?_⟩
                · exact Runs.does (Runs.veq (r_move rfl) (congrArg Value.bool (show _ = true from (decide_eq_true hsp3)))) ⟨Below.refl _ _, rfl, nofr rfl⟩
                · exfalso; simp at hact
              refine ⟨fun wu26 hC hd => ?_, ?_⟩
              · obtain ⟨h24, _⟩ := hd
                skip
                replace h24 : V 24 = (.bool false) := h24
                replace hb := hb.trans (hC.mono hb.size)
                replace hk2 := blk_ext hk2 hC
                refine ⟨true, false, congrArg some h24, fun hact => ?_, fun hact => ?_⟩
                · exact Runs.does (r_move rfl) ⟨Below.refl _ _, rfl, nofr rfl⟩
                · exfalso; simp at hact
              refine ⟨fun wu27 hC hd => ?_, ?_⟩
              · obtain ⟨h24, h26, _⟩ := hd
                skip
                skip
                replace h24 : V 24 = (.bool false) := h24
                replace h26 : V 26 = (.int .i64 ((twI [] L 0))) := h26
                replace hb := hb.trans (hC.mono hb.size)
                replace hk2 := blk_ext hk2 hC
                refine ⟨true, false, congrArg some h24, fun hact => ?_, fun hact => ?_⟩
                · exact Runs.does (Runs.veq (r_ge (congrArg some h26) rfl) (congrArg Value.bool (show _ = true from (decide_eq_true hsp3)))) ⟨Below.refl _ _, rfl, nofr rfl⟩
                · exfalso; simp at hact
              refine ⟨fun wu28 hC hd => ?_, ?_⟩
              · obtain ⟨h24, h25, h27, _⟩ := hd
                skip
                skip
                skip
                replace h24 : V 24 = (.bool false) := h24
                replace h25 : V 25 = (.bool true) := h25
                replace h27 : V 27 = (.bool true) := h27
                replace hb := hb.trans (hC.mono hb.size)
                replace hk2 := blk_ext hk2 hC
                refine ⟨true, false, congrArg some h24, fun hact => ?_, fun hact => ?_⟩
                · exact Runs.does (Runs.veq (v' := (.bool false)) (r_bne Try.underlying4 (congrArg some h25) (congrArg some h27)) rfl) ⟨Below.refl _ _, rfl, nofr rfl⟩
                · exfalso; simp at hact
              refine ⟨fun wu29 hC hd => ?_, ?_⟩
              · obtain ⟨h24, h28, _⟩ := hd
                skip
                skip
                replace h24 : V 24 = (.bool false) := h24
                replace h28 : V 28 = (.bool false) := h28
                replace hb := hb.trans (hC.mono hb.size)
                replace hk2 := blk_ext hk2 hC
                exact Runs.does (r_pick (b := false) (congrArg some h24) rfl (congrArg some h28) rfl) ⟨Below.refl _ _, rfl, nofr rfl⟩
              refine ⟨fun wu30 hC hd => ?_, ?_⟩
              · obtain ⟨h24, h29, _⟩ := hd
                skip
                skip
                replace h24 : V 24 = (.bool false) := h24
                replace h29 : V 29 = (.bool false) := h29
                replace hb := hb.trans (hC.mono hb.size)
                replace hk2 := blk_ext hk2 hC
                exact Runs.does (r_move (congrArg some h29)) ⟨Below.refl _ _, rfl, nofr rfl⟩
              refine ⟨fun wu31 hC hd => ?_, ?_⟩
              · obtain ⟨h30, _⟩ := hd
                skip
                replace h30 : V 30 = (.bool false) := h30
                replace hb := hb.trans (hC.mono hb.size)
                replace hk2 := blk_ext hk2 hC
                refine ⟨true, false, congrArg some h30, fun hact => ?_, fun hact => ?_⟩
                · exact Runs.does (Runs.veq (r_move rfl) (congrArg Value.bool (show _ = true from (decide_eq_true hsp3)))) ⟨Below.refl _ _, rfl, nofr rfl⟩
                · exfalso; simp at hact
              refine ⟨fun wu32 hC hd => ?_, ?_⟩
              · obtain ⟨h30, h31, _⟩ := hd
                skip
                skip
                replace h30 : V 30 = (.bool false) := h30
                replace h31 : V 31 = (.bool true) := h31
                replace hb := hb.trans (hC.mono hb.size)
                replace hk2 := blk_ext hk2 hC
                refine ⟨true, false, congrArg some h30, fun hact => ?_, fun hact => ?_⟩
                · exact Runs.does (r_move (congrArg some h31)) ⟨Below.refl _ _, rfl, nofr rfl⟩
                · exfalso; simp at hact
              refine ⟨fun wu33 hC hd => ?_, ?_⟩
              · obtain ⟨h32, _⟩ := hd
                skip
                replace h32 : V 32 = (.bool true) := h32
                replace hb := hb.trans (hC.mono hb.size)
                replace hk2 := blk_ext hk2 hC
                refine ⟨true, true, congrArg some h32, fun hact => ?_, fun hact => ?_⟩
                · exact Runs.does (r_move rfl) ⟨Below.refl _ _, rfl, nofr rfl⟩
                · exfalso; simp at hact
              refine ⟨fun wu34 hC hd => ?_, ?_⟩
              · obtain ⟨h32, _⟩ := hd
                skip
                replace h32 : V 32 = (.bool true) := h32
                replace hb := hb.trans (hC.mono hb.size)
                replace hk2 := blk_ext hk2 hC
                refine ⟨true, true, congrArg some h32, fun hact => ?_, fun hact => ?_⟩
                · exact Runs.does (r_move rfl) ⟨Below.refl _ _, rfl, nofr rfl⟩
                · exfalso; simp at hact
              refine ⟨fun wu35 hC hd => ?_, ?_⟩
              · obtain ⟨h32, _⟩ := hd
                skip
                replace h32 : V 32 = (.bool true) := h32
                replace hb := hb.trans (hC.mono hb.size)
                replace hk2 := blk_ext hk2 hC
                refine ⟨true, true, congrArg some h32, fun hact => ?_, fun hact => ?_⟩
                · exact Runs.does (r_move rfl) ⟨Below.refl _ _, rfl, nofr rfl⟩
                · exfalso; simp at hact
              refine ⟨fun wu36 hC hd => ?_, ?_⟩
              · obtain ⟨h32, h34, h35, _⟩ := hd
                skip
                skip
                skip
                replace h32 : V 32 = (.bool true) := h32
                replace h34 : V 34 = (.slice a L.length c) := h34
                replace h35 : V 35 = (.int .i64 ((twI [] L 0))) := h35
                replace hb := hb.trans (hC.mono hb.size)
                replace hk2 := blk_ext hk2 hC
                refine ⟨true, true, congrArg some h32, fun hact => ?_, fun hact => ?_⟩
                · exact Runs.does (r_ixa (sz := 3) (j := ((twI [] L 0)).toNat) (evAt (congrArg some h34) hat4) (congrArg some h35) Try.underlying22 (by kernel_rfl) (by omega) (by omega) rfl) ⟨Below.refl _ _, rfl, nofr rfl⟩
                · exfalso; simp at hact
              refine ⟨fun wu37 hC hd => ?_, ?_⟩
              · obtain ⟨h32, h36, _⟩ := hd
                skip
                skip
                replace h32 : V 32 = (.bool true) := h32
                replace h36 : V 36 = (.pointer (some ⟨ab4, (aoff4 + ((twI [] L 0)).toNat * 3), none⟩)) := h36
                replace hb := hb.trans (hC.mono hb.size)
                replace hk2 := blk_ext hk2 hC
                refine ⟨true, true, congrArg some h32, fun hact => ?_, fun hact => ?_⟩
                · exact Runs.does (r_fa (congrArg some h36) Try.underlying26 (f := 0) (q := (aoff4 + ((twI [] L 0)).toNat * 3)) rfl (by kernel_rfl) rfl) ⟨Below.refl _ _, rfl, nofr rfl⟩
                · exfalso; simp at hact
              refine ⟨fun wu38 hC hd => ?_, ?_⟩
              · obtain ⟨h32, h37, _⟩ := hd
                skip
                skip
                replace h32 : V 32 = (.bool true) := h32
                replace h37 : V 37 = (.pointer (some ⟨ab4, (aoff4 + ((twI [] L 0)).toNat * 3), none⟩)) := h37
                replace hb := hb.trans (hC.mono hb.size)
                replace hk2 := blk_ext hk2 hC
                refine ⟨true, true, congrArg some h32, fun hact => ?_, fun hact => ?_⟩
                · exact Runs.does (r_load (v := (.string (L.getD (twI [] L 0).toNat zMExp).1)) (congrArg some h37) Try.underlying9 rfl (cellsAt_cell (cellsAt_below hel5 hb hlb5) (i := 0) rfl rfl)) ⟨Below.refl _ _, rfl, nofr rfl⟩
                · exfalso; simp at hact
              refine ⟨fun wu39 hC hd => ?_, ?_⟩
              · obtain ⟨h32, h33, h38, _⟩ := hd
                skip
                skip
                skip
                replace h32 : V 32 = (.bool true) := h32
                replace h33 : V 33 = (.string (twN L)) := h33
                replace h38 : V 38 = (.string (L.getD (twI [] L 0).toNat zMExp).1) := h38
                replace hb := hb.trans (hC.mono hb.size)
                replace hk2 := blk_ext hk2 hC
                refine ⟨true, true, congrArg some h32, fun hact => ?_, fun hact => ?_⟩
                · exact Runs.does (Runs.veq (r_sne (congrArg some h33) (congrArg some h38)) (congrArg Value.bool (show _ = false from (by rw [tw_yes hsp3]; simp)))) ⟨Below.refl _ _, rfl, nofr rfl⟩
                · exfalso; simp at hact
              refine ⟨fun wu40 hC hd => ?_, ?_⟩
              · obtain ⟨h30, h32, h39, _⟩ := hd
                skip
                skip
                skip
                replace h30 : V 30 = (.bool false) := h30
                replace h32 : V 32 = (.bool true) := h32
                replace h39 : V 39 = (.bool false) := h39
                replace hb := hb.trans (hC.mono hb.size)
                replace hk2 := blk_ext hk2 hC
                refine ⟨true, false, congrArg some h30, fun hact => ?_, fun hact => ?_⟩
                · exact Runs.does (r_pick (b := true) (congrArg some h32) (congrArg some h39) rfl rfl) ⟨Below.refl _ _, rfl, nofr rfl⟩
                · exfalso; simp at hact
              refine ⟨fun wu41 hC hd => ?_, ?_⟩
              · obtain ⟨h30, h40, _⟩ := hd
                skip
                skip
                replace h30 : V 30 = (.bool false) := h30
                replace h40 : V 40 = (.bool false) := h40
                replace hb := hb.trans (hC.mono hb.size)
                replace hk2 := blk_ext hk2 hC
                exact Runs.does (r_pick (b := false) (congrArg some h30) rfl (congrArg some h40) rfl) ⟨Below.refl _ _, rfl, nofr rfl⟩
              refine ⟨fun wu42 hC hd => ?_, ?_⟩
              · obtain ⟨h32, h41, _⟩ := hd
                skip
                skip
                replace h32 : V 32 = (.bool true) := h32
                replace h41 : V 41 = (.bool false) := h41
                replace hb := hb.trans (hC.mono hb.size)
                replace hk2 := blk_ext hk2 hC
                exact Runs.does (r_move (congrArg some h41)) ⟨Below.refl _ _, rfl, nofr rfl⟩
              refine ⟨fun wu43 hC hd => ?_, ?_⟩
              · obtain ⟨h42, _⟩ := hd
                skip
                replace h42 : V 42 = (.bool false) := h42
                replace hb := hb.trans (hC.mono hb.size)
                replace hk2 := blk_ext hk2 hC
                refine ⟨true, false, congrArg some h42, fun hact => ?_, fun hact => ?_⟩
                · exact Runs.does (Runs.veq (r_move rfl) (congrArg Value.bool (show _ = true from (decide_eq_true hsp3)))) ⟨Below.refl _ _, rfl, nofr rfl⟩
                · exfalso; simp at hact
              refine ⟨fun wu44 hC hd => ?_, ?_⟩
              · obtain ⟨h42, h43, _⟩ := hd
                skip
                skip
                replace h42 : V 42 = (.bool false) := h42
                replace h43 : V 43 = (.bool true) := h43
                replace hb := hb.trans (hC.mono hb.size)
                replace hk2 := blk_ext hk2 hC
                refine ⟨true, false, congrArg some h42, fun hact => ?_, fun hact => ?_⟩
                · exact Runs.does (Runs.veq (v' := (.bool false)) (r_not (congrArg some h43)) rfl) ⟨Below.refl _ _, rfl, nofr rfl⟩
                · exfalso; simp at hact
              refine ⟨fun wu45 hC hd => ?_, ?_⟩
              · obtain ⟨h42, h44, _⟩ := hd
                skip
                skip
                replace h42 : V 42 = (.bool false) := h42
                replace h44 : V 44 = (.bool false) := h44
                replace hb := hb.trans (hC.mono hb.size)
                replace hk2 := blk_ext hk2 hC
                refine ⟨true, false, congrArg some h42, fun hact => ?_, fun hact => ?_⟩
                · exact Runs.does (r_move (congrArg some h44)) ⟨Below.refl _ _, rfl, nofr rfl⟩
                · exfalso; simp at hact
              refine ⟨fun wu46 hC hd => ?_, ?_⟩
              · obtain ⟨h45, _⟩ := hd
                skip
                replace h45 : V 45 = (.bool false) := h45
                replace hb := hb.trans (hC.mono hb.size)
                replace hk2 := blk_ext hk2 hC
                refine ⟨true, false, congrArg some h45, fun hact => ?_, fun hact => ?_⟩
                · exfalso; simp at hact
                · exact ⟨Below.refl _ _, rfl, nofr rfl⟩
              refine ⟨fun wu47 hC hd => ?_, ?_⟩
              · obtain ⟨h45, h46, _⟩ := hd
                skip
                skip
                replace h45 : V 45 = (.bool false) := h45
                replace h46 : V 46 = gb false (.bool false) := h46
                replace hb := hb.trans (hC.mono hb.size)
                replace hk2 := blk_ext hk2 hC
                refine ⟨true, false, congrArg some h45, fun hact => ?_, fun hact => ?_⟩
                · exfalso; simp at hact
                · exact ⟨Below.refl _ _, rfl, nofr rfl⟩
              refine ⟨fun wu48 hC hd => ?_, ?_⟩
              · obtain ⟨h42, h45, h47, _⟩ := hd
                skip
                skip
                skip
                replace h42 : V 42 = (.bool false) := h42
                replace h45 : V 45 = (.bool false) := h45
                replace h47 : V 47 = gb false (.bool false) := h47
                replace hb := hb.trans (hC.mono hb.size)
                replace hk2 := blk_ext hk2 hC
                refine ⟨true, false, congrArg some h42, fun hact => ?_, fun hact => ?_⟩
                · exact Runs.does (r_pick (b := false) (congrArg some h45) (congrArg some h47) rfl rfl) ⟨Below.refl _ _, rfl, nofr rfl⟩
                · exfalso; simp at hact
              refine ⟨fun wu49 hC hd => ?_, ?_⟩
              · obtain ⟨h42, h48, _⟩ := hd
                skip
                skip
                replace h42 : V 42 = (.bool false) := h42
                replace h48 : V 48 = (.bool false) := h48
                replace hb := hb.trans (hC.mono hb.size)
                replace hk2 := blk_ext hk2 hC
                exact Runs.does (r_pick (b := false) (congrArg some h42) rfl (congrArg some h48) rfl) ⟨Below.refl _ _, rfl, nofr rfl⟩
              trivial
            · skip
              clear hf fa; intro V w16 fa he14 hp hnb hf
              have hv0 : V 0 = (.bool false) := postsHold_at hp 0 rfl
              have hv1 : V 1 = (.int .i64 o) := postsHold_at hp 1 rfl
              have hv2 : V 2 = (.bool false) := postsHold_at hp 2 rfl
              have hv3 : V 3 = (.bool false) := postsHold_at hp 3 rfl
              have hv4 : V 4 = (.bool false) := postsHold_at hp 4 rfl
              have hv5 : V 5 = (.bool false) := postsHold_at hp 5 rfl
              have hv6 : V 6 = (.bool false) := postsHold_at hp 6 rfl
              have hv7 : V 7 = gb false (.bool false) := postsHold_at hp 7 rfl
              have hv8 : V 8 = gb false (.bool false) := postsHold_at hp 8 rfl
              have hv9 : V 9 = gb false (.bool false) := postsHold_at hp 9 rfl
              have hv10 : V 10 = gb false (.bool false) := postsHold_at hp 10 rfl
              have hv11 : V 11 = gb false (.bool false) := postsHold_at hp 11 rfl
              have hv12 : V 12 = gb false (.bool false) := postsHold_at hp 12 rfl
              have hv13 : V 13 = (.bool false) := postsHold_at hp 13 rfl
              have hv14 : V 14 = (.bool false) := postsHold_at hp 14 rfl
              have hv15 : V 15 = (.bool false) := postsHold_at hp 15 rfl
              have hv16 : V 16 = (.bool false) := postsHold_at hp 16 rfl
              have hv17 : V 17 = (.bool true) := postsHold_at hp 17 rfl
              have hv18 : V 18 = (.bool true) := postsHold_at hp 18 rfl
              have hv19 : V 19 = (.agg #[(.string (fndP nm L).1.1), (.int .u8 ((fndP nm L).1.2.1)), (.int .u32 ((fndP nm L).1.2.2.1))]) := postsHold_at hp 19 rfl
              have hv20 : V 20 = (.agg #[(.string ⟨#[]⟩), (.int .u8 (0 : Int)), (.int .u32 (0 : Int))]) := postsHold_at hp 20 rfl
              have hv21 : V 21 = (.bool false) := postsHold_at hp 21 rfl
              have hv22 : V 22 = (.bool false) := postsHold_at hp 22 rfl
              have hv23 : V 23 = (.bool false) := postsHold_at hp 23 rfl
              have hv24 : V 24 = (.bool false) := postsHold_at hp 24 rfl
              have hv25 : V 25 = (.bool true) := postsHold_at hp 25 rfl
              have hv26 : V 26 = (.int .i64 ((twI [] L 0))) := postsHold_at hp 26 rfl
              have hv27 : V 27 = (.bool true) := postsHold_at hp 27 rfl
              have hv28 : V 28 = (.bool false) := postsHold_at hp 28 rfl
              have hv29 : V 29 = (.bool false) := postsHold_at hp 29 rfl
              have hv30 : V 30 = (.bool false) := postsHold_at hp 30 rfl
              have hv31 : V 31 = (.bool true) := postsHold_at hp 31 rfl
              have hv32 : V 32 = (.bool true) := postsHold_at hp 32 rfl
              have hv33 : V 33 = (.string (twN L)) := postsHold_at hp 33 rfl
              have hv34 : V 34 = (.slice a L.length c) := postsHold_at hp 34 rfl
              have hv35 : V 35 = (.int .i64 ((twI [] L 0))) := postsHold_at hp 35 rfl
              have hv36 : V 36 = (.pointer (some ⟨ab4, (aoff4 + ((twI [] L 0)).toNat * 3), none⟩)) := postsHold_at hp 36 rfl
              have hv37 : V 37 = (.pointer (some ⟨ab4, (aoff4 + ((twI [] L 0)).toNat * 3), none⟩)) := postsHold_at hp 37 rfl
              have hv38 : V 38 = (.string (L.getD (twI [] L 0).toNat zMExp).1) := postsHold_at hp 38 rfl
              have hv39 : V 39 = (.bool false) := postsHold_at hp 39 rfl
              have hv40 : V 40 = (.bool false) := postsHold_at hp 40 rfl
              have hv41 : V 41 = (.bool false) := postsHold_at hp 41 rfl
              have hv42 : V 42 = (.bool false) := postsHold_at hp 42 rfl
              have hv43 : V 43 = (.bool true) := postsHold_at hp 43 rfl
              have hv44 : V 44 = (.bool false) := postsHold_at hp 44 rfl
              have hv45 : V 45 = (.bool false) := postsHold_at hp 45 rfl
              have hv46 : V 46 = gb false (.bool false) := postsHold_at hp 46 rfl
              have hv47 : V 47 = gb false (.bool false) := postsHold_at hp 47 rfl
              have hv48 : V 48 = (.bool false) := postsHold_at hp 48 rfl
              have hv49 : V 49 = (.bool false) := postsHold_at hp 49 rfl
              simp only [List.take_succ_cons, List.take_zero, insAll, ins, hv0, hv1, hv2, hv3, hv4, hv5, hv6, hv7, hv8, hv9, hv10, hv11, hv12, hv13, hv14, hv15, hv16, hv17, hv18, hv19, hv20, hv21, hv22, hv23, hv24, hv25, hv26, hv27, hv28, hv29, hv30, hv31, hv32, hv33, hv34, hv35, hv36, hv37, hv38, hv39, hv40, hv41, hv42, hv43, hv44, hv45, hv46, hv47, hv48, hv49] at hf
              clear hp hnb hv0 hv1 hv2 hv3 hv4 hv5 hv6 hv7 hv8 hv9 hv10 hv11 hv12 hv13 hv14 hv15 hv16 hv17 hv18 hv19 hv20 hv21 hv22 hv23 hv24 hv25 hv26 hv27 hv28 hv29 hv30 hv31 hv32 hv33 hv34 hv35 hv36 hv37 hv38 hv39 hv40 hv41 hv42 hv43 hv44 hv45 hv46 hv47 hv48 hv49
              replace hk2 := blk_ext hk2 he14
              replace hb := hb.trans (Below.mono he14 hb.size)
              (try simp only [Exit.then, Exit.inBlock, ↓reduceIte, Nat.reduceEqDiff])
              refine hK18 _ _ ?_
              refine wp_cond_false (hf.ev rfl) ?_
              refine wp_skip ?_
              (try simp only [Exit.then, Exit.inBlock, ↓reduceIte, Nat.reduceEqDiff])
              refine hK17 _ _ ?_
              refine wp_seq_k (fun K21 hK21 => ?_)
              refine wp_region_lit ?_
              refine sqv hf (r_move rfl) rfl rfl rfl ?_; clear hf fa; intro fa hf
              refine sqv hf (r_move rfl) rfl rfl rfl ?_; clear hf fa; intro fa hf
              refine sqdt hf (d_callX (vs := [(.slice a L.length c), (.int .u8 kd)]) rfl Try.func21 (by kernel_rfl) (by kernel_rfl) (names_any a L c kd _ (RdS.ext hl hb) hlc hl9 hLs)) rfl rfl rfl ?_; clear hf fa; rintro fa v w17 ⟨hr5, he15⟩ hf; obtain ⟨ra5, rc5, rfl, hcrc5, hmrc5⟩ := Row.slice hr5
              replace hr5 := Row.rebase hr5 hb.size
              replace hk2 := blk_ext hk2 he15
              replace hb := hb.trans (Below.mono he15 hb.size)
              refine sqv hf (r_move rfl) rfl rfl rfl ?_; clear hf fa; intro fa hf
              refine sqv hf (r_move rfl) rfl rfl rfl ?_; clear hf fa; intro fa hf
              refine sqdt hf (d_callX (vs := [(.slice a L.length c), (.int .u8 kd)]) rfl Try.func22 (by kernel_rfl) (by kernel_rfl) (rnames_any a L c kd _ (RdS.ext hl hb) hlc hl9 hLs)) rfl rfl rfl ?_; clear hf fa; rintro fa v w18 ⟨hr6, he16⟩ hf; obtain ⟨ra6, rc6, rfl, hcrc6, hmrc6⟩ := Row.slice hr6
              replace hr6 := Row.rebase hr6 hb.size
              replace hk2 := blk_ext hk2 he16
              replace hr5 := Row.ext hr5 he16
              replace hb := hb.trans (Below.mono he16 hb.size)
              refine sqdt hf (d_callB (vs := [(.slice ra5 (((nmsP L kd)).length) rc5), (.slice ra6 (((nmsP L kd)).length) rc6)]) rfl Try.func20 (by kernel_rfl) (by kernel_rfl) (same_any ra5 ra6 rc5 rc6 (nmsP L kd) _ (Row.rd (by intros; rfl) hr5) (Row.rd (by intros; rfl) hr6) (by omega) (by have := Row.caps hr5; omega) (by have := Row.caps hr6; omega))) rfl rfl rfl ?_; clear hf fa; rintro fa _ w19 ⟨rfl, he17⟩ hf
              replace hk2 := blk_ext hk2 he17
              replace hr5 := Row.ext hr5 he17
              replace hr6 := Row.ext hr6 he17
              replace hb := hb.trans (Below.mono he17 hb.size)
              refine sqv hf (r_assign rfl) rfl rfl rfl ?_; clear hf fa; intro fa hf
              apply wpList_nil
              (try simp only [Exit.then, Exit.inBlock, ↓reduceIte, Nat.reduceEqDiff])
              refine hK21 _ _ ?_
              refine wp_ret ?_
              (try simp only [Exit.then, Exit.inBlock])
              refine ret1 hf rfl rfl ?_
              exact ⟨rfl, hb⟩
          · have hsp3b : decide (0 ≤ twI [] L 0) = false := decide_eq_false hsp3
            refine wp_region_un (fun wq => Below w7.heap.size w7 wq) (fun w w' => Below w.heap.size w w')
              (fun V => [(fun x _ => x = (.bool false)), (fun x _ => x = (.int .i64 o)), (fun x _ => x = (.bool false)), (fun x _ => x = (.bool false)), (fun x _ => x = (.bool false)), (fun x _ => x = (.bool false)), (fun x _ => x = (.bool false)), (fun x _ => x = gb false (.bool false)), (fun x _ => x = gb false (.bool false)), (fun x _ => x = gb false (.bool false)), (fun x _ => x = gb false (.bool false)), (fun x _ => x = gb false (.bool false)), (fun x _ => x = gb false (.bool false)), (fun x _ => x = (.bool false)), (fun x _ => x = (.bool false)), (fun x _ => x = (.bool false)), (fun x _ => x = (.bool false)), (fun x _ => x = (.bool true)), (fun x _ => x = (.bool true)), (fun x _ => x = (.agg #[(.string (fndP nm L).1.1), (.int .u8 ((fndP nm L).1.2.1)), (.int .u32 ((fndP nm L).1.2.2.1))])), (fun x _ => x = (.agg #[(.string ⟨#[]⟩), (.int .u8 (0 : Int)), (.int .u32 (0 : Int))])), (fun x _ => x = (.bool false)), (fun x _ => x = (.bool false)), (fun x _ => x = (.bool false)), (fun x _ => x = (.bool false)), (fun x _ => x = (.bool false)), (fun x _ => x = (.int .i64 ((twI [] L 0)))), (fun x _ => x = (.bool false)), (fun x _ => x = (.bool false)), (fun x _ => x = (.bool false)), (fun x _ => x = (.bool false)), (fun x _ => x = (.bool false)), (fun x _ => x = (.bool false)), (fun x _ => x = gb false (.bool false)), (fun x _ => x = gb false (.bool false)), (fun x _ => x = gb false (.bool false)), (fun x _ => x = gb false (.bool false)), (fun x _ => x = gb false (.bool false)), (fun x _ => x = gb false (.bool false)), (fun x _ => x = gb false (.bool false)), (fun x _ => x = (.bool false)), (fun x _ => x = (.bool false)), (fun x _ => x = (.bool false)), (fun x _ => x = (.bool false)), (fun x _ => x = (.bool true)), (fun x _ => x = (.bool true)), (fun x _ => x = (.string (twN L))), (fun x _ => x = (.bool false)), (fun x _ => x = (.bool false)), (fun x _ => x = (.bool false))])
              []
              [[], [], [1], [0, 2], [3], [4], [4, 5], [6], [6], [6], [6, 8, 9], [6, 10], [6, 7, 11], [4, 6, 12], [4, 13], [6, 14], [15], [15, 16], [15, 17], [18], [18], [18, 19, 20], [15, 18, 21], [15, 22], [18, 23], [24], [24], [24, 26], [24, 25, 27], [24, 28], [24, 29], [30], [30, 31], [32], [32], [32], [32, 34, 35], [32, 36], [32, 37], [32, 33, 38], [30, 32, 39], [30, 40], [32, 41], [42], [42, 43], [42, 44], [45], [45, 46], [42, 45, 47], [42, 48]]
              hf (by kernel_rfl) (by kernel_rfl) (fun _ => rfl) ((Below.refl _ _).drew) (fun a b h1 h2 => h1.trans (h2.mono h1.size)) (fun _ _ h => h.size) (fun V => ⟨kept_eq, kept_eq, kept_eq, kept_eq, kept_eq, kept_eq, kept_eq, kept_eq, kept_eq, kept_eq, kept_eq, kept_eq, kept_eq, kept_eq, kept_eq, kept_eq, kept_eq, kept_eq, kept_eq, kept_eq, kept_eq, kept_eq, kept_eq, kept_eq, kept_eq, kept_eq, kept_eq, kept_eq, kept_eq, kept_eq, kept_eq, kept_eq, kept_eq, kept_eq, kept_eq, kept_eq, kept_eq, kept_eq, kept_eq, kept_eq, kept_eq, kept_eq, kept_eq, kept_eq, kept_eq, kept_eq, kept_eq, kept_eq, kept_eq, kept_eq, trivial⟩) (fun _ _ _ _ _ => rfl) ?_ ?_
            · skip
              intro V
              refine ⟨fun wu0 hC hd => ?_, ?_⟩
              · clear hd
                replace hb := hb.trans (hC.mono hb.size)
                replace hk2 := blk_ext hk2 hC
                exact Runs.does (Runs.veq (r_move rfl) (congrArg Value.bool (show _ = false from (by rw [fnd_no hO hsp1])))) ⟨Below.refl _ _, rfl, nofr rfl⟩
              refine ⟨fun wu1 hC hd => ?_, ?_⟩
              · clear hd
                replace hb := hb.trans (hC.mono hb.size)
                replace hk2 := blk_ext hk2 hC
                exact Runs.does (r_move rfl) ⟨Below.refl _ _, rfl, nofr rfl⟩
              refine ⟨fun wu2 hC hd => ?_, ?_⟩
              · obtain ⟨h1, _⟩ := hd
                skip
                replace h1 : V 1 = (.int .i64 o) := h1
                replace hb := hb.trans (hC.mono hb.size)
                replace hk2 := blk_ext hk2 hC
                exact Runs.does (Runs.veq (r_ge (congrArg some h1) rfl) (congrArg Value.bool (show _ = false from (decide_eq_false hsp1)))) ⟨Below.refl _ _, rfl, nofr rfl⟩
              refine ⟨fun wu3 hC hd => ?_, ?_⟩
              · obtain ⟨h0, h2, _⟩ := hd
                skip
                skip
                replace h0 : V 0 = (.bool false) := h0
                replace h2 : V 2 = (.bool false) := h2
                replace hb := hb.trans (hC.mono hb.size)
                replace hk2 := blk_ext hk2 hC
                exact Runs.does (Runs.veq (v' := (.bool false)) (r_bne Try.underlying4 (congrArg some h0) (congrArg some h2)) rfl) ⟨Below.refl _ _, rfl, nofr rfl⟩
              refine ⟨fun wu4 hC hd => ?_, ?_⟩
              · obtain ⟨h3, _⟩ := hd
                skip
                replace h3 : V 3 = (.bool false) := h3
                replace hb := hb.trans (hC.mono hb.size)
                replace hk2 := blk_ext hk2 hC
                exact Runs.does (r_move (congrArg some h3)) ⟨Below.refl _ _, rfl, nofr rfl⟩
              refine ⟨fun wu5 hC hd => ?_, ?_⟩
              · obtain ⟨h4, _⟩ := hd
                skip
                replace h4 : V 4 = (.bool false) := h4
                replace hb := hb.trans (hC.mono hb.size)
                replace hk2 := blk_ext hk2 hC
                refine ⟨true, false, congrArg some h4, fun hact => ?_, fun hact => ?_⟩
                · exact Runs.does (Runs.veq (r_move rfl) (congrArg Value.bool (show _ = false from (by rw [fnd_no hO hsp1])))) ⟨Below.refl _ _, rfl, nofr rfl⟩
                · exfalso; simp at hact
              refine ⟨fun wu6 hC hd => ?_, ?_⟩
              · obtain ⟨h4, h5, _⟩ := hd
                skip
                skip
                replace h4 : V 4 = (.bool false) := h4
                replace h5 : V 5 = (.bool false) := h5
                replace hb := hb.trans (hC.mono hb.size)
                replace hk2 := blk_ext hk2 hC
                refine ⟨true, false, congrArg some h4, fun hact => ?_, fun hact => ?_⟩
                · exact Runs.does (r_move (congrArg some h5)) ⟨Below.refl _ _, rfl, nofr rfl⟩
                · exfalso; simp at hact
              refine ⟨fun wu7 hC hd => ?_, ?_⟩
              · obtain ⟨h6, _⟩ := hd
                skip
                replace h6 : V 6 = (.bool false) := h6
                replace hb := hb.trans (hC.mono hb.size)
                replace hk2 := blk_ext hk2 hC
                refine ⟨true, false, congrArg some h6, fun hact => ?_, fun hact => ?_⟩
                · exfalso; simp at hact
                · exact ⟨Below.refl _ _, rfl, nofr rfl⟩
              refine ⟨fun wu8 hC hd => ?_, ?_⟩
              · obtain ⟨h6, _⟩ := hd
                skip
                replace h6 : V 6 = (.bool false) := h6
                replace hb := hb.trans (hC.mono hb.size)
                replace hk2 := blk_ext hk2 hC
                refine ⟨true, false, congrArg some h6, fun hact => ?_, fun hact => ?_⟩
                · exfalso; simp at hact
                · exact ⟨Below.refl _ _, rfl, nofr rfl⟩
              refine ⟨fun wu9 hC hd => ?_, ?_⟩
              · obtain ⟨h6, _⟩ := hd
                skip
                replace h6 : V 6 = (.bool false) := h6
                replace hb := hb.trans (hC.mono hb.size)
                replace hk2 := blk_ext hk2 hC
                refine ⟨true, false, congrArg some h6, fun hact => ?_, fun hact => ?_⟩
                · exfalso; simp at hact
                · exact ⟨Below.refl _ _, rfl, nofr rfl⟩
              refine ⟨fun wu10 hC hd => ?_, ?_⟩
              · obtain ⟨h6, h8, h9, _⟩ := hd
                skip
                skip
                skip
                replace h6 : V 6 = (.bool false) := h6
                replace h8 : V 8 = gb false (.bool false) := h8
                replace h9 : V 9 = gb false (.bool false) := h9
                replace hb := hb.trans (hC.mono hb.size)
                replace hk2 := blk_ext hk2 hC
                refine ⟨true, false, congrArg some h6, fun hact => ?_, fun hact => ?_⟩
                · exfalso; simp at hact
                · exact ⟨Below.refl _ _, rfl, nofr rfl⟩
              refine ⟨fun wu11 hC hd => ?_, ?_⟩
              · obtain ⟨h6, h10, _⟩ := hd
                skip
                skip
                replace h6 : V 6 = (.bool false) := h6
                replace h10 : V 10 = gb false (.bool false) := h10
                replace hb := hb.trans (hC.mono hb.size)
                replace hk2 := blk_ext hk2 hC
                refine ⟨true, false, congrArg some h6, fun hact => ?_, fun hact => ?_⟩
                · exfalso; simp at hact
                · exact ⟨Below.refl _ _, rfl, nofr rfl⟩
              refine ⟨fun wu12 hC hd => ?_, ?_⟩
              · obtain ⟨h6, h7, h11, _⟩ := hd
                skip
                skip
                skip
                replace h6 : V 6 = (.bool false) := h6
                replace h7 : V 7 = gb false (.bool false) := h7
                replace h11 : V 11 = gb false (.bool false) := h11
                replace hb := hb.trans (hC.mono hb.size)
                replace hk2 := blk_ext hk2 hC
                refine ⟨true, false, congrArg some h6, fun hact => ?_, fun hact => ?_⟩
                · exfalso; simp at hact
                · exact ⟨Below.refl _ _, rfl, nofr rfl⟩
              refine ⟨fun wu13 hC hd => ?_, ?_⟩
              · obtain ⟨h4, h6, h12, _⟩ := hd
                skip
                skip
                skip
                replace h4 : V 4 = (.bool false) := h4
                replace h6 : V 6 = (.bool false) := h6
                replace h12 : V 12 = gb false (.bool false) := h12
                replace hb := hb.trans (hC.mono hb.size)
                replace hk2 := blk_ext hk2 hC
                refine ⟨true, false, congrArg some h4, fun hact => ?_, fun hact => ?_⟩
                · exact Runs.does (r_pick (b := false) (congrArg some h6) (congrArg some h12) rfl rfl) ⟨Below.refl _ _, rfl, nofr rfl⟩
                · exfalso; simp at hact
              refine ⟨fun wu14 hC hd => ?_, ?_⟩
              · obtain ⟨h4, h13, _⟩ := hd
                skip
                skip
                replace h4 : V 4 = (.bool false) := h4
                replace h13 : V 13 = (.bool false) := h13
                replace hb := hb.trans (hC.mono hb.size)
                replace hk2 := blk_ext hk2 hC
                exact Runs.does (r_pick (b := false) (congrArg some h4) rfl (congrArg some h13) rfl) ⟨Below.refl _ _, rfl, nofr rfl⟩
              refine ⟨fun wu15 hC hd => ?_, ?_⟩
              · obtain ⟨h6, h14, _⟩ := hd
                skip
                skip
                replace h6 : V 6 = (.bool false) := h6
                replace h14 : V 14 = (.bool false) := h14
                replace hb := hb.trans (hC.mono hb.size)
                replace hk2 := blk_ext hk2 hC
                exact Runs.does (r_move (congrArg some h14)) ⟨Below.refl _ _, rfl, nofr rfl⟩
              refine ⟨fun wu16 hC hd => ?_, ?_⟩
              · obtain ⟨h15, _⟩ := hd
                skip
                replace h15 : V 15 = (.bool false) := h15
                replace hb := hb.trans (hC.mono hb.size)
                replace hk2 := blk_ext hk2 hC
                refine ⟨true, false, congrArg some h15, fun hact => ?_, fun hact => ?_⟩
                · exact Runs.does (Runs.veq (r_move rfl) (congrArg Value.bool (show _ = false from (by rw [fnd_no hO hsp1])))) ⟨Below.refl _ _, rfl, nofr rfl⟩
                · exfalso; simp at hact
              refine ⟨fun wu17 hC hd => ?_, ?_⟩
              · obtain ⟨h15, h16, _⟩ := hd
                skip
                skip
                replace h15 : V 15 = (.bool false) := h15
                replace h16 : V 16 = (.bool false) := h16
                replace hb := hb.trans (hC.mono hb.size)
                replace hk2 := blk_ext hk2 hC
                refine ⟨true, false, congrArg some h15, fun hact => ?_, fun hact => ?_⟩
                · exact Runs.does (Runs.veq (v' := (.bool true)) (r_not (congrArg some h16)) rfl) ⟨Below.refl _ _, rfl, nofr rfl⟩
                · exfalso; simp at hact
              refine ⟨fun wu18 hC hd => ?_, ?_⟩
              · obtain ⟨h15, h17, _⟩ := hd
                skip
                skip
                replace h15 : V 15 = (.bool false) := h15
                replace h17 : V 17 = (.bool true) := h17
                replace hb := hb.trans (hC.mono hb.size)
                replace hk2 := blk_ext hk2 hC
                refine ⟨true, false, congrArg some h15, fun hact => ?_, fun hact => ?_⟩
                · exact Runs.does (r_move (congrArg some h17)) ⟨Below.refl _ _, rfl, nofr rfl⟩
                · exfalso; simp at hact
              refine ⟨fun wu19 hC hd => ?_, ?_⟩
              · obtain ⟨h18, _⟩ := hd
                skip
                replace h18 : V 18 = (.bool true) := h18
                replace hb := hb.trans (hC.mono hb.size)
                replace hk2 := blk_ext hk2 hC
                refine ⟨true, true, congrArg some h18, fun hact => ?_, fun hact => ?_⟩
                · exact Runs.does (r_loadA (cs := [(.string (fndP nm L).1.1), (.int .u8 ((fndP nm L).1.2.1)), (.int .u32 ((fndP nm L).1.2.2.1))]) rfl Try.underlying26 rfl (by kernel_rfl) (cellsAt_blk hk2)) ⟨Below.refl _ _, rfl, nofr rfl⟩
                · exfalso; simp at hact
              refine ⟨fun wu20 hC hd => ?_, ?_⟩
              · obtain ⟨h18, _⟩ := hd
                skip
                replace h18 : V 18 = (.bool true) := h18
                replace hb := hb.trans (hC.mono hb.size)
                replace hk2 := blk_ext hk2 hC
                refine ⟨true, true, congrArg some h18, fun hact => ?_, fun hact => ?_⟩
                · exact Runs.does (r_build (vs := []) (cs := #[(.string ⟨#[]⟩), (.int .u8 (0 : Int)), (.int .u32 (0 : Int))]) rfl (fun _ => by kernel_rfl)) ⟨Below.refl _ _, rfl, nofr rfl⟩
                · exfalso; simp at hact
              refine ⟨fun wu21 hC hd => ?_, ?_⟩
              · obtain ⟨h18, h19, h20, _⟩ := hd
                skip
                skip
                skip
                replace h18 : V 18 = (.bool true) := h18
                replace h19 : V 19 = (.agg #[(.string (fndP nm L).1.1), (.int .u8 ((fndP nm L).1.2.1)), (.int .u32 ((fndP nm L).1.2.2.1))]) := h19
                replace h20 : V 20 = (.agg #[(.string ⟨#[]⟩), (.int .u8 (0 : Int)), (.int .u32 (0 : Int))]) := h20
                replace hb := hb.trans (hC.mono hb.size)
                replace hk2 := blk_ext hk2 hC
                refine ⟨true, true, congrArg some h18, fun hact => ?_, fun hact => ?_⟩
                · exact Runs.does (Runs.veq (r_ane (k := 5) (congrArg some h19) (congrArg some h20) (by kernel_rfl) (eqt_struct (xs := #[(.string (fndP nm L).1.1), (.int .u8 ((fndP nm L).1.2.1)), (.int .u32 ((fndP nm L).1.2.2.1))]) (ys := #[(.string ⟨#[]⟩), (.int .u8 (0 : Int)), (.int .u32 (0 : Int))]) Try.underlying26 (by kernel_rfl) (eqf_cons (by kernel_rfl) (fun _ => by kernel_rfl) (fun _ => by kernel_rfl) (eqt_str (a := (fndP nm L).1.1) (b := ⟨#[]⟩) Try.underlying9) (eqf_cons (by kernel_rfl) (fun _ => by kernel_rfl) (fun _ => by kernel_rfl) (eqt_int (kk := .u8) (a := ((fndP nm L).1.2.1)) (b := (0 : Int)) Try.underlying5) (eqf_one (by kernel_rfl) (fun _ => by kernel_rfl) (fun _ => by kernel_rfl) (eqt_int (kk := .u32) (a := ((fndP nm L).1.2.2.1)) (b := (0 : Int)) Try.underlying24))))) rfl) (congrArg Value.bool (show _ = false from (by simp [fnd_no hO hsp1, zMExp])))) ⟨Below.refl _ _, rfl, nofr rfl⟩
                · exfalso; simp at hact
              refine ⟨fun wu22 hC hd => ?_, ?_⟩
              · obtain ⟨h15, h18, h21, _⟩ := hd
                skip
                skip
                skip
                replace h15 : V 15 = (.bool false) := h15
                replace h18 : V 18 = (.bool true) := h18
                replace h21 : V 21 = (.bool false) := h21
                replace hb := hb.trans (hC.mono hb.size)
                replace hk2 := blk_ext hk2 hC
                refine ⟨true, false, congrArg some h15, fun hact => ?_, fun hact => ?_⟩
                · exact Runs.does (r_pick (b := true) (congrArg some h18) (congrArg some h21) rfl rfl) ⟨Below.refl _ _, rfl, nofr rfl⟩
                · exfalso; simp at hact
              refine ⟨fun wu23 hC hd => ?_, ?_⟩
              · obtain ⟨h15, h22, _⟩ := hd
                skip
                skip
                replace h15 : V 15 = (.bool false) := h15
                replace h22 : V 22 = (.bool false) := h22
                replace hb := hb.trans (hC.mono hb.size)
                replace hk2 := blk_ext hk2 hC
                exact Runs.does (r_pick (b := false) (congrArg some h15) rfl (congrArg some h22) rfl) ⟨Below.refl _ _, rfl, nofr rfl⟩
              refine ⟨fun wu24 hC hd => ?_, ?_⟩
              · obtain ⟨h18, h23, _⟩ := hd
                skip
                skip
                replace h18 : V 18 = (.bool true) := h18
                replace h23 : V 23 = (.bool false) := h23
                replace hb := hb.trans (hC.mono hb.size)
                replace hk2 := blk_ext hk2 hC
                exact Runs.does (r_move (congrArg some h23)) ⟨Below.refl _ _, rfl, nofr rfl⟩
              refine ⟨fun wu25 hC hd => ?_, ?_⟩
              · obtain ⟨h24, _⟩ := hd
                skip
                replace h24 : V 24 = (.bool false) := h24
                replace hb := hb.trans (hC.mono hb.size)
                replace hk2 := blk_ext hk2 hC
                refine ⟨true, false, congrArg some h24, fun hact => ?_, fun hact => ?_⟩
                · exact Runs.does (Runs.veq (r_move rfl) (congrArg Value.bool (show _ = false from (decide_eq_false hsp3)))) ⟨Below.refl _ _, rfl, nofr rfl⟩
                · exfalso; simp at hact
              refine ⟨fun wu26 hC hd => ?_, ?_⟩
              · obtain ⟨h24, _⟩ := hd
                skip
                replace h24 : V 24 = (.bool false) := h24
                replace hb := hb.trans (hC.mono hb.size)
                replace hk2 := blk_ext hk2 hC
                refine ⟨true, false, congrArg some h24, fun hact => ?_, fun hact => ?_⟩
                · exact Runs.does (r_move rfl) ⟨Below.refl _ _, rfl, nofr rfl⟩
                · exfalso; simp at hact
              refine ⟨fun wu27 hC hd => ?_, ?_⟩
              · obtain ⟨h24, h26, _⟩ := hd
                skip
                skip
                replace h24 : V 24 = (.bool false) := h24
                replace h26 : V 26 = (.int .i64 ((twI [] L 0))) := h26
                replace hb := hb.trans (hC.mono hb.size)
                replace hk2 := blk_ext hk2 hC
                refine ⟨true, false, congrArg some h24, fun hact => ?_, fun hact => ?_⟩
                · exact Runs.does (Runs.veq (r_ge (congrArg some h26) rfl) (congrArg Value.bool (show _ = false from (decide_eq_false hsp3)))) ⟨Below.refl _ _, rfl, nofr rfl⟩
                · exfalso; simp at hact
              refine ⟨fun wu28 hC hd => ?_, ?_⟩
              · obtain ⟨h24, h25, h27, _⟩ := hd
                skip
                skip
                skip
                replace h24 : V 24 = (.bool false) := h24
                replace h25 : V 25 = (.bool false) := h25
                replace h27 : V 27 = (.bool false) := h27
                replace hb := hb.trans (hC.mono hb.size)
                replace hk2 := blk_ext hk2 hC
                refine ⟨true, false, congrArg some h24, fun hact => ?_, fun hact => ?_⟩
                · exact Runs.does (Runs.veq (v' := (.bool false)) (r_bne Try.underlying4 (congrArg some h25) (congrArg some h27)) rfl) ⟨Below.refl _ _, rfl, nofr rfl⟩
                · exfalso; simp at hact
              refine ⟨fun wu29 hC hd => ?_, ?_⟩
              · obtain ⟨h24, h28, _⟩ := hd
                skip
                skip
                replace h24 : V 24 = (.bool false) := h24
                replace h28 : V 28 = (.bool false) := h28
                replace hb := hb.trans (hC.mono hb.size)
                replace hk2 := blk_ext hk2 hC
                exact Runs.does (r_pick (b := false) (congrArg some h24) rfl (congrArg some h28) rfl) ⟨Below.refl _ _, rfl, nofr rfl⟩
              refine ⟨fun wu30 hC hd => ?_, ?_⟩
              · obtain ⟨h24, h29, _⟩ := hd
                skip
                skip
                replace h24 : V 24 = (.bool false) := h24
                replace h29 : V 29 = (.bool false) := h29
                replace hb := hb.trans (hC.mono hb.size)
                replace hk2 := blk_ext hk2 hC
                exact Runs.does (r_move (congrArg some h29)) ⟨Below.refl _ _, rfl, nofr rfl⟩
              refine ⟨fun wu31 hC hd => ?_, ?_⟩
              · obtain ⟨h30, _⟩ := hd
                skip
                replace h30 : V 30 = (.bool false) := h30
                replace hb := hb.trans (hC.mono hb.size)
                replace hk2 := blk_ext hk2 hC
                refine ⟨true, false, congrArg some h30, fun hact => ?_, fun hact => ?_⟩
                · exact Runs.does (Runs.veq (r_move rfl) (congrArg Value.bool (show _ = false from (decide_eq_false hsp3)))) ⟨Below.refl _ _, rfl, nofr rfl⟩
                · exfalso; simp at hact
              refine ⟨fun wu32 hC hd => ?_, ?_⟩
              · obtain ⟨h30, h31, _⟩ := hd
                skip
                skip
                replace h30 : V 30 = (.bool false) := h30
                replace h31 : V 31 = (.bool false) := h31
                replace hb := hb.trans (hC.mono hb.size)
                replace hk2 := blk_ext hk2 hC
                refine ⟨true, false, congrArg some h30, fun hact => ?_, fun hact => ?_⟩
                · exact Runs.does (r_move (congrArg some h31)) ⟨Below.refl _ _, rfl, nofr rfl⟩
                · exfalso; simp at hact
              refine ⟨fun wu33 hC hd => ?_, ?_⟩
              · obtain ⟨h32, _⟩ := hd
                skip
                replace h32 : V 32 = (.bool false) := h32
                replace hb := hb.trans (hC.mono hb.size)
                replace hk2 := blk_ext hk2 hC
                refine ⟨true, false, congrArg some h32, fun hact => ?_, fun hact => ?_⟩
                · exfalso; simp at hact
                · exact ⟨Below.refl _ _, rfl, nofr rfl⟩
              refine ⟨fun wu34 hC hd => ?_, ?_⟩
              · obtain ⟨h32, _⟩ := hd
                skip
                replace h32 : V 32 = (.bool false) := h32
                replace hb := hb.trans (hC.mono hb.size)
                replace hk2 := blk_ext hk2 hC
                refine ⟨true, false, congrArg some h32, fun hact => ?_, fun hact => ?_⟩
                · exfalso; simp at hact
                · exact ⟨Below.refl _ _, rfl, nofr rfl⟩
              refine ⟨fun wu35 hC hd => ?_, ?_⟩
              · obtain ⟨h32, _⟩ := hd
                skip
                replace h32 : V 32 = (.bool false) := h32
                replace hb := hb.trans (hC.mono hb.size)
                replace hk2 := blk_ext hk2 hC
                refine ⟨true, false, congrArg some h32, fun hact => ?_, fun hact => ?_⟩
                · exfalso; simp at hact
                · exact ⟨Below.refl _ _, rfl, nofr rfl⟩
              refine ⟨fun wu36 hC hd => ?_, ?_⟩
              · obtain ⟨h32, h34, h35, _⟩ := hd
                skip
                skip
                skip
                replace h32 : V 32 = (.bool false) := h32
                replace h34 : V 34 = gb false (.bool false) := h34
                replace h35 : V 35 = gb false (.bool false) := h35
                replace hb := hb.trans (hC.mono hb.size)
                replace hk2 := blk_ext hk2 hC
                refine ⟨true, false, congrArg some h32, fun hact => ?_, fun hact => ?_⟩
                · exfalso; simp at hact
                · exact ⟨Below.refl _ _, rfl, nofr rfl⟩
              refine ⟨fun wu37 hC hd => ?_, ?_⟩
              · obtain ⟨h32, h36, _⟩ := hd
                skip
                skip
                replace h32 : V 32 = (.bool false) := h32
                replace h36 : V 36 = gb false (.bool false) := h36
                replace hb := hb.trans (hC.mono hb.size)
                replace hk2 := blk_ext hk2 hC
                refine ⟨true, false, congrArg some h32, fun hact => ?_, fun hact => ?_⟩
                · exfalso; simp at hact
                · exact ⟨Below.refl _ _, rfl, nofr rfl⟩
              refine ⟨fun wu38 hC hd => ?_, ?_⟩
              · obtain ⟨h32, h37, _⟩ := hd
                skip
                skip
                replace h32 : V 32 = (.bool false) := h32
                replace h37 : V 37 = gb false (.bool false) := h37
                replace hb := hb.trans (hC.mono hb.size)
                replace hk2 := blk_ext hk2 hC
                refine ⟨true, false, congrArg some h32, fun hact => ?_, fun hact => ?_⟩
                · exfalso; simp at hact
                · exact ⟨Below.refl _ _, rfl, nofr rfl⟩
              refine ⟨fun wu39 hC hd => ?_, ?_⟩
              · obtain ⟨h32, h33, h38, _⟩ := hd
                skip
                skip
                skip
                replace h32 : V 32 = (.bool false) := h32
                replace h33 : V 33 = gb false (.bool false) := h33
                replace h38 : V 38 = gb false (.bool false) := h38
                replace hb := hb.trans (hC.mono hb.size)
                replace hk2 := blk_ext hk2 hC
                refine ⟨true, false, congrArg some h32, fun hact => ?_, fun hact => ?_⟩
                · exfalso; simp at hact
                · exact ⟨Below.refl _ _, rfl, nofr rfl⟩
              refine ⟨fun wu40 hC hd => ?_, ?_⟩
              · obtain ⟨h30, h32, h39, _⟩ := hd
                skip
                skip
                skip
                replace h30 : V 30 = (.bool false) := h30
                replace h32 : V 32 = (.bool false) := h32
                replace h39 : V 39 = gb false (.bool false) := h39
                replace hb := hb.trans (hC.mono hb.size)
                replace hk2 := blk_ext hk2 hC
                refine ⟨true, false, congrArg some h30, fun hact => ?_, fun hact => ?_⟩
                · exact Runs.does (r_pick (b := false) (congrArg some h32) (congrArg some h39) rfl rfl) ⟨Below.refl _ _, rfl, nofr rfl⟩
                · exfalso; simp at hact
              refine ⟨fun wu41 hC hd => ?_, ?_⟩
              · obtain ⟨h30, h40, _⟩ := hd
                skip
                skip
                replace h30 : V 30 = (.bool false) := h30
                replace h40 : V 40 = (.bool false) := h40
                replace hb := hb.trans (hC.mono hb.size)
                replace hk2 := blk_ext hk2 hC
                exact Runs.does (r_pick (b := false) (congrArg some h30) rfl (congrArg some h40) rfl) ⟨Below.refl _ _, rfl, nofr rfl⟩
              refine ⟨fun wu42 hC hd => ?_, ?_⟩
              · obtain ⟨h32, h41, _⟩ := hd
                skip
                skip
                replace h32 : V 32 = (.bool false) := h32
                replace h41 : V 41 = (.bool false) := h41
                replace hb := hb.trans (hC.mono hb.size)
                replace hk2 := blk_ext hk2 hC
                exact Runs.does (r_move (congrArg some h41)) ⟨Below.refl _ _, rfl, nofr rfl⟩
              refine ⟨fun wu43 hC hd => ?_, ?_⟩
              · obtain ⟨h42, _⟩ := hd
                skip
                replace h42 : V 42 = (.bool false) := h42
                replace hb := hb.trans (hC.mono hb.size)
                replace hk2 := blk_ext hk2 hC
                refine ⟨true, false, congrArg some h42, fun hact => ?_, fun hact => ?_⟩
                · exact Runs.does (Runs.veq (r_move rfl) (congrArg Value.bool (show _ = false from (decide_eq_false hsp3)))) ⟨Below.refl _ _, rfl, nofr rfl⟩
                · exfalso; simp at hact
              refine ⟨fun wu44 hC hd => ?_, ?_⟩
              · obtain ⟨h42, h43, _⟩ := hd
                skip
                skip
                replace h42 : V 42 = (.bool false) := h42
                replace h43 : V 43 = (.bool false) := h43
                replace hb := hb.trans (hC.mono hb.size)
                replace hk2 := blk_ext hk2 hC
                refine ⟨true, false, congrArg some h42, fun hact => ?_, fun hact => ?_⟩
                · exact Runs.does (Runs.veq (v' := (.bool true)) (r_not (congrArg some h43)) rfl) ⟨Below.refl _ _, rfl, nofr rfl⟩
                · exfalso; simp at hact
              refine ⟨fun wu45 hC hd => ?_, ?_⟩
              · obtain ⟨h42, h44, _⟩ := hd
                skip
                skip
                replace h42 : V 42 = (.bool false) := h42
                replace h44 : V 44 = (.bool true) := h44
                replace hb := hb.trans (hC.mono hb.size)
                replace hk2 := blk_ext hk2 hC
                refine ⟨true, false, congrArg some h42, fun hact => ?_, fun hact => ?_⟩
                · exact Runs.does (r_move (congrArg some h44)) ⟨Below.refl _ _, rfl, nofr rfl⟩
                · exfalso; simp at hact
              refine ⟨fun wu46 hC hd => ?_, ?_⟩
              · obtain ⟨h45, _⟩ := hd
                skip
                replace h45 : V 45 = (.bool true) := h45
                replace hb := hb.trans (hC.mono hb.size)
                replace hk2 := blk_ext hk2 hC
                refine ⟨true, true, congrArg some h45, fun hact => ?_, fun hact => ?_⟩
                · exact Runs.does (r_move rfl) ⟨Below.refl _ _, rfl, nofr rfl⟩
                · exfalso; simp at hact
              refine ⟨fun wu47 hC hd => ?_, ?_⟩
              · obtain ⟨h45, h46, _⟩ := hd
                skip
                skip
                replace h45 : V 45 = (.bool true) := h45
                replace h46 : V 46 = (.string (twN L)) := h46
                replace hb := hb.trans (hC.mono hb.size)
                replace hk2 := blk_ext hk2 hC
                refine ⟨true, true, congrArg some h45, fun hact => ?_, fun hact => ?_⟩
                · exact Runs.does (Runs.veq (r_sne (congrArg some h46) rfl) (congrArg Value.bool (show _ = false from (by rw [tw_no hsp3]; simp)))) ⟨Below.refl _ _, rfl, nofr rfl⟩
                · exfalso; simp at hact
              refine ⟨fun wu48 hC hd => ?_, ?_⟩
              · obtain ⟨h42, h45, h47, _⟩ := hd
                skip
                skip
                skip
                replace h42 : V 42 = (.bool false) := h42
                replace h45 : V 45 = (.bool true) := h45
                replace h47 : V 47 = (.bool false) := h47
                replace hb := hb.trans (hC.mono hb.size)
                replace hk2 := blk_ext hk2 hC
                refine ⟨true, false, congrArg some h42, fun hact => ?_, fun hact => ?_⟩
                · exact Runs.does (r_pick (b := true) (congrArg some h45) (congrArg some h47) rfl rfl) ⟨Below.refl _ _, rfl, nofr rfl⟩
                · exfalso; simp at hact
              refine ⟨fun wu49 hC hd => ?_, ?_⟩
              · obtain ⟨h42, h48, _⟩ := hd
                skip
                skip
                replace h42 : V 42 = (.bool false) := h42
                replace h48 : V 48 = (.bool false) := h48
                replace hb := hb.trans (hC.mono hb.size)
                replace hk2 := blk_ext hk2 hC
                exact Runs.does (r_pick (b := false) (congrArg some h42) rfl (congrArg some h48) rfl) ⟨Below.refl _ _, rfl, nofr rfl⟩
              trivial
            · skip
              clear hf fa; intro V w20 fa he18 hp hnb hf
              have hv0 : V 0 = (.bool false) := postsHold_at hp 0 rfl
              have hv1 : V 1 = (.int .i64 o) := postsHold_at hp 1 rfl
              have hv2 : V 2 = (.bool false) := postsHold_at hp 2 rfl
              have hv3 : V 3 = (.bool false) := postsHold_at hp 3 rfl
              have hv4 : V 4 = (.bool false) := postsHold_at hp 4 rfl
              have hv5 : V 5 = (.bool false) := postsHold_at hp 5 rfl
              have hv6 : V 6 = (.bool false) := postsHold_at hp 6 rfl
              have hv7 : V 7 = gb false (.bool false) := postsHold_at hp 7 rfl
              have hv8 : V 8 = gb false (.bool false) := postsHold_at hp 8 rfl
              have hv9 : V 9 = gb false (.bool false) := postsHold_at hp 9 rfl
              have hv10 : V 10 = gb false (.bool false) := postsHold_at hp 10 rfl
              have hv11 : V 11 = gb false (.bool false) := postsHold_at hp 11 rfl
              have hv12 : V 12 = gb false (.bool false) := postsHold_at hp 12 rfl
              have hv13 : V 13 = (.bool false) := postsHold_at hp 13 rfl
              have hv14 : V 14 = (.bool false) := postsHold_at hp 14 rfl
              have hv15 : V 15 = (.bool false) := postsHold_at hp 15 rfl
              have hv16 : V 16 = (.bool false) := postsHold_at hp 16 rfl
              have hv17 : V 17 = (.bool true) := postsHold_at hp 17 rfl
              have hv18 : V 18 = (.bool true) := postsHold_at hp 18 rfl
              have hv19 : V 19 = (.agg #[(.string (fndP nm L).1.1), (.int .u8 ((fndP nm L).1.2.1)), (.int .u32 ((fndP nm L).1.2.2.1))]) := postsHold_at hp 19 rfl
              have hv20 : V 20 = (.agg #[(.string ⟨#[]⟩), (.int .u8 (0 : Int)), (.int .u32 (0 : Int))]) := postsHold_at hp 20 rfl
              have hv21 : V 21 = (.bool false) := postsHold_at hp 21 rfl
              have hv22 : V 22 = (.bool false) := postsHold_at hp 22 rfl
              have hv23 : V 23 = (.bool false) := postsHold_at hp 23 rfl
              have hv24 : V 24 = (.bool false) := postsHold_at hp 24 rfl
              have hv25 : V 25 = (.bool false) := postsHold_at hp 25 rfl
              have hv26 : V 26 = (.int .i64 ((twI [] L 0))) := postsHold_at hp 26 rfl
              have hv27 : V 27 = (.bool false) := postsHold_at hp 27 rfl
              have hv28 : V 28 = (.bool false) := postsHold_at hp 28 rfl
              have hv29 : V 29 = (.bool false) := postsHold_at hp 29 rfl
              have hv30 : V 30 = (.bool false) := postsHold_at hp 30 rfl
              have hv31 : V 31 = (.bool false) := postsHold_at hp 31 rfl
              have hv32 : V 32 = (.bool false) := postsHold_at hp 32 rfl
              have hv33 : V 33 = gb false (.bool false) := postsHold_at hp 33 rfl
              have hv34 : V 34 = gb false (.bool false) := postsHold_at hp 34 rfl
              have hv35 : V 35 = gb false (.bool false) := postsHold_at hp 35 rfl
              have hv36 : V 36 = gb false (.bool false) := postsHold_at hp 36 rfl
              have hv37 : V 37 = gb false (.bool false) := postsHold_at hp 37 rfl
              have hv38 : V 38 = gb false (.bool false) := postsHold_at hp 38 rfl
              have hv39 : V 39 = gb false (.bool false) := postsHold_at hp 39 rfl
              have hv40 : V 40 = (.bool false) := postsHold_at hp 40 rfl
              have hv41 : V 41 = (.bool false) := postsHold_at hp 41 rfl
              have hv42 : V 42 = (.bool false) := postsHold_at hp 42 rfl
              have hv43 : V 43 = (.bool false) := postsHold_at hp 43 rfl
              have hv44 : V 44 = (.bool true) := postsHold_at hp 44 rfl
              have hv45 : V 45 = (.bool true) := postsHold_at hp 45 rfl
              have hv46 : V 46 = (.string (twN L)) := postsHold_at hp 46 rfl
              have hv47 : V 47 = (.bool false) := postsHold_at hp 47 rfl
              have hv48 : V 48 = (.bool false) := postsHold_at hp 48 rfl
              have hv49 : V 49 = (.bool false) := postsHold_at hp 49 rfl
              simp only [List.take_succ_cons, List.take_zero, insAll, ins, hv0, hv1, hv2, hv3, hv4, hv5, hv6, hv7, hv8, hv9, hv10, hv11, hv12, hv13, hv14, hv15, hv16, hv17, hv18, hv19, hv20, hv21, hv22, hv23, hv24, hv25, hv26, hv27, hv28, hv29, hv30, hv31, hv32, hv33, hv34, hv35, hv36, hv37, hv38, hv39, hv40, hv41, hv42, hv43, hv44, hv45, hv46, hv47, hv48, hv49] at hf
              clear hp hnb hv0 hv1 hv2 hv3 hv4 hv5 hv6 hv7 hv8 hv9 hv10 hv11 hv12 hv13 hv14 hv15 hv16 hv17 hv18 hv19 hv20 hv21 hv22 hv23 hv24 hv25 hv26 hv27 hv28 hv29 hv30 hv31 hv32 hv33 hv34 hv35 hv36 hv37 hv38 hv39 hv40 hv41 hv42 hv43 hv44 hv45 hv46 hv47 hv48 hv49
              replace hk2 := blk_ext hk2 he18
              replace hb := hb.trans (Below.mono he18 hb.size)
              (try simp only [Exit.then, Exit.inBlock, ↓reduceIte, Nat.reduceEqDiff])
              refine hK18 _ _ ?_
              refine wp_cond_false (hf.ev rfl) ?_
              refine wp_skip ?_
              (try simp only [Exit.then, Exit.inBlock, ↓reduceIte, Nat.reduceEqDiff])
              refine hK17 _ _ ?_
              refine wp_seq_k (fun K22 hK22 => ?_)
              refine wp_region_lit ?_
              refine sqv hf (r_move rfl) rfl rfl rfl ?_; clear hf fa; intro fa hf
              refine sqv hf (r_move rfl) rfl rfl rfl ?_; clear hf fa; intro fa hf
              refine sqdt hf (d_callX (vs := [(.slice a L.length c), (.int .u8 kd)]) rfl Try.func21 (by kernel_rfl) (by kernel_rfl) (names_any a L c kd _ (RdS.ext hl hb) hlc hl9 hLs)) rfl rfl rfl ?_; clear hf fa; rintro fa v w21 ⟨hr7, he19⟩ hf; obtain ⟨ra7, rc7, rfl, hcrc7, hmrc7⟩ := Row.slice hr7
              replace hr7 := Row.rebase hr7 hb.size
              replace hk2 := blk_ext hk2 he19
              replace hb := hb.trans (Below.mono he19 hb.size)
              refine sqv hf (r_move rfl) rfl rfl rfl ?_; clear hf fa; intro fa hf
              refine sqv hf (r_move rfl) rfl rfl rfl ?_; clear hf fa; intro fa hf
              refine sqdt hf (d_callX (vs := [(.slice a L.length c), (.int .u8 kd)]) rfl Try.func22 (by kernel_rfl) (by kernel_rfl) (rnames_any a L c kd _ (RdS.ext hl hb) hlc hl9 hLs)) rfl rfl rfl ?_; clear hf fa; rintro fa v w22 ⟨hr8, he20⟩ hf; obtain ⟨ra8, rc8, rfl, hcrc8, hmrc8⟩ := Row.slice hr8
              replace hr8 := Row.rebase hr8 hb.size
              replace hk2 := blk_ext hk2 he20
              replace hr7 := Row.ext hr7 he20
              replace hb := hb.trans (Below.mono he20 hb.size)
              refine sqdt hf (d_callB (vs := [(.slice ra7 (((nmsP L kd)).length) rc7), (.slice ra8 (((nmsP L kd)).length) rc8)]) rfl Try.func20 (by kernel_rfl) (by kernel_rfl) (same_any ra7 ra8 rc7 rc8 (nmsP L kd) _ (Row.rd (by intros; rfl) hr7) (Row.rd (by intros; rfl) hr8) (by omega) (by have := Row.caps hr7; omega) (by have := Row.caps hr8; omega))) rfl rfl rfl ?_; clear hf fa; rintro fa _ w23 ⟨rfl, he21⟩ hf
              replace hk2 := blk_ext hk2 he21
              replace hr7 := Row.ext hr7 he21
              replace hr8 := Row.ext hr8 he21
              replace hb := hb.trans (Below.mono he21 hb.size)
              refine sqv hf (r_assign rfl) rfl rfl rfl ?_; clear hf fa; intro fa hf
              apply wpList_nil
              (try simp only [Exit.then, Exit.inBlock, ↓reduceIte, Nat.reduceEqDiff])
              refine hK22 _ _ ?_
              refine wp_ret ?_
              (try simp only [Exit.then, Exit.inBlock])
              refine ret1 hf rfl rfl ?_
              exact ⟨rfl, hb⟩
end Go.Proofs.Ytcmdajkkdognfaa
