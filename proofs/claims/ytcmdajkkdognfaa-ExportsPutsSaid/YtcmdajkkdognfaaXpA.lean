/- What is proved here: exports: Put of the document, Get. -/
import Derived.Test.YtcmdajkkdognfaaSnE
import Derived.Test.YtcmdajkkdognfaaExB
import Derived.Test.YtcmdajkkdognfaaUwE
namespace Go.Proofs.Ytcmdajkkdognfaa
open Go.RowKit
set_option linter.unusedVariables false
set_option linter.unusedSimpArgs false
def errP (ep : MExp) : Int :=
  bif (decide ((200 : Int) < ((ep.1.size : Nat) : Int))) then (13 : Int)
  else bif (decide (((Ut.cnt (Ut.bl ep.1))) < (0 : Int))) then (4 : Int)
  else bif (decide ((3 : Int) < ep.2.1)) then (43 : Int)
  else (0 : Int)

set_option maxHeartbeats 1000000 in
set_option maxRecDepth 100000 in
theorem err_any (ep : MExp) (w : World) (hs : ep.1.size ≤ 1000000) : Calls Try.prog 68 #[(.agg #[(.string ep.1), (.int .u8 ep.2.1), (.int .u32 ep.2.2.1)])] w fun e w' => e = .returned (.int .i64 ((errP ep))) ∧ Below w.heap.size w w' := by
  refine sx_enter (L := [(0, (.agg #[(.string ep.1), (.int .u8 ep.2.1), (.int .u32 ep.2.2.1)]))]) Try.func68 rfl rfl rfl rfl (fun fa hf => ?_)
  have hb : Below w.heap.size w w := Below.refl _ _
  refine wp_seq_k (fun K1 hK1 => ?_)
  refine wp_region_lit ?_
  refine sqdt hf (d_box (cs := #[(.string ep.1), (.int .u8 ep.2.1), (.int .u32 ep.2.2.1)]) rfl rfl) rfl rfl rfl ?_; clear hf fa; rintro fa _ w1 ⟨b1, rfl, hle1, hk1, he1⟩ hf
  have hBb1 : w.heap.size ≤ b1 := Nat.le_trans hb.size hle1
  replace hb := hb.trans (Below.mono he1 hb.size)
  refine sqv hf (r_assign rfl) rfl rfl rfl ?_; clear hf fa; intro fa hf
  apply wpList_nil
  (try simp only [Exit.then, Exit.inBlock, ↓reduceIte, Nat.reduceEqDiff])
  refine hK1 _ _ ?_
  refine wp_seq_k (fun K2 hK2 => ?_)
  refine wp_seq_k (fun K3 hK3 => ?_)
  refine wp_region_lit ?_
  refine sqv hf (r_fa rfl Try.underlying26 (f := 0) (q := 0) rfl (by kernel_rfl) rfl) rfl rfl rfl ?_; clear hf fa; intro fa hf
  refine sqv hf (r_load (v := (.string ep.1)) rfl Try.underlying9 rfl (cell_blk hk1 rfl)) rfl rfl rfl ?_; clear hf fa; intro fa hf
  refine sqv hf (r_lens rfl Try.underlying9) rfl rfl rfl ?_; clear hf fa; intro fa hf
  refine sqv hf (r_gt rfl rfl) rfl rfl rfl ?_; clear hf fa; intro fa hf
  apply wpList_nil
  (try simp only [Exit.then, Exit.inBlock, ↓reduceIte, Nat.reduceEqDiff])
  refine hK3 _ _ ?_
  refine wp_cond_split (t := (decide ((200 : Int) < ((ep.1.size : Nat) : Int)))) (hf.ev rfl) (fun hqt6_1 => ?_) (fun hqt6_1 => ?_)
  · have hqt6_1b := hqt6_1
    try simp only [decide_eq_true_eq, Bool.and_eq_true, Bool.or_eq_true, Bool.not_eq_true', decide_eq_false_iff_not, ne_eq, Bool.not_eq_true] at hqt6_1
    refine wp_seq_k (fun K4 hK4 => ?_)
    refine wp_region_lit ?_
    refine sqv hf (r_assign rfl) rfl rfl rfl ?_; clear hf fa; intro fa hf
    apply wpList_nil
    (try simp only [Exit.then, Exit.inBlock, ↓reduceIte, Nat.reduceEqDiff])
    refine hK4 _ _ ?_
    refine wp_ret ?_
    (try simp only [Exit.then, Exit.inBlock])
    refine ret1 hf rfl rfl ?_
    refine ⟨?_, hb⟩; unfold errP; rw [hqt6_1b]; (try rfl)
  · have hqt6_1b := hqt6_1
    replace hqt6_1 := Bool.eq_false_iff.1 hqt6_1
    try simp only [ne_eq, decide_eq_true_eq, Bool.and_eq_true, Bool.or_eq_true, Bool.not_eq_true', decide_eq_false_iff_not] at hqt6_1
    refine wp_skip ?_
    (try simp only [Exit.then, Exit.inBlock, ↓reduceIte, Nat.reduceEqDiff])
    refine hK2 _ _ ?_
    refine wp_seq_k (fun K5 hK5 => ?_)
    refine wp_seq_k (fun K6 hK6 => ?_)
    refine wp_region_lit ?_
    refine sqv hf (r_fa rfl Try.underlying26 (f := 0) (q := 0) rfl (by kernel_rfl) rfl) rfl rfl rfl ?_; clear hf fa; intro fa hf
    refine sqv hf (r_load (v := (.string ep.1)) rfl Try.underlying9 rfl (cell_blk hk1 rfl)) rfl rfl rfl ?_; clear hf fa; intro fa hf
    refine sqdt hf (d_callB (vs := [(.string ep.1)]) rfl Try.func84 (by kernel_rfl) (by kernel_rfl) (Ut.refCount_any ep.1 _ (by omega))) rfl rfl rfl ?_; clear hf fa; rintro fa _ w2 ⟨rfl, he2⟩ hf
    replace hk1 := blk_ext hk1 he2
    replace hb := hb.trans (Below.mono he2 hb.size)
    refine sqv hf (r_lt rfl rfl) rfl rfl rfl ?_; clear hf fa; intro fa hf
    apply wpList_nil
    (try simp only [Exit.then, Exit.inBlock, ↓reduceIte, Nat.reduceEqDiff])
    refine hK6 _ _ ?_
    refine wp_cond_split (t := (decide (((Ut.cnt (Ut.bl ep.1))) < (0 : Int)))) (hf.ev rfl) (fun hqt10_1 => ?_) (fun hqt10_1 => ?_)
    · have hqt10_1b := hqt10_1
      try simp only [decide_eq_true_eq, Bool.and_eq_true, Bool.or_eq_true, Bool.not_eq_true', decide_eq_false_iff_not, ne_eq, Bool.not_eq_true] at hqt10_1
      refine wp_seq_k (fun K7 hK7 => ?_)
      refine wp_region_lit ?_
      refine sqv hf (r_assign rfl) rfl rfl rfl ?_; clear hf fa; intro fa hf
      apply wpList_nil
      (try simp only [Exit.then, Exit.inBlock, ↓reduceIte, Nat.reduceEqDiff])
      refine hK7 _ _ ?_
      refine wp_ret ?_
      (try simp only [Exit.then, Exit.inBlock])
      refine ret1 hf rfl rfl ?_
      refine ⟨?_, hb⟩; unfold errP; rw [hqt6_1b, hqt10_1b]; (try rfl)
    · have hqt10_1b := hqt10_1
      replace hqt10_1 := Bool.eq_false_iff.1 hqt10_1
      try simp only [ne_eq, decide_eq_true_eq, Bool.and_eq_true, Bool.or_eq_true, Bool.not_eq_true', decide_eq_false_iff_not] at hqt10_1
      refine wp_skip ?_
      (try simp only [Exit.then, Exit.inBlock, ↓reduceIte, Nat.reduceEqDiff])
      refine hK5 _ _ ?_
      refine wp_seq_k (fun K8 hK8 => ?_)
      refine wp_seq_k (fun K9 hK9 => ?_)
      refine wp_region_lit ?_
      refine sqv hf (r_fa rfl Try.underlying26 (f := 1) (q := 1) rfl (by kernel_rfl) rfl) rfl rfl rfl ?_; clear hf fa; intro fa hf
      refine sqv hf (r_load (v := (.int .u8 ep.2.1)) rfl Try.underlying5 rfl (cell_blk hk1 rfl)) rfl rfl rfl ?_; clear hf fa; intro fa hf
      refine sqv hf (r_gt rfl rfl) rfl rfl rfl ?_; clear hf fa; intro fa hf
      apply wpList_nil
      (try simp only [Exit.then, Exit.inBlock, ↓reduceIte, Nat.reduceEqDiff])
      refine hK9 _ _ ?_
      refine wp_cond_split (t := (decide ((3 : Int) < ep.2.1))) (hf.ev rfl) (fun hqt13_1 => ?_) (fun hqt13_1 => ?_)
      · have hqt13_1b := hqt13_1
        try simp only [decide_eq_true_eq, Bool.and_eq_true, Bool.or_eq_true, Bool.not_eq_true', decide_eq_false_iff_not, ne_eq, Bool.not_eq_true] at hqt13_1
        refine wp_seq_k (fun K10 hK10 => ?_)
        refine wp_region_lit ?_
        refine sqv hf (r_assign rfl) rfl rfl rfl ?_; clear hf fa; intro fa hf
        apply wpList_nil
        (try simp only [Exit.then, Exit.inBlock, ↓reduceIte, Nat.reduceEqDiff])
        refine hK10 _ _ ?_
        refine wp_ret ?_
        (try simp only [Exit.then, Exit.inBlock])
        refine ret1 hf rfl rfl ?_
        refine ⟨?_, hb⟩; unfold errP; rw [hqt6_1b, hqt10_1b, hqt13_1b]; (try rfl)
      · have hqt13_1b := hqt13_1
        replace hqt13_1 := Bool.eq_false_iff.1 hqt13_1
        try simp only [ne_eq, decide_eq_true_eq, Bool.and_eq_true, Bool.or_eq_true, Bool.not_eq_true', decide_eq_false_iff_not] at hqt13_1
        refine wp_skip ?_
        (try simp only [Exit.then, Exit.inBlock, ↓reduceIte, Nat.reduceEqDiff])
        refine hK8 _ _ ?_
        refine wp_seq_k (fun K11 hK11 => ?_)
        refine wp_region_lit ?_
        refine sqv hf (r_assign rfl) rfl rfl rfl ?_; clear hf fa; intro fa hf
        apply wpList_nil
        (try simp only [Exit.then, Exit.inBlock, ↓reduceIte, Nat.reduceEqDiff])
        refine hK11 _ _ ?_
        refine wp_ret ?_
        (try simp only [Exit.then, Exit.inBlock])
        refine ret1 hf rfl rfl ?_
        refine ⟨?_, hb⟩; unfold errP; rw [hqt6_1b, hqt10_1b, hqt13_1b]; (try rfl)

theorem err_eq (ep : MExp) : errP ep = erightP ep := by
  unfold errP erightP Ut.checkF
  by_cases h1 : 200 < ep.1.size
  · rw [show decide ((200 : Int) < ((ep.1.size : Nat) : Int)) = true from decide_eq_true (by omega)]
    simp [h1]
  · rw [show decide ((200 : Int) < ((ep.1.size : Nat) : Int)) = false from decide_eq_false (by omega)]
    by_cases h2 : 0 ≤ Ut.cnt (Ut.bl ep.1)
    · rw [show decide (Ut.cnt (Ut.bl ep.1) < (0 : Int)) = false from decide_eq_false (by omega)]
      simp [h1, h2]
    · rw [show decide (Ut.cnt (Ut.bl ep.1) < (0 : Int)) = true from decide_eq_true (by omega)]
      simp [h1, h2]
theorem err2_any (ep : MExp) (w : World) (hs : ep.1.size ≤ 1000000) : Calls Try.prog 68 #[(.agg #[(.string ep.1), (.int .u8 ep.2.1), (.int .u32 ep.2.2.1)])] w fun e w' => e = .returned (.int .i64 (erightP ep)) ∧ Below w.heap.size w w' := by
  have h := err_any ep w hs
  rw [err_eq] at h
  exact h
theorem bl_nums (s : ByteArray) : Ut.bl s = (nums s).map Int.toNat := by
  unfold Ut.bl nums
  rw [List.map_map]
  rfl
theorem goodN_of {s : ByteArray} (h : Ut.checkF s = 0) : goodN (nums s) ∧ (nums s).length ≤ 200 := by
  unfold Ut.checkF at h
  split at h
  · cases h
  · split at h
    · rename_i h1 h2
      exact ⟨⟨nums_rng s, by rw [← bl_nums]; exact h2⟩, by rw [nums_len]; omega⟩
    · cases h
theorem eright_parts {ep : MExp} (h : erightP ep = 0) : Ut.checkF ep.1 = 0 ∧ ep.2.1 ≤ 3 := by
  unfold erightP at h
  by_cases hc : Ut.checkF ep.1 = 0
  · refine ⟨hc, ?_⟩
    rw [show decide (Ut.checkF ep.1 ≠ 0) = false by simpa using hc] at h
    simp only [cond_false] at h
    by_cases hk : (3 : Int) < ep.2.1
    · rw [show decide ((3 : Int) < ep.2.1) = true by simpa using hk] at h
      cases h
    · omega
  · rw [show decide (Ut.checkF ep.1 ≠ 0) = true by simpa using hc] at h
    exact absurd h hc
theorem encE_str (ep : MExp) : strOfNums (encE ep) = ((cntS ep.1.size ++ ep.1) ++ strOfNums [ep.2.1]) ++ cntS ep.2.2.1.toNat := by
  unfold encE cntS
  rw [strOfNums_app, strOfNums_app, strOfNums_app, strOfNums_nums]
theorem encE_form (ep : MExp) : encE ep = (uL (nums ep.1).length ++ nums ep.1) ++ ([ep.2.1] ++ uL ep.2.2.1.toNat) := by
  unfold encE
  rw [nums_len]
  simp only [List.append_assoc]
theorem encE_rng (ep : MExp) (h : 0 ≤ ep.2.1 ∧ ep.2.1 < 256) : ∀ y ∈ encE ep, 0 ≤ y ∧ y < 256 := by
  intro y hy
  unfold encE at hy
  simp only [List.mem_append, List.mem_singleton] at hy
  rcases hy with ((h1 | h1) | rfl) | h1
  · exact uL_rng _ y h1
  · exact nums_rng _ y h1
  · exact h
  · exact uL_rng _ y h1
theorem encE_len (ep : MExp) (hs : ep.1.size ≤ 1000000) (h2 : 0 ≤ ep.2.2.1 ∧ ep.2.2.1 < 4294967296) : 0 < (encE ep).length ∧ (encE ep).length ≤ ep.1.size + 30 := by
  have a := uL_len ep.1.size (by omega)
  have b := uL_len ep.2.2.1.toNat (by omega)
  unfold encE
  simp only [List.length_append, List.length_cons, List.length_nil, nums_len]
  omega

set_option maxHeartbeats 1000000 in
set_option maxRecDepth 100000 in
theorem rput_any (ep : MExp) (w : World) (hs : ep.1.size ≤ 1000000) (hx1 : 0 ≤ ep.2.1 ∧ ep.2.1 < 256) (hx2 : 0 ≤ ep.2.2.1 ∧ ep.2.2.1 < 4294967296) : Calls Try.prog 74 #[(.agg #[(.string ep.1), (.int .u8 ep.2.1), (.int .u32 ep.2.2.1)])] w fun e w' => e = .returned (.string (strOfNums (encE ep))) ∧ Below w.heap.size w w' := by
  refine sx_enter (L := [(0, (.agg #[(.string ep.1), (.int .u8 ep.2.1), (.int .u32 ep.2.2.1)]))]) Try.func74 rfl rfl rfl rfl (fun fa hf => ?_)
  have hb : Below w.heap.size w w := Below.refl _ _
  refine wp_seq_k (fun K1 hK1 => ?_)
  refine wp_region_lit ?_
  refine sqdt hf (d_box (cs := #[(.string ep.1), (.int .u8 ep.2.1), (.int .u32 ep.2.2.1)]) rfl rfl) rfl rfl rfl ?_; clear hf fa; rintro fa _ w1 ⟨b1, rfl, hle1, hk1, he1⟩ hf
  have hBb1 : w.heap.size ≤ b1 := Nat.le_trans hb.size hle1
  replace hb := hb.trans (Below.mono he1 hb.size)
  refine sqv hf (r_assign rfl) rfl rfl rfl ?_; clear hf fa; intro fa hf
  apply wpList_nil
  (try simp only [Exit.then, Exit.inBlock, ↓reduceIte, Nat.reduceEqDiff])
  refine hK1 _ _ ?_
  refine wp_seq_k (fun K2 hK2 => ?_)
  refine wp_region_un (fun wq => Below w1.heap.size w1 wq) (fun w w' => Below w.heap.size w w')
    (fun V => [(fun x _ => x = (.pointer (some ⟨b1, 0, none⟩))), (fun x _ => x = (.string ep.1)), (fun x _ => x = (.int .i64 ((ep.1.size : Nat) : Int))), (fun x _ => x = (.string (cntS ep.1.size))), (fun x _ => x = (.pointer (some ⟨b1, 0, none⟩))), (fun x _ => x = (.string ep.1)), (fun x _ => x = (.string ((cntS ep.1.size) ++ ep.1))), (fun x _ => x = (.pointer (some ⟨b1, 1, none⟩))), (fun x _ => x = (.int .u8 ep.2.1)), (fun x wq => ∃ b, x = .slice (some ⟨b, 0, none⟩) 1 1 ∧ w1.heap.size ≤ b ∧ wq.heap[b]? = some (.cells #[(.int .u8 ep.2.1)] 5 (0, 0))), (fun x _ => x = (.string (strOfNums [ep.2.1]))), (fun x _ => x = (.string (((cntS ep.1.size) ++ ep.1) ++ (strOfNums [ep.2.1])))), (fun x _ => x = (.pointer (some ⟨b1, 2, none⟩))), (fun x _ => x = (.int .u32 ep.2.2.1)), (fun x _ => x = (.int .i64 ep.2.2.1)), (fun x _ => x = (.string (cntS ep.2.2.1.toNat))), (fun x _ => x = (.string ((((cntS ep.1.size) ++ ep.1) ++ (strOfNums [ep.2.1])) ++ (cntS ep.2.2.1.toNat)))), (fun x _ => x = (.string ((((cntS ep.1.size) ++ ep.1) ++ (strOfNums [ep.2.1])) ++ (cntS ep.2.2.1.toNat))))])
    [9]
    [[], [0], [1], [2], [], [4], [3, 5], [], [7], [8], [9], [6, 10], [], [12], [13], [3, 14], [11, 15], [0, 1, 2, 3, 4, 5, 6, 7, 8, 9, 10, 11, 12, 13, 14, 15, 16]]
    hf (by kernel_rfl) (by kernel_rfl) (fun _ => rfl) ((Below.refl _ _).drew) (fun a b h1 h2 => h1.trans (h2.mono h1.size)) (fun _ _ h => h.size) (fun V => ⟨kept_eq, kept_eq, kept_eq, kept_eq, kept_eq, kept_eq, kept_eq, kept_eq, kept_eq, keptB, kept_eq, kept_eq, kept_eq, kept_eq, kept_eq, kept_eq, kept_eq, kept_eq, trivial⟩) (fun _ _ _ _ _ => rfl) ?_ ?_
  · skip
    intro V
    refine ⟨fun wu0 hC hd => ?_, ?_⟩
    · clear hd
      replace hb := hb.trans (hC.mono hb.size)
      replace hk1 := blk_ext hk1 hC
      exact Runs.does (r_fa rfl Try.underlying26 (f := 0) (q := 0) rfl (by kernel_rfl) rfl) ⟨Below.refl _ _, rfl, nofr rfl⟩
    refine ⟨fun wu1 hC hd => ?_, ?_⟩
    · obtain ⟨h0, _⟩ := hd
      skip
      replace h0 : V 0 = (.pointer (some ⟨b1, 0, none⟩)) := h0
      replace hb := hb.trans (hC.mono hb.size)
      replace hk1 := blk_ext hk1 hC
      exact Runs.does (r_load (v := (.string ep.1)) (congrArg some h0) Try.underlying9 rfl (cell_blk hk1 rfl)) ⟨Below.refl _ _, rfl, nofr rfl⟩
    refine ⟨fun wu2 hC hd => ?_, ?_⟩
    · obtain ⟨h1, _⟩ := hd
      skip
      replace h1 : V 1 = (.string ep.1) := h1
      replace hb := hb.trans (hC.mono hb.size)
      replace hk1 := blk_ext hk1 hC
      exact Runs.does (r_lens (congrArg some h1) Try.underlying9) ⟨Below.refl _ _, rfl, nofr rfl⟩
    refine ⟨fun wu3 hC hd => ?_, ?_⟩
    · obtain ⟨h2, _⟩ := hd
      skip
      replace h2 : V 2 = (.int .i64 ((ep.1.size : Nat) : Int)) := h2
      replace hb := hb.trans (hC.mono hb.size)
      replace hk1 := blk_ext hk1 hC
      refine Does.mono (d_callB (vs := [(.int .i64 ((ep.1.size : Nat) : Int))]) (show [some (V 2)] = [some (.int .i64 ((ep.1.size : Nat) : Int))] from by rw [h2]) Try.func111 (by kernel_rfl) (by kernel_rfl) (count_any ep.1.size _ (by omega))) (fun _ _ h => ⟨h.2, h.1, nofr rfl⟩)
    refine ⟨fun wu4 hC hd => ?_, ?_⟩
    · clear hd
      replace hb := hb.trans (hC.mono hb.size)
      replace hk1 := blk_ext hk1 hC
      exact Runs.does (r_fa rfl Try.underlying26 (f := 0) (q := 0) rfl (by kernel_rfl) rfl) ⟨Below.refl _ _, rfl, nofr rfl⟩
    refine ⟨fun wu5 hC hd => ?_, ?_⟩
    · obtain ⟨h4, _⟩ := hd
      skip
      replace h4 : V 4 = (.pointer (some ⟨b1, 0, none⟩)) := h4
      replace hb := hb.trans (hC.mono hb.size)
      replace hk1 := blk_ext hk1 hC
      exact Runs.does (r_load (v := (.string ep.1)) (congrArg some h4) Try.underlying9 rfl (cell_blk hk1 rfl)) ⟨Below.refl _ _, rfl, nofr rfl⟩
    refine ⟨fun wu6 hC hd => ?_, ?_⟩
    · obtain ⟨h3, h5, _⟩ := hd
      skip
      skip
      replace h3 : V 3 = (.string (cntS ep.1.size)) := h3
      replace h5 : V 5 = (.string ep.1) := h5
      replace hb := hb.trans (hC.mono hb.size)
      replace hk1 := blk_ext hk1 hC
      exact Runs.does (r_sadd (congrArg some h3) (congrArg some h5) (by have := cntS_le (n := ep.1.size) (by omega); omega)) ⟨Below.refl _ _, rfl, nofr rfl⟩
    refine ⟨fun wu7 hC hd => ?_, ?_⟩
    · clear hd
      replace hb := hb.trans (hC.mono hb.size)
      replace hk1 := blk_ext hk1 hC
      exact Runs.does (r_fa rfl Try.underlying26 (f := 1) (q := 1) rfl (by kernel_rfl) rfl) ⟨Below.refl _ _, rfl, nofr rfl⟩
    refine ⟨fun wu8 hC hd => ?_, ?_⟩
    · obtain ⟨h7, _⟩ := hd
      skip
      replace h7 : V 7 = (.pointer (some ⟨b1, 1, none⟩)) := h7
      replace hb := hb.trans (hC.mono hb.size)
      replace hk1 := blk_ext hk1 hC
      exact Runs.does (r_load (v := (.int .u8 ep.2.1)) (congrArg some h7) Try.underlying5 rfl (cell_blk hk1 rfl)) ⟨Below.refl _ _, rfl, nofr rfl⟩
    refine ⟨fun wu9 hC hd => ?_, ?_⟩
    · obtain ⟨h8, _⟩ := hd
      skip
      replace h8 : V 8 = (.int .u8 ep.2.1) := h8
      replace hb := hb.trans (hC.mono hb.size)
      replace hk1 := blk_ext hk1 hC
      refine Does.mono (d_bslice (z := (.int .u8 (0 : Int))) (sz := 1) (vs := [(0, (.int .u8 ep.2.1))]) (cs := #[(.int .u8 ep.2.1)]) (show [(0, some (V 8))] = [(0, some (.int .u8 ep.2.1))] from by rw [h8]) Try.underlying47 (by kernel_rfl) rfl (by kernel_rfl)) ?_
      rintro _ w' ⟨b, rfl, hF⟩
      exact ⟨hF.2.2, ⟨b, rfl, Nat.le_trans hC.size hF.1, hF.2.1⟩, isfr rfl hF.1 (blk_lt hF.2.1)⟩
    refine ⟨fun wu10 hC hd => ?_, ?_⟩
    · obtain ⟨h9, _⟩ := hd
      skip
      obtain ⟨b2, h9, hle2, hk2⟩ := h9
      replace hb := hb.trans (hC.mono hb.size)
      replace hk1 := blk_ext hk1 hC
      exact Runs.does (r_rowstr (congrArg some h9) Try.underlying47 Try.underlying5 Try.underlying9 (Row.of_new (k := 1) (V := vInt .u8) (l := [ep.2.1]) hk2 (Nat.le_refl _) rfl rfl (Nat.le_of_ble_eq_true rfl))) ⟨Below.refl _ _, rfl, nofr rfl⟩
    refine ⟨fun wu11 hC hd => ?_, ?_⟩
    · obtain ⟨h6, h10, _⟩ := hd
      skip
      skip
      replace h6 : V 6 = (.string ((cntS ep.1.size) ++ ep.1)) := h6
      replace h10 : V 10 = (.string (strOfNums [ep.2.1])) := h10
      replace hb := hb.trans (hC.mono hb.size)
      replace hk1 := blk_ext hk1 hC
      exact Runs.does (r_sadd (congrArg some h6) (congrArg some h10) (by have := cntS_le (n := ep.1.size) (by omega); have := sz_app (cntS ep.1.size) ep.1; have := strOfNums_size [ep.2.1]; (try simp only [List.length_cons, List.length_nil, List.length_append] at this); omega)) ⟨Below.refl _ _, rfl, nofr rfl⟩
    refine ⟨fun wu12 hC hd => ?_, ?_⟩
    · clear hd
      replace hb := hb.trans (hC.mono hb.size)
      replace hk1 := blk_ext hk1 hC
      exact Runs.does (r_fa rfl Try.underlying26 (f := 2) (q := 2) rfl (by kernel_rfl) rfl) ⟨Below.refl _ _, rfl, nofr rfl⟩
    refine ⟨fun wu13 hC hd => ?_, ?_⟩
    · obtain ⟨h12, _⟩ := hd
      skip
      replace h12 : V 12 = (.pointer (some ⟨b1, 2, none⟩)) := h12
      replace hb := hb.trans (hC.mono hb.size)
      replace hk1 := blk_ext hk1 hC
      exact Runs.does (r_load (v := (.int .u32 ep.2.2.1)) (congrArg some h12) Try.underlying24 rfl (cell_blk hk1 rfl)) ⟨Below.refl _ _, rfl, nofr rfl⟩
    refine ⟨fun wu14 hC hd => ?_, ?_⟩
    · obtain ⟨h13, _⟩ := hd
      skip
      replace h13 : V 13 = (.int .u32 ep.2.2.1) := h13
      replace hb := hb.trans (hC.mono hb.size)
      replace hk1 := blk_ext hk1 hC
      exact Runs.does (r_conv (C := ep.2.2.1) (congrArg some h13) Try.underlying24 Try.underlying3 (by rw [IntKind.wrap_i64]; omega)) ⟨Below.refl _ _, rfl, nofr rfl⟩
    refine ⟨fun wu15 hC hd => ?_, ?_⟩
    · obtain ⟨h3, h14, _⟩ := hd
      skip
      skip
      replace h3 : V 3 = (.string (cntS ep.1.size)) := h3
      replace h14 : V 14 = (.int .i64 ep.2.2.1) := h14
      replace hb := hb.trans (hC.mono hb.size)
      replace hk1 := blk_ext hk1 hC
      refine Does.mono (d_callB (vs := [(.int .i64 ep.2.2.1)]) (show [some (V 14)] = [some (.int .i64 ep.2.2.1)] from by rw [h14]) Try.func111 (by kernel_rfl) (by kernel_rfl) (count_anyI ep.2.2.1 (by omega) (by omega) _)) (fun _ _ h => ⟨h.2, h.1, nofr rfl⟩)
    refine ⟨fun wu16 hC hd => ?_, ?_⟩
    · obtain ⟨h11, h15, _⟩ := hd
      skip
      skip
      replace h11 : V 11 = (.string (((cntS ep.1.size) ++ ep.1) ++ (strOfNums [ep.2.1]))) := h11
      replace h15 : V 15 = (.string (cntS ep.2.2.1.toNat)) := h15
      replace hb := hb.trans (hC.mono hb.size)
      replace hk1 := blk_ext hk1 hC
      exact Runs.does (r_sadd (congrArg some h11) (congrArg some h15) (by have := cntS_le (n := ep.1.size) (by omega); have := sz_app (cntS ep.1.size) ep.1; have := strOfNums_size [ep.2.1]; (try simp only [List.length_cons, List.length_nil, List.length_append] at this); have := sz_app ((cntS ep.1.size) ++ ep.1) (strOfNums [ep.2.1]); have := cntS_le (n := ep.2.2.1.toNat) (by omega); omega)) ⟨Below.refl _ _, rfl, nofr rfl⟩
    refine ⟨fun wu17 hC hd => ?_, ?_⟩
    · obtain ⟨h0, h1, h2, h3, h4, h5, h6, h7, h8, h9, h10, h11, h12, h13, h14, h15, h16, _⟩ := hd
      skip
      skip
      skip
      skip
      skip
      skip
      skip
      skip
      skip
      skip
      skip
      skip
      skip
      skip
      skip
      skip
      skip
      replace h0 : V 0 = (.pointer (some ⟨b1, 0, none⟩)) := h0
      replace h1 : V 1 = (.string ep.1) := h1
      replace h2 : V 2 = (.int .i64 ((ep.1.size : Nat) : Int)) := h2
      replace h3 : V 3 = (.string (cntS ep.1.size)) := h3
      replace h4 : V 4 = (.pointer (some ⟨b1, 0, none⟩)) := h4
      replace h5 : V 5 = (.string ep.1) := h5
      replace h6 : V 6 = (.string ((cntS ep.1.size) ++ ep.1)) := h6
      replace h7 : V 7 = (.pointer (some ⟨b1, 1, none⟩)) := h7
      replace h8 : V 8 = (.int .u8 ep.2.1) := h8
      obtain ⟨b2, h9, hle2, hk2⟩ := h9
      replace h10 : V 10 = (.string (strOfNums [ep.2.1])) := h10
      replace h11 : V 11 = (.string (((cntS ep.1.size) ++ ep.1) ++ (strOfNums [ep.2.1]))) := h11
      replace h12 : V 12 = (.pointer (some ⟨b1, 2, none⟩)) := h12
      replace h13 : V 13 = (.int .u32 ep.2.2.1) := h13
      replace h14 : V 14 = (.int .i64 ep.2.2.1) := h14
      replace h15 : V 15 = (.string (cntS ep.2.2.1.toNat)) := h15
      replace h16 : V 16 = (.string ((((cntS ep.1.size) ++ ep.1) ++ (strOfNums [ep.2.1])) ++ (cntS ep.2.2.1.toNat))) := h16
      replace hb := hb.trans (hC.mono hb.size)
      replace hk1 := blk_ext hk1 hC
      exact Runs.does (r_assign (congrArg some h16)) ⟨Below.refl _ _, rfl, nofr rfl⟩
    trivial
  · skip
    clear hf fa; intro V w2 fa he2 hp hnb hf
    have hv0 : V 0 = (.pointer (some ⟨b1, 0, none⟩)) := postsHold_at hp 0 rfl
    have hv1 : V 1 = (.string ep.1) := postsHold_at hp 1 rfl
    have hv2 : V 2 = (.int .i64 ((ep.1.size : Nat) : Int)) := postsHold_at hp 2 rfl
    have hv3 : V 3 = (.string (cntS ep.1.size)) := postsHold_at hp 3 rfl
    have hv4 : V 4 = (.pointer (some ⟨b1, 0, none⟩)) := postsHold_at hp 4 rfl
    have hv5 : V 5 = (.string ep.1) := postsHold_at hp 5 rfl
    have hv6 : V 6 = (.string ((cntS ep.1.size) ++ ep.1)) := postsHold_at hp 6 rfl
    have hv7 : V 7 = (.pointer (some ⟨b1, 1, none⟩)) := postsHold_at hp 7 rfl
    have hv8 : V 8 = (.int .u8 ep.2.1) := postsHold_at hp 8 rfl
    have hv9 := postsHold_at hp 9 rfl
    obtain ⟨b2, hv9, hle2, hk2⟩ := hv9
    have hBb2 : w.heap.size ≤ b2 := Nat.le_trans hb.size hle2
    have hv10 : V 10 = (.string (strOfNums [ep.2.1])) := postsHold_at hp 10 rfl
    have hv11 : V 11 = (.string (((cntS ep.1.size) ++ ep.1) ++ (strOfNums [ep.2.1]))) := postsHold_at hp 11 rfl
    have hv12 : V 12 = (.pointer (some ⟨b1, 2, none⟩)) := postsHold_at hp 12 rfl
    have hv13 : V 13 = (.int .u32 ep.2.2.1) := postsHold_at hp 13 rfl
    have hv14 : V 14 = (.int .i64 ep.2.2.1) := postsHold_at hp 14 rfl
    have hv15 : V 15 = (.string (cntS ep.2.2.1.toNat)) := postsHold_at hp 15 rfl
    have hv16 : V 16 = (.string ((((cntS ep.1.size) ++ ep.1) ++ (strOfNums [ep.2.1])) ++ (cntS ep.2.2.1.toNat))) := postsHold_at hp 16 rfl
    have hv17 : V 17 = (.string ((((cntS ep.1.size) ++ ep.1) ++ (strOfNums [ep.2.1])) ++ (cntS ep.2.2.1.toNat))) := postsHold_at hp 17 rfl
    simp only [List.take_succ_cons, List.take_zero, insAll, ins, hv0, hv1, hv2, hv3, hv4, hv5, hv6, hv7, hv8, hv9, hv10, hv11, hv12, hv13, hv14, hv15, hv16, hv17] at hf
    have : b1 < b2 := Nat.lt_of_lt_of_le (blk_lt hk1) hle2
    clear hp hnb hv0 hv1 hv2 hv3 hv4 hv5 hv6 hv7 hv8 hv9 hv10 hv11 hv12 hv13 hv14 hv15 hv16 hv17
    replace hk1 := blk_ext hk1 he2
    replace hb := hb.trans (Below.mono he2 hb.size)
    (try simp only [Exit.then, Exit.inBlock, ↓reduceIte, Nat.reduceEqDiff])
    refine hK2 _ _ ?_
    refine wp_ret ?_
    (try simp only [Exit.then, Exit.inBlock])
    refine ret1 hf rfl rfl ?_
    rw [encE_str]; exact ⟨rfl, hb⟩

set_option maxHeartbeats 1000000 in
set_option maxRecDepth 100000 in
theorem sexp_any (bs base p : Nat) (a : Option Addr) (c : Nat) (l : List Int) (w : World) (hks : w.heap[bs]? = some (.cells #[(.slice a l.length c), (.int .i64 ((p : Nat) : Int))] 161 (0, 0))) (hr0 : Row 1 (vInt .u8) 5 base w (.slice a l.length c) l) (hp : p ≤ l.length) (hb6 : ∀ y ∈ l, 0 ≤ y ∧ y < 256) (hlm : l.length ≤ 1000000) (ep : MExp) (hA : At l p (encE ep)) (hx2 : 0 ≤ ep.2.2.1 ∧ ep.2.2.1 < 4294967296) (hr : erightP ep = 0) : Calls Try.prog 73 #[(.pointer (some ⟨bs, 0, none⟩))] w fun e w' => e = .returned (.agg #[(.string ep.1), (.int .u8 ep.2.1), (.int .u32 ep.2.2.1)]) ∧ Wrote w bs #[(.slice a l.length c), (.int .i64 (((p + (encE ep).length) : Nat) : Int))] 161 w' := by
  have hcap := Row.caps hr0; have hR0lt := fun q hq => (Row.lt hr0 q hq).2; obtain ⟨hck, hkd⟩ := eright_parts hr; have hgn := goodN_of hck; have hA0 := hA.mv rfl (encE_form ep); have hA1 := hA0.fst
  have hA2 : At l (p + (uL (nums ep.1).length).length + (nums ep.1).length) ([ep.2.1] ++ uL ep.2.2.1.toNat) := hA0.snd.mv (by rw [List.length_append]; omega) rfl
  have hA3 := At.tail hA2; have hle := hA.le; have hEl : (encE ep).length = (uL (nums ep.1).length).length + (nums ep.1).length + 1 + (uL ep.2.2.1.toNat).length := by rw [encE_form]; simp only [List.length_append, List.length_cons, List.length_nil]; omega
  refine sx_enter (L := [(0, (.pointer (some ⟨bs, 0, none⟩)))]) Try.func73 rfl rfl rfl rfl (fun fa hf => ?_)
  have hb : KB bs w.heap.size w w := KB.refl _ _ _
  refine wp_seq_k (fun K1 hK1 => ?_)
  refine wp_region_lit ?_
  refine sqdt hf (d_alloc (z := (.agg #[(.string ⟨#[]⟩), (.int .u8 (0 : Int)), (.int .u32 (0 : Int))])) (cs := #[(.string ⟨#[]⟩), (.int .u8 (0 : Int)), (.int .u32 (0 : Int))]) (by kernel_rfl) rfl) rfl rfl rfl ?_; clear hf fa; rintro fa _ w1 ⟨b1, rfl, hle1, hk1, he1⟩ hf
  have hBb1 : w.heap.size ≤ b1 := Nat.le_trans hb.size hle1
  have : bs < b1 := Nat.lt_of_lt_of_le (blk_lt hks) hle1
  replace hks := blk_ext hks he1
  replace hr0 := Row.ext hr0 he1
  replace hb := hb.trans (Below.mono he1 hb.size)
  apply wpList_nil
  (try simp only [Exit.then, Exit.inBlock, ↓reduceIte, Nat.reduceEqDiff])
  refine hK1 _ _ ?_
  refine wp_seq_k (fun K2 hK2 => ?_)
  refine wp_region_lit ?_
  refine sqv hf (r_move rfl) rfl rfl rfl ?_; clear hf fa; intro fa hf
  refine sqdt hf (d_callW (v := (.string (strOfNums (nums ep.1)))) (b := bs) (T := 161) (cs := #[(.slice a l.length c), (.int .i64 (((p + (uL ((nums ep.1)).length).length + ((nums ep.1)).length) : Nat) : Int))]) (vs := [(.pointer (some ⟨bs, 0, none⟩))]) rfl Try.func125 (by kernel_rfl) (by kernel_rfl) (sname_any bs base p a c l _ hks hr0 (by omega) hb6 hlm (nums ep.1) hA1 hgn.2 hgn.1)) rfl rfl rfl ?_; clear hf fa; rintro fa _ w2 ⟨rfl, hk2, hg1⟩ hf
  replace hk1 := blk_grown hk1 hg1 (by omega)
  replace hr0 := Row.grown hr0 hg1 (Row.ne_type hr0 hks rfl)
  replace hb := hb.wrote hg1 hb.size
  refine sqv hf (r_build (vs := [(0, (.string (strOfNums (nums ep.1))))]) (cs := #[(.string (strOfNums (nums ep.1))), (.int .u8 (0 : Int)), (.int .u32 (0 : Int))]) rfl (fun _ => by kernel_rfl)) rfl rfl rfl ?_; clear hf fa; intro fa hf
  refine sqdt hf (d_alloc (z := (.agg #[(.string ⟨#[]⟩), (.int .u8 (0 : Int)), (.int .u32 (0 : Int))])) (cs := #[(.string ⟨#[]⟩), (.int .u8 (0 : Int)), (.int .u32 (0 : Int))]) (by kernel_rfl) rfl) rfl rfl rfl ?_; clear hf fa; rintro fa _ w3 ⟨b2, rfl, hle2, hk3, he2⟩ hf
  have hBb2 : w.heap.size ≤ b2 := Nat.le_trans hb.size hle2
  have : bs < b2 := Nat.lt_of_lt_of_le (blk_lt hk2) hle2
  have : b1 < b2 := Nat.lt_of_lt_of_le (blk_lt hk1) hle2
  replace hk2 := blk_ext hk2 he2
  replace hk1 := blk_ext hk1 he2
  replace hr0 := Row.ext hr0 he2
  replace hb := hb.trans (Below.mono he2 hb.size)
  refine sqn hf (d_storeK (T := 26) (v := (.agg #[(.string (strOfNums (nums ep.1))), (.int .u8 (0 : Int)), (.int .u32 (0 : Int))])) (cs := #[(.string ⟨#[]⟩), (.int .u8 (0 : Int)), (.int .u32 (0 : Int))]) (cs' := #[(.string (strOfNums (nums ep.1))), (.int .u8 (0 : Int)), (.int .u32 (0 : Int))]) rfl rfl (by kernel_rfl) (by kernel_rfl) hk3 (by kernel_rfl) (by kernel_rfl)) rfl rfl ?_; clear hf fa; rintro fa _ w4 ⟨hk4, hg2⟩ hf
  replace hk2 := blk_grown hk2 hg2 (by omega)
  replace hk1 := blk_grown hk1 hg2 (by omega)
  replace hr0 := Row.grown hr0 hg2 (Row.ne_type hr0 hk3 rfl)
  replace hb := hb.trans (grown_below hg2 hb.size hBb2)
  apply wpList_nil
  (try simp only [Exit.then, Exit.inBlock, ↓reduceIte, Nat.reduceEqDiff])
  refine hK2 _ _ ?_
  refine wp_seq_k (fun K3 hK3 => ?_)
  refine wp_region_lit ?_
  refine sqv hf (r_move rfl) rfl rfl rfl ?_; clear hf fa; intro fa hf
  refine sqdt hf (d_callB (vs := [(.pointer (some ⟨bs, 0, none⟩))]) rfl Try.func126 (by kernel_rfl) (by kernel_rfl) (at_any bs base ((p + (uL ((nums ep.1)).length).length + ((nums ep.1)).length)) a c l _ hk2 hr0 (by omega))) rfl rfl rfl ?_; clear hf fa; rintro fa _ w5 ⟨rfl, he3⟩ hf
  replace hk2 := blk_ext hk2 he3
  replace hk1 := blk_ext hk1 he3
  replace hk4 := blk_ext hk4 he3
  replace hr0 := Row.ext hr0 he3
  replace hb := hb.trans (Below.mono he3 hb.size)
  refine sqv hf (r_assign rfl) rfl rfl rfl ?_; clear hf fa; intro fa hf
  apply wpList_nil
  (try simp only [Exit.then, Exit.inBlock, ↓reduceIte, Nat.reduceEqDiff])
  refine hK3 _ _ ?_
  refine wp_seq_k (fun K4 hK4 => ?_)
  refine wp_region_lit ?_
  refine sqv hf (r_move rfl) rfl rfl rfl ?_; clear hf fa; intro fa hf
  refine sqdt hf (d_callW (v := (.int .u8 ep.2.1)) (b := bs) (T := 161) (cs := #[(.slice a l.length c), (.int .i64 (((((p + (uL ((nums ep.1)).length).length + ((nums ep.1)).length)) + 1) : Nat) : Int))]) (vs := [(.pointer (some ⟨bs, 0, none⟩))]) rfl Try.func61 (by kernel_rfl) (by kernel_rfl) (sbyte_any bs base ((p + (uL ((nums ep.1)).length).length + ((nums ep.1)).length)) a c l _ hk2 hr0 (by omega) ep.2.1 (At.head hA2))) rfl rfl rfl ?_; clear hf fa; rintro fa _ w6 ⟨rfl, hk5, hg3⟩ hf
  replace hk1 := blk_grown hk1 hg3 (by omega)
  replace hk4 := blk_grown hk4 hg3 (by omega)
  replace hr0 := Row.grown hr0 hg3 (Row.ne_type hr0 hk2 rfl)
  replace hb := hb.wrote hg3 hb.size
  refine sqv hf (r_fa rfl Try.underlying26 (f := 1) (q := 1) rfl (by kernel_rfl) rfl) rfl rfl rfl ?_; clear hf fa; intro fa hf
  refine sqn hf (d_storeK (T := 26) (v := (.int .u8 ep.2.1)) (cs := #[(.string (strOfNums (nums ep.1))), (.int .u8 (0 : Int)), (.int .u32 (0 : Int))]) (cs' := #[(.string (strOfNums (nums ep.1))), (.int .u8 ep.2.1), (.int .u32 (0 : Int))]) rfl rfl (by kernel_rfl) (by kernel_rfl) hk4 (by kernel_rfl) (by kernel_rfl)) rfl rfl ?_; clear hf fa; rintro fa _ w7 ⟨hk6, hg4⟩ hf
  replace hk5 := blk_grown hk5 hg4 (by omega)
  replace hk1 := blk_grown hk1 hg4 (by omega)
  replace hr0 := Row.grown hr0 hg4 (Row.ne_type hr0 hk4 rfl)
  replace hb := hb.trans (grown_below hg4 hb.size hBb2)
  apply wpList_nil
  (try simp only [Exit.then, Exit.inBlock, ↓reduceIte, Nat.reduceEqDiff])
  refine hK4 _ _ ?_
  refine wp_seq_k (fun K5 hK5 => ?_)
  refine wp_region_lit ?_
  refine sqv hf (r_fa rfl Try.underlying26 (f := 1) (q := 1) rfl (by kernel_rfl) rfl) rfl rfl rfl ?_; clear hf fa; intro fa hf
  refine sqv hf (r_load (v := (.int .u8 ep.2.1)) rfl Try.underlying5 rfl (cell_blk hk6 rfl)) rfl rfl rfl ?_; clear hf fa; intro fa hf
  refine sqv hf (r_le rfl rfl) rfl rfl rfl ?_; clear hf fa; intro fa hf
  refine sqv hf (r_move rfl) rfl rfl rfl ?_; clear hf fa; intro fa hf
  refine sqdt hf (d_callB (vs := [(.bool (decide (ep.2.1 ≤ (3 : Int)))), (.int .i64 (43 : Int)), (.int .i64 ((((p + (uL ((nums ep.1)).length).length + ((nums ep.1)).length)) : Nat) : Int))]) rfl Try.func118 (by kernel_rfl) (by kernel_rfl) (unless_any (decide (ep.2.1 ≤ (3 : Int))) (43 : Int) ((((p + (uL ((nums ep.1)).length).length + ((nums ep.1)).length)) : Nat) : Int) _ (by first | rfl | assumption | (simp; done) | (simp; omega)))) rfl rfl rfl ?_; clear hf fa; rintro fa _ w8 ⟨rfl, he4⟩ hf
  replace hk5 := blk_ext hk5 he4
  replace hk1 := blk_ext hk1 he4
  replace hk6 := blk_ext hk6 he4
  replace hr0 := Row.ext hr0 he4
  replace hb := hb.trans (Below.mono he4 hb.size)
  apply wpList_nil
  (try simp only [Exit.then, Exit.inBlock, ↓reduceIte, Nat.reduceEqDiff])
  refine hK5 _ _ ?_
  refine wp_seq_k (fun K6 hK6 => ?_)
  refine wp_region_lit ?_
  refine sqv hf (r_move rfl) rfl rfl rfl ?_; clear hf fa; intro fa hf
  refine sqdt hf (d_callW (v := (.int .u32 ((ep.2.2.1.toNat : Nat) : Int))) (b := bs) (T := 161) (cs := #[(.slice a l.length c), (.int .i64 (((((((p + (uL ((nums ep.1)).length).length + ((nums ep.1)).length)) + 1)) + (uL ep.2.2.1.toNat).length) : Nat) : Int))]) (vs := [(.pointer (some ⟨bs, 0, none⟩))]) rfl Try.func121 (by kernel_rfl) (by kernel_rfl) (index_any bs base ((((p + (uL ((nums ep.1)).length).length + ((nums ep.1)).length)) + 1)) a c l _ hk5 hr0 (by omega) hb6 hlm ep.2.2.1.toNat hA3 (by omega))) rfl rfl rfl ?_; clear hf fa; rintro fa _ w9 ⟨rfl, hk7, hg5⟩ hf
  replace hk1 := blk_grown hk1 hg5 (by omega)
  replace hk6 := blk_grown hk6 hg5 (by omega)
  replace hr0 := Row.grown hr0 hg5 (Row.ne_type hr0 hk5 rfl)
  replace hb := hb.wrote hg5 hb.size
  refine sqv hf (r_fa rfl Try.underlying26 (f := 2) (q := 2) rfl (by kernel_rfl) rfl) rfl rfl rfl ?_; clear hf fa; intro fa hf
  refine sqn hf (d_storeK (T := 26) (v := (.int .u32 ((ep.2.2.1.toNat : Nat) : Int))) (cs := #[(.string (strOfNums (nums ep.1))), (.int .u8 ep.2.1), (.int .u32 (0 : Int))]) (cs' := #[(.string (strOfNums (nums ep.1))), (.int .u8 ep.2.1), (.int .u32 ((ep.2.2.1.toNat : Nat) : Int))]) rfl rfl (by kernel_rfl) (by kernel_rfl) hk6 (by kernel_rfl) (by kernel_rfl)) rfl rfl ?_; clear hf fa; rintro fa _ w10 ⟨hk8, hg6⟩ hf
  replace hk7 := blk_grown hk7 hg6 (by omega)
  replace hk1 := blk_grown hk1 hg6 (by omega)
  replace hr0 := Row.grown hr0 hg6 (Row.ne_type hr0 hk6 rfl)
  replace hb := hb.trans (grown_below hg6 hb.size hBb2)
  apply wpList_nil
  (try simp only [Exit.then, Exit.inBlock, ↓reduceIte, Nat.reduceEqDiff])
  refine hK6 _ _ ?_
  refine wp_seq_k (fun K7 hK7 => ?_)
  refine wp_region_lit ?_
  refine sqv hf (r_loadA (cs := [(.string (strOfNums (nums ep.1))), (.int .u8 ep.2.1), (.int .u32 ((ep.2.2.1.toNat : Nat) : Int))]) rfl Try.underlying26 rfl (by kernel_rfl) (cellsAt_blk hk8)) rfl rfl rfl ?_; clear hf fa; intro fa hf
  refine sqn hf (d_storeK (T := 26) (v := (.agg #[(.string (strOfNums (nums ep.1))), (.int .u8 ep.2.1), (.int .u32 ((ep.2.2.1.toNat : Nat) : Int))])) (cs := #[(.string ⟨#[]⟩), (.int .u8 (0 : Int)), (.int .u32 (0 : Int))]) (cs' := #[(.string (strOfNums (nums ep.1))), (.int .u8 ep.2.1), (.int .u32 ((ep.2.2.1.toNat : Nat) : Int))]) rfl rfl (by kernel_rfl) (by kernel_rfl) hk1 (by kernel_rfl) (by kernel_rfl)) rfl rfl ?_; clear hf fa; rintro fa _ w11 ⟨hk9, hg7⟩ hf
  replace hk7 := blk_grown hk7 hg7 (by omega)
  replace hk8 := blk_grown hk8 hg7 (by omega)
  replace hr0 := Row.grown hr0 hg7 (Row.ne_type hr0 hk1 rfl)
  replace hb := hb.trans (grown_below hg7 hb.size hBb1)
  apply wpList_nil
  (try simp only [Exit.then, Exit.inBlock, ↓reduceIte, Nat.reduceEqDiff])
  refine hK7 _ _ ?_
  refine wp_ret ?_
  (try simp only [Exit.then, Exit.inBlock])
  refine retC hf rfl rfl hk9 Try.underlying26 rfl (by kernel_rfl) ?_
  refine ⟨?_, wrote_eq ⟨hk7, hb.grown⟩ (by rw [hEl]; omega)⟩
  rw [strOfNums_nums, show ((ep.2.2.1.toNat : Nat) : Int) = ep.2.2.1 by omega]
end Go.Proofs.Ytcmdajkkdognfaa
