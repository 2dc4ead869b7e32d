/- What is proved here: exports: the document. -/
import Derived.Test.YtcmdajkkdognfaaExB
namespace Go.Proofs.Ytcmdajkkdognfaa
open Go.RowKit
set_option linter.unusedVariables false
set_option linter.unusedSimpArgs false
theorem inS_iff {S : List ByteArray} {s : ByteArray} : inS S s = true ↔ s ∈ S := by
  unfold inS
  rw [List.any_eq_true]
  exact ⟨fun ⟨x, h1, h2⟩ => by rw [← of_decide_eq_true h2]; exact h1, fun h => ⟨s, h, decide_eq_true rfl⟩⟩
theorem nmsR_get {L : List MExp} {k j : Nat} {z : MExp} (hj : j < k) (hz : L[j]? = some z) : z.1 ∈ nmsR (L.take k) := by
  unfold nmsR
  exact List.mem_map.2 ⟨z, List.mem_of_getElem? (i := j) (by rw [List.getElem?_take_of_lt hj, hz]), rfl⟩

set_option maxHeartbeats 1000000 in
set_option maxRecDepth 100000 in
theorem rtwice_any (a : Option Addr) (L : List MExp) (c : Nat) (w : World) (hl : RdS 3 vMExp w a L) (hlc : L.length ≤ c) (hlm : L.length ≤ 4096) (hLs : ∀ y ∈ L, y.1.size ≤ maxLen) : Calls Try.prog 19 #[(.slice a L.length c)] w fun e w' => e = .returned (.int .i64 (twI [] L 0)) ∧ Below w.heap.size w w' := by
  refine sx_enter (L := [(0, (.slice a L.length c))]) Try.func19 rfl rfl rfl rfl (fun fa hf => ?_)
  have hb : Below w.heap.size w w := Below.refl _ _
  refine wp_seq_k (fun K1 hK1 => ?_)
  refine wp_region_lit ?_
  refine sqv hf (r_assign rfl) rfl rfl rfl ?_; clear hf fa; intro fa hf
  apply wpList_nil
  (try simp only [Exit.then, Exit.inBlock, ↓reduceIte, Nat.reduceEqDiff])
  refine hK1 _ _ ?_
  refine wp_seq_k (fun K2 hK2 => ?_)
  refine wp_seq_k (fun K3 hK3 => ?_)
  refine wp_region_lit ?_
  refine sqv hf (r_assign rfl) rfl rfl rfl ?_; clear hf fa; intro fa hf
  apply wpList_nil
  (try simp only [Exit.then, Exit.inBlock, ↓reduceIte, Nat.reduceEqDiff])
  refine hK3 _ _ ?_
  refine wp_block ?_
  refine wp_loop_k (fun mq fa wr => ∃ (k : Nat), mq = L.length - k ∧ Fr 28 fa [(0, (.slice a L.length c)), (3, (.int .i64 ((k : Nat) : Int)))] ∧ Below w.heap.size w wr ∧ (k ≤ L.length) ∧ (twI [] L 0 = twI (nmsR (L.take k)) (L.drop k) k)) ?_ ?_
  · skip
    exact ⟨_, 0, rfl, hf.sub ⟨rfl, (some_int (by first | rfl | omega)), trivial⟩, hb, by omega, rfl⟩
  · skip
    clear hf fa; intro mq1 fa w1 hI KL1 hKL1
    clear hb
    obtain ⟨k, hmq1, hf, hb, hk, Hs⟩ := hI
    refine wp_seq_k (fun K4 hK4 => ?_)
    refine wp_seq_k (fun K5 hK5 => ?_)
    refine wp_region_lit ?_
    refine sqv hf (r_move rfl) rfl rfl rfl ?_; clear hf fa; intro fa hf
    refine sqv hf (r_move rfl) rfl rfl rfl ?_; clear hf fa; intro fa hf
    refine sqv hf (r_lensl rfl Try.underlying22) rfl rfl rfl ?_; clear hf fa; intro fa hf
    refine sqv hf (r_lt rfl rfl) rfl rfl rfl ?_; clear hf fa; intro fa hf
    apply wpList_nil
    (try simp only [Exit.then, Exit.inBlock, ↓reduceIte, Nat.reduceEqDiff])
    refine hK5 _ _ ?_
    refine wp_cond_split (t := (decide (((k : Nat) : Int) < ((L.length : Nat) : Int)))) (hf.ev rfl) (fun hqt8_1 => ?_) (fun hqt8_1 => ?_)
    · have hqt8_1b := hqt8_1
      try simp only [decide_eq_true_eq, Bool.and_eq_true, Bool.or_eq_true, Bool.not_eq_true', decide_eq_false_iff_not, ne_eq, Bool.not_eq_true] at hqt8_1
      refine wp_skip ?_
      (try simp only [Exit.then, Exit.inBlock, ↓reduceIte, Nat.reduceEqDiff])
      refine hK4 _ _ ?_
      refine wp_seq_k (fun K6 hK6 => ?_)
      refine wp_block ?_
      refine wp_seq_k (fun K7 hK7 => ?_)
      obtain ⟨y, hy⟩ : ∃ x, L[k]? = some x := ⟨_, List.getElem?_eq_getElem (by omega)⟩
      have hys := hLs y (List.mem_of_getElem? hy)
      refine wp_region_lit ?_
      refine sqv hf (r_assign rfl) rfl rfl rfl ?_; clear hf fa; intro fa hf
      apply wpList_nil
      (try simp only [Exit.then, Exit.inBlock, ↓reduceIte, Nat.reduceEqDiff])
      refine hK7 _ _ ?_
      refine wp_block ?_
      refine wp_loop_k (fun mq fa wr => ∃ (j : Nat), mq = k - j ∧ Fr 28 fa [(0, (.slice a L.length c)), (3, (.int .i64 ((k : Nat) : Int))), (4, (.int .i64 ((j : Nat) : Int)))] ∧ Below w.heap.size w wr ∧ (j ≤ k) ∧ (y.1 ∉ nmsR (L.take j))) ?_ ?_
      · skip
        exact ⟨_, 0, rfl, hf.sub ⟨rfl, rfl, (some_int (by first | rfl | omega)), trivial⟩, hb, by omega, by simp [nmsR]⟩
      · skip
        clear hf fa; intro mq2 fa w2 hI KL2 hKL2
        clear hb
        obtain ⟨j, hmq2, hf, hb, hj, Hj⟩ := hI
        refine wp_seq_k (fun K8 hK8 => ?_)
        refine wp_seq_k (fun K9 hK9 => ?_)
        refine wp_region_lit ?_
        refine sqv hf (r_move rfl) rfl rfl rfl ?_; clear hf fa; intro fa hf
        refine sqv hf (r_move rfl) rfl rfl rfl ?_; clear hf fa; intro fa hf
        refine sqv hf (r_lt rfl rfl) rfl rfl rfl ?_; clear hf fa; intro fa hf
        apply wpList_nil
        (try simp only [Exit.then, Exit.inBlock, ↓reduceIte, Nat.reduceEqDiff])
        refine hK9 _ _ ?_
        refine wp_cond_split (t := (decide (((j : Nat) : Int) < ((k : Nat) : Int)))) (hf.ev rfl) (fun hqt13_1 => ?_) (fun hqt13_1 => ?_)
        · have hqt13_1b := hqt13_1
          try simp only [decide_eq_true_eq, Bool.and_eq_true, Bool.or_eq_true, Bool.not_eq_true', decide_eq_false_iff_not, ne_eq, Bool.not_eq_true] at hqt13_1
          refine wp_skip ?_
          (try simp only [Exit.then, Exit.inBlock, ↓reduceIte, Nat.reduceEqDiff])
          refine hK8 _ _ ?_
          refine wp_seq_k (fun K10 hK10 => ?_)
          refine wp_block ?_
          refine wp_seq_k (fun K11 hK11 => ?_)
          obtain ⟨z, hz⟩ : ∃ x, L[j]? = some x := ⟨_, List.getElem?_eq_getElem (by omega)⟩
          have hy1 : (L)[k]? = some y := hy
          obtain ⟨ab1, aoff1, hat1, hlb1, hel1⟩ := RdS.at hl hy1
          have hy2 : (L)[j]? = some z := hz
          obtain ⟨_, _, hab1, hlb2, hel2⟩ := RdS.at hl hy2
          rw [hat1] at hab1; cases hab1
          refine wp_region_un (fun wq => Below w2.heap.size w2 wq) (fun w w' => Below w.heap.size w w')
            (fun V => [(fun x _ => x = (.slice a L.length c)), (fun x _ => x = (.int .i64 ((k : Nat) : Int))), (fun x _ => x = (.pointer (some ⟨ab1, (aoff1 + k * 3), none⟩))), (fun x _ => x = (.pointer (some ⟨ab1, (aoff1 + k * 3), none⟩))), (fun x _ => x = (.string y.1)), (fun x _ => x = (.slice a L.length c)), (fun x _ => x = (.int .i64 ((j : Nat) : Int))), (fun x _ => x = (.pointer (some ⟨ab1, (aoff1 + j * 3), none⟩))), (fun x _ => x = (.pointer (some ⟨ab1, (aoff1 + j * 3), none⟩))), (fun x _ => x = (.string z.1)), (fun x _ => x = (.bool (decide (y.1 = z.1))))])
            []
            [[], [], [0, 1], [2], [3], [], [], [5, 6], [7], [8], [4, 9]]
            hf (by kernel_rfl) (by kernel_rfl) (fun _ => rfl) ((Below.refl _ _).drew) (fun a b h1 h2 => h1.trans (h2.mono h1.size)) (fun _ _ h => h.size) (fun V => ⟨kept_eq, kept_eq, kept_eq, kept_eq, kept_eq, kept_eq, kept_eq, kept_eq, kept_eq, kept_eq, kept_eq, trivial⟩) (fun _ _ _ _ _ => rfl) ?_ ?_
          · skip
            intro V
            refine ⟨fun wu0 hC hd => ?_, ?_⟩
            · clear hd
              replace hb := hb.trans (hC.mono hb.size)
              exact Runs.does (r_move rfl) ⟨Below.refl _ _, rfl, nofr rfl⟩
            refine ⟨fun wu1 hC hd => ?_, ?_⟩
            · clear hd
              replace hb := hb.trans (hC.mono hb.size)
              exact Runs.does (r_move rfl) ⟨Below.refl _ _, rfl, nofr rfl⟩
            refine ⟨fun wu2 hC hd => ?_, ?_⟩
            · obtain ⟨h0, h1, _⟩ := hd
              skip
              skip
              replace h0 : V 0 = (.slice a L.length c) := h0
              replace h1 : V 1 = (.int .i64 ((k : Nat) : Int)) := h1
              replace hb := hb.trans (hC.mono hb.size)
              exact Runs.does (r_ixa (sz := 3) (j := k) (evAt (congrArg some h0) hat1) (congrArg some h1) Try.underlying22 (by kernel_rfl) rfl (by omega) rfl) ⟨Below.refl _ _, rfl, nofr rfl⟩
            refine ⟨fun wu3 hC hd => ?_, ?_⟩
            · obtain ⟨h2, _⟩ := hd
              skip
              replace h2 : V 2 = (.pointer (some ⟨ab1, (aoff1 + k * 3), none⟩)) := h2
              replace hb := hb.trans (hC.mono hb.size)
              exact Runs.does (r_fa (congrArg some h2) Try.underlying26 (f := 0) (q := (aoff1 + k * 3)) rfl (by kernel_rfl) rfl) ⟨Below.refl _ _, rfl, nofr rfl⟩
            refine ⟨fun wu4 hC hd => ?_, ?_⟩
            · obtain ⟨h3, _⟩ := hd
              skip
              replace h3 : V 3 = (.pointer (some ⟨ab1, (aoff1 + k * 3), none⟩)) := h3
              replace hb := hb.trans (hC.mono hb.size)
              exact Runs.does (r_load (v := (.string y.1)) (congrArg some h3) Try.underlying9 rfl (cellsAt_cell (cellsAt_below hel1 hb hlb1) (i := 0) rfl rfl)) ⟨Below.refl _ _, rfl, nofr rfl⟩
            refine ⟨fun wu5 hC hd => ?_, ?_⟩
            · clear hd
              replace hb := hb.trans (hC.mono hb.size)
              exact Runs.does (r_move rfl) ⟨Below.refl _ _, rfl, nofr rfl⟩
            refine ⟨fun wu6 hC hd => ?_, ?_⟩
            · clear hd
              replace hb := hb.trans (hC.mono hb.size)
              exact Runs.does (r_move rfl) ⟨Below.refl _ _, rfl, nofr rfl⟩
            refine ⟨fun wu7 hC hd => ?_, ?_⟩
            · obtain ⟨h5, h6, _⟩ := hd
              skip
              skip
              replace h5 : V 5 = (.slice a L.length c) := h5
              replace h6 : V 6 = (.int .i64 ((j : Nat) : Int)) := h6
              replace hb := hb.trans (hC.mono hb.size)
              exact Runs.does (r_ixa (sz := 3) (j := j) (evAt (congrArg some h5) hat1) (congrArg some h6) Try.underlying22 (by kernel_rfl) rfl (by omega) rfl) ⟨Below.refl _ _, rfl, nofr rfl⟩
            refine ⟨fun wu8 hC hd => ?_, ?_⟩
            · obtain ⟨h7, _⟩ := hd
              skip
              replace h7 : V 7 = (.pointer (some ⟨ab1, (aoff1 + j * 3), none⟩)) := h7
              replace hb := hb.trans (hC.mono hb.size)
              exact Runs.does (r_fa (congrArg some h7) Try.underlying26 (f := 0) (q := (aoff1 + j * 3)) rfl (by kernel_rfl) rfl) ⟨Below.refl _ _, rfl, nofr rfl⟩
            refine ⟨fun wu9 hC hd => ?_, ?_⟩
            · obtain ⟨h8, _⟩ := hd
              skip
              replace h8 : V 8 = (.pointer (some ⟨ab1, (aoff1 + j * 3), none⟩)) := h8
              replace hb := hb.trans (hC.mono hb.size)
              exact Runs.does (r_load (v := (.string z.1)) (congrArg some h8) Try.underlying9 rfl (cellsAt_cell (cellsAt_below hel2 hb hlb2) (i := 0) rfl rfl)) ⟨Below.refl _ _, rfl, nofr rfl⟩
            refine ⟨fun wu10 hC hd => ?_, ?_⟩
            · obtain ⟨h4, h9, _⟩ := hd
              skip
              skip
              replace h4 : V 4 = (.string y.1) := h4
              replace h9 : V 9 = (.string z.1) := h9
              replace hb := hb.trans (hC.mono hb.size)
              exact Runs.does (r_seq (congrArg some h4) (congrArg some h9)) ⟨Below.refl _ _, rfl, nofr rfl⟩
            trivial
          · skip
            clear hf fa; intro V w3 fa he1 hp hnb hf
            have hv0 : V 0 = (.slice a L.length c) := postsHold_at hp 0 rfl
            have hv1 : V 1 = (.int .i64 ((k : Nat) : Int)) := postsHold_at hp 1 rfl
            have hv2 : V 2 = (.pointer (some ⟨ab1, (aoff1 + k * 3), none⟩)) := postsHold_at hp 2 rfl
            have hv3 : V 3 = (.pointer (some ⟨ab1, (aoff1 + k * 3), none⟩)) := postsHold_at hp 3 rfl
            have hv4 : V 4 = (.string y.1) := postsHold_at hp 4 rfl
            have hv5 : V 5 = (.slice a L.length c) := postsHold_at hp 5 rfl
            have hv6 : V 6 = (.int .i64 ((j : Nat) : Int)) := postsHold_at hp 6 rfl
            have hv7 : V 7 = (.pointer (some ⟨ab1, (aoff1 + j * 3), none⟩)) := postsHold_at hp 7 rfl
            have hv8 : V 8 = (.pointer (some ⟨ab1, (aoff1 + j * 3), none⟩)) := postsHold_at hp 8 rfl
            have hv9 : V 9 = (.string z.1) := postsHold_at hp 9 rfl
            have hv10 : V 10 = (.bool (decide (y.1 = z.1))) := postsHold_at hp 10 rfl
            simp only [List.take_succ_cons, List.take_zero, insAll, ins, hv0, hv1, hv2, hv3, hv4, hv5, hv6, hv7, hv8, hv9, hv10] at hf
            clear hp hnb hv0 hv1 hv2 hv3 hv4 hv5 hv6 hv7 hv8 hv9 hv10
            replace hb := hb.trans (Below.mono he1 hb.size)
            (try simp only [Exit.then, Exit.inBlock, ↓reduceIte, Nat.reduceEqDiff])
            refine hK11 _ _ ?_
            refine wp_cond_split (t := (decide (y.1 = z.1))) (hf.ev rfl) (fun hqt26_1 => ?_) (fun hqt26_1 => ?_)
            · have hqt26_1b := hqt26_1
              try simp only [decide_eq_true_eq, Bool.and_eq_true, Bool.or_eq_true, Bool.not_eq_true', decide_eq_false_iff_not, ne_eq, Bool.not_eq_true] at hqt26_1
              refine wp_seq_k (fun K12 hK12 => ?_)
              refine wp_region_lit ?_
              refine sqv hf (r_move rfl) rfl rfl rfl ?_; clear hf fa; intro fa hf
              refine sqv hf (r_assign rfl) rfl rfl rfl ?_; clear hf fa; intro fa hf
              apply wpList_nil
              (try simp only [Exit.then, Exit.inBlock, ↓reduceIte, Nat.reduceEqDiff])
              refine hK12 _ _ ?_
              refine wp_ret ?_
              (try simp only [Exit.then, Exit.inBlock])
              refine ret1 hf rfl rfl ?_
              refine ⟨congrArg (fun n => Ending.returned (.int .i64 n)) ?_, hb⟩; rw [Hs, drop_at hy, twI, if_pos (inS_iff.2 (by rw [hqt26_1]; exact nmsR_get (by omega) hz))]
            · have hqt26_1b := hqt26_1
              replace hqt26_1 := Bool.eq_false_iff.1 hqt26_1
              try simp only [ne_eq, decide_eq_true_eq, Bool.and_eq_true, Bool.or_eq_true, Bool.not_eq_true', decide_eq_false_iff_not] at hqt26_1
              refine wp_skip ?_
              (try simp only [Exit.then, Exit.inBlock, ↓reduceIte, Nat.reduceEqDiff])
              refine hK10 _ _ ?_
              refine wp_region_lit ?_
              refine sqv hf (r_move rfl) rfl rfl rfl ?_; clear hf fa; intro fa hf
              refine sqv hf (r_add (C := (((j : Nat) : Int) + (1 : Int))) rfl rfl (by rw [IntKind.wrap_i64]; omega)) rfl rfl rfl ?_; clear hf fa; intro fa hf
              refine sqv hf (r_assign rfl) rfl rfl rfl ?_; clear hf fa; intro fa hf
              apply wpList_nil
              (try simp only [Exit.then, Exit.inBlock, ↓reduceIte, Nat.reduceEqDiff])
              refine hKL2 _ _ _ (by omega) ⟨(j + 1), rfl, hf.sub ⟨rfl, rfl, (some_int (by first | rfl | omega)), trivial⟩, hb, by omega, (by rw [← nmsR_snoc hz]; intro hm; rcases List.mem_append.1 hm with hm | hm; exact Hj hm; exact hqt26_1 (List.mem_singleton.1 hm))⟩
        · have hqt13_1b := hqt13_1
          replace hqt13_1 := Bool.eq_false_iff.1 hqt13_1
          try simp only [ne_eq, decide_eq_true_eq, Bool.and_eq_true, Bool.or_eq_true, Bool.not_eq_true', decide_eq_false_iff_not] at hqt13_1
          refine wp_exit ?_
          (try simp only [Exit.then, Exit.inBlock, ↓reduceIte, Nat.reduceEqDiff])
          refine hK6 _ _ ?_
          refine wp_region_lit ?_
          refine sqv hf (r_move rfl) rfl rfl rfl ?_; clear hf fa; intro fa hf
          refine sqv hf (r_add (C := (((k : Nat) : Int) + (1 : Int))) rfl rfl (by rw [IntKind.wrap_i64]; omega)) rfl rfl rfl ?_; clear hf fa; intro fa hf
          refine sqv hf (r_assign rfl) rfl rfl rfl ?_; clear hf fa; intro fa hf
          apply wpList_nil
          (try simp only [Exit.then, Exit.inBlock, ↓reduceIte, Nat.reduceEqDiff])
          refine hKL1 _ _ _ (by omega) ⟨(k + 1), rfl, hf.sub ⟨rfl, (some_int (by first | rfl | omega)), trivial⟩, hb, by omega, (by have h := Hs; rw [drop_at hy, twI, if_neg (fun e => Hj (by rw [show j = k by omega]; exact inS_iff.1 e)), nmsR_snoc hy] at h; exact h)⟩
    · have hqt8_1b := hqt8_1
      replace hqt8_1 := Bool.eq_false_iff.1 hqt8_1
      try simp only [ne_eq, decide_eq_true_eq, Bool.and_eq_true, Bool.or_eq_true, Bool.not_eq_true', decide_eq_false_iff_not] at hqt8_1
      refine wp_exit ?_
      (try simp only [Exit.then, Exit.inBlock, ↓reduceIte, Nat.reduceEqDiff])
      refine hK2 _ _ ?_
      refine wp_seq_k (fun K13 hK13 => ?_)
      refine wp_region_lit ?_
      refine sqv hf (r_assign rfl) rfl rfl rfl ?_; clear hf fa; intro fa hf
      apply wpList_nil
      (try simp only [Exit.then, Exit.inBlock, ↓reduceIte, Nat.reduceEqDiff])
      refine hK13 _ _ ?_
      refine wp_ret ?_
      (try simp only [Exit.then, Exit.inBlock])
      refine ret1 hf rfl rfl ?_
      refine ⟨congrArg (fun n => Ending.returned (.int .i64 n)) ?_, hb⟩; rw [Hs, List.drop_eq_nil_of_le (by omega), twI]

set_option maxHeartbeats 1000000 in
set_option maxRecDepth 100000 in
theorem names_any (a : Option Addr) (L : List MExp) (c : Nat) (kd : Int) (w : World) (hl : RdS 3 vMExp w a L) (hlc : L.length ≤ c) (hlm : L.length ≤ 4096) (hLs : ∀ y ∈ L, y.1.size ≤ maxLen) : Calls Try.prog 21 #[(.slice a L.length c), (.int .u8 kd)] w fun e w' => ∃ v, e = .returned v ∧ Row 1 vStr 9 w.heap.size w' v (nmsP L kd) ∧ Below w.heap.size w w' := by
  refine sx_enter (L := [(0, (.slice a L.length c)), (1, (.int .u8 kd))]) Try.func21 rfl rfl rfl rfl (fun fa hf => ?_)
  have hb : Below w.heap.size w w := Below.refl _ _
  refine wp_seq_k (fun K1 hK1 => ?_)
  refine wp_region_lit ?_
  refine sqv hf (r_assign rfl) rfl rfl rfl ?_; clear hf fa; intro fa hf
  apply wpList_nil
  (try simp only [Exit.then, Exit.inBlock, ↓reduceIte, Nat.reduceEqDiff])
  refine hK1 _ _ ?_
  refine wp_seq_k (fun K2 hK2 => ?_)
  refine wp_region_lit ?_
  refine sqv hf (r_assign rfl) rfl rfl rfl ?_; clear hf fa; intro fa hf
  apply wpList_nil
  (try simp only [Exit.then, Exit.inBlock, ↓reduceIte, Nat.reduceEqDiff])
  refine hK2 _ _ ?_
  refine wp_seq_k (fun K3 hK3 => ?_)
  refine wp_seq_k (fun K4 hK4 => ?_)
  refine wp_region_lit ?_
  refine sqv hf (r_move rfl) rfl rfl rfl ?_; clear hf fa; intro fa hf
  refine sqv hf (r_lensl rfl Try.underlying22) rfl rfl rfl ?_; clear hf fa; intro fa hf
  refine sqv hf (r_move rfl) rfl rfl rfl ?_; clear hf fa; intro fa hf
  apply wpList_nil
  (try simp only [Exit.then, Exit.inBlock, ↓reduceIte, Nat.reduceEqDiff])
  refine hK4 _ _ ?_
  refine wp_block ?_
  refine wp_loop_k (fun mq fa wr => ∃ (k : Nat) (roa : Option Addr) (roc : Nat), mq = L.length - k ∧ Fr 25 fa [(1, (.int .u8 kd)), (8, (.slice a L.length c)), (9, (.int .i64 ((L.length : Nat) : Int))), (10, (.int .i64 ((k : Nat) : Int))), (5, (.slice roa (((nmsP (L.take k) kd)).length) roc))] ∧ Below w.heap.size w wr ∧ Row 1 vStr 9 (w.heap.size) wr (.slice roa (((nmsP (L.take k) kd)).length) roc) (nmsP (L.take k) kd) ∧ (k ≤ L.length)) ?_ ?_
  · skip
    exact ⟨_, 0, none, 0, rfl, hf.sub ⟨rfl, rfl, rfl, (some_int (by first | rfl | omega)), (some_sl (by first | omega | (simp only [List.length_append, List.length_cons, List.length_nil]; omega) | (simp <;> omega)) rfl), trivial⟩, hb, Row.nil, by omega⟩
  · skip
    clear hf fa; intro mq1 fa w1 hI KL1 hKL1
    clear hb
    obtain ⟨k, roa, roc, hmq1, hf, hb, hro, hk⟩ := hI
    have hcro := Row.caps hro
    have hol := nms_len L k kd
    refine wp_seq_k (fun K5 hK5 => ?_)
    refine wp_region_lit ?_
    refine sqv hf (r_lt rfl rfl) rfl rfl rfl ?_; clear hf fa; intro fa hf
    apply wpList_nil
    (try simp only [Exit.then, Exit.inBlock, ↓reduceIte, Nat.reduceEqDiff])
    refine hK5 _ _ ?_
    refine wp_seq_k (fun K6 hK6 => ?_)
    refine wp_cond_split (t := (decide (((k : Nat) : Int) < ((L.length : Nat) : Int)))) (hf.ev rfl) (fun hqt11_1 => ?_) (fun hqt11_1 => ?_)
    · have hqt11_1b := hqt11_1
      try simp only [decide_eq_true_eq, Bool.and_eq_true, Bool.or_eq_true, Bool.not_eq_true', decide_eq_false_iff_not, ne_eq, Bool.not_eq_true] at hqt11_1
      refine wp_skip ?_
      (try simp only [Exit.then, Exit.inBlock, ↓reduceIte, Nat.reduceEqDiff])
      refine hK6 _ _ ?_
      refine wp_seq_k (fun K7 hK7 => ?_)
      refine wp_block ?_
      refine wp_seq_k (fun K8 hK8 => ?_)
      obtain ⟨y, hy⟩ : ∃ x, L[k]? = some x := ⟨_, List.getElem?_eq_getElem (by omega)⟩
      have hys := hLs y (List.mem_of_getElem? hy)
      refine wp_region_lit ?_
      have hy1 : (L)[k]? = some y := hy
      obtain ⟨ab1, aoff1, hat1, hlb1, hel1⟩ := RdS.at hl hy1
      refine sqv hf (r_ixa (sz := 3) (j := k) (evAt rfl hat1) rfl Try.underlying22 (by kernel_rfl) rfl (by omega) rfl) rfl rfl rfl ?_; clear hf fa; intro fa hf
      refine sqv hf (r_loadA (cs := [(.string y.1), (.int .u8 y.2.1), (.int .u32 y.2.2.1)]) rfl Try.underlying26 rfl (by kernel_rfl) (cellsAt_below hel1 hb hlb1)) rfl rfl rfl ?_; clear hf fa; intro fa hf
      refine sqdt hf (d_alloc (z := (.agg #[(.string ⟨#[]⟩), (.int .u8 (0 : Int)), (.int .u32 (0 : Int))])) (cs := #[(.string ⟨#[]⟩), (.int .u8 (0 : Int)), (.int .u32 (0 : Int))]) (by kernel_rfl) rfl) rfl rfl rfl ?_; clear hf fa; rintro fa _ w2 ⟨b1, rfl, hle1, hk1, he1⟩ hf
      have hBb1 : w.heap.size ≤ b1 := Nat.le_trans hb.size hle1
      replace hro := Row.ext hro he1
      replace hb := hb.trans (Below.mono he1 hb.size)
      refine sqn hf (d_storeK (T := 26) (v := (.agg #[(.string y.1), (.int .u8 y.2.1), (.int .u32 y.2.2.1)])) (cs := #[(.string ⟨#[]⟩), (.int .u8 (0 : Int)), (.int .u32 (0 : Int))]) (cs' := #[(.string y.1), (.int .u8 y.2.1), (.int .u32 y.2.2.1)]) rfl rfl (by kernel_rfl) (by kernel_rfl) hk1 (by kernel_rfl) (by kernel_rfl)) rfl rfl ?_; clear hf fa; rintro fa _ w3 ⟨hk2, hg1⟩ hf
      replace hro := Row.grown hro hg1 (Row.ne_type hro hk1 rfl)
      replace hb := hb.trans (grown_below hg1 hb.size hBb1)
      apply wpList_nil
      (try simp only [Exit.then, Exit.inBlock, ↓reduceIte, Nat.reduceEqDiff])
      refine hK8 _ _ ?_
      refine wp_seq_k (fun K9 hK9 => ?_)
      refine wp_region_lit ?_
      refine sqv hf (r_fa rfl Try.underlying26 (f := 1) (q := 1) rfl (by kernel_rfl) rfl) rfl rfl rfl ?_; clear hf fa; intro fa hf
      refine sqv hf (r_load (v := (.int .u8 y.2.1)) rfl Try.underlying5 rfl (cell_blk hk2 rfl)) rfl rfl rfl ?_; clear hf fa; intro fa hf
      refine sqv hf (r_move rfl) rfl rfl rfl ?_; clear hf fa; intro fa hf
      refine sqv hf (r_eq rfl rfl) rfl rfl rfl ?_; clear hf fa; intro fa hf
      apply wpList_nil
      (try simp only [Exit.then, Exit.inBlock, ↓reduceIte, Nat.reduceEqDiff])
      refine hK9 _ _ ?_
      refine wp_cond_split (t := (decide (y.2.1 = kd))) (hf.ev rfl) (fun hqt17_1 => ?_) (fun hqt17_1 => ?_)
      · have hqt17_1b := hqt17_1
        try simp only [decide_eq_true_eq, Bool.and_eq_true, Bool.or_eq_true, Bool.not_eq_true', decide_eq_false_iff_not, ne_eq, Bool.not_eq_true] at hqt17_1
        refine wp_region_lit ?_
        refine sqv hf (r_move rfl) rfl rfl rfl ?_; clear hf fa; intro fa hf
        refine sqv hf (r_fa rfl Try.underlying26 (f := 0) (q := 0) rfl (by kernel_rfl) rfl) rfl rfl rfl ?_; clear hf fa; intro fa hf
        refine sqv hf (r_load (v := (.string y.1)) rfl Try.underlying9 rfl (cell_blk hk2 rfl)) rfl rfl rfl ?_; clear hf fa; intro fa hf
        refine sqdt hf (d_bslice (z := (.string ⟨#[]⟩)) (sz := 1) (vs := [(0, (.string y.1))]) (cs := #[(.string y.1)]) rfl Try.underlying33 (by kernel_rfl) rfl (by kernel_rfl)) rfl rfl rfl ?_; clear hf fa; rintro fa _ w4 ⟨b2, rfl, hle2, hk3, he2⟩ hf
        have hBb2 : w.heap.size ≤ b2 := Nat.le_trans hb.size hle2
        have : b1 < b2 := Nat.lt_of_lt_of_le (blk_lt hk2) hle2
        have hnr1 : (Value.slice roa ((((nmsP (L.take k) kd)).length)) roc).ownBlock ≠ some b2 := fun hq => by have := (Row.lt hro _ hq).2; omega
        replace hk2 := blk_ext hk2 he2
        replace hro := Row.ext hro he2
        replace hb := hb.trans (Below.mono he2 hb.size)
        have hs1 := Row.rd (by intros; rfl) (Row.of_new (k := 1) (V := vStr) (l := [y.1]) hk3 (Nat.le_refl _) rfl rfl (Nat.le_of_ble_eq_true rfl))
        refine sqdt hf (d_append (V := vStr) (k := 1) (e := 9) (bytes := 16) (z := (.string ⟨#[]⟩)) (news := [y.1]) (base := w.heap.size) (by intros; rfl) (by intro x u hu; simp only [vStr, List.mem_singleton] at hu; subst hu; rfl) rfl rfl Try.underlying33 (by kernel_rfl) rfl rfl rfl hro hs1 rfl (fun h => by cases h) (by first | omega | (simp only [List.length_cons, List.length_nil, List.length_append, nums_len]; omega)) (by have := hb.size; omega)) rfl rfl rfl ?_; clear hf fa; rintro fa v w5 ⟨hr1, hg2⟩ hf; obtain ⟨ra1, rc1, rfl, hcrc1, hmrc1⟩ := Row.slice hr1
        replace hk2 := blk_row' hk2 hg2 (Row.ne_type hro hk2 rfl)
        replace hb := hb.trans (row_below hro hg2 hb.size (by have := hb.size; omega))
        refine sqv hf (r_assign rfl) rfl rfl rfl ?_; clear hf fa; intro fa hf
        apply wpList_nil
        (try simp only [Exit.then, Exit.inBlock, ↓reduceIte, Nat.reduceEqDiff])
        refine hK7 _ _ ?_
        refine wp_region_lit ?_
        refine sqv hf (r_add (C := (((k : Nat) : Int) + (1 : Int))) rfl rfl (by rw [IntKind.wrap_i64]; omega)) rfl rfl rfl ?_; clear hf fa; intro fa hf
        refine sqv hf (r_move rfl) rfl rfl rfl ?_; clear hf fa; intro fa hf
        apply wpList_nil
        (try simp only [Exit.then, Exit.inBlock, ↓reduceIte, Nat.reduceEqDiff])
        have hle := congrArg List.length (nms_yes hy hqt17_1); try simp only [List.length_append, List.length_cons, List.length_nil] at hle
        refine hKL1 _ _ _ (by omega) ⟨(k + 1), ra1, rc1, rfl, hf.sub ⟨rfl, rfl, rfl, (some_int (by first | rfl | omega)), (some_sl (by first | omega | (simp only [List.length_append, List.length_cons, List.length_nil]; omega) | (simp <;> omega)) rfl), trivial⟩, hb, (rowToE hr1 (nms_yes hy hqt17_1)), by omega⟩
      · have hqt17_1b := hqt17_1
        replace hqt17_1 := Bool.eq_false_iff.1 hqt17_1
        try simp only [ne_eq, decide_eq_true_eq, Bool.and_eq_true, Bool.or_eq_true, Bool.not_eq_true', decide_eq_false_iff_not] at hqt17_1
        refine wp_skip ?_
        (try simp only [Exit.then, Exit.inBlock, ↓reduceIte, Nat.reduceEqDiff])
        refine hK7 _ _ ?_
        refine wp_region_lit ?_
        refine sqv hf (r_add (C := (((k : Nat) : Int) + (1 : Int))) rfl rfl (by rw [IntKind.wrap_i64]; omega)) rfl rfl rfl ?_; clear hf fa; intro fa hf
        refine sqv hf (r_move rfl) rfl rfl rfl ?_; clear hf fa; intro fa hf
        apply wpList_nil
        (try simp only [Exit.then, Exit.inBlock, ↓reduceIte, Nat.reduceEqDiff])
        have hle := congrArg List.length (nms_no hy hqt17_1); try simp only [List.length_append, List.length_cons, List.length_nil] at hle
        refine hKL1 _ _ _ (by omega) ⟨(k + 1), roa, roc, rfl, hf.sub ⟨rfl, rfl, rfl, (some_int (by first | rfl | omega)), (some_sl (by first | omega | (simp only [List.length_append, List.length_cons, List.length_nil]; omega) | (simp <;> omega)) rfl), trivial⟩, hb, (rowToE hro (nms_no hy hqt17_1)), by omega⟩
    · have hqt11_1b := hqt11_1
      replace hqt11_1 := Bool.eq_false_iff.1 hqt11_1
      try simp only [ne_eq, decide_eq_true_eq, Bool.and_eq_true, Bool.or_eq_true, Bool.not_eq_true', decide_eq_false_iff_not] at hqt11_1
      refine wp_exit ?_
      (try simp only [Exit.then, Exit.inBlock, ↓reduceIte, Nat.reduceEqDiff])
      refine hK3 _ _ ?_
      refine wp_seq_k (fun K10 hK10 => ?_)
      refine wp_region_lit ?_
      refine sqv hf (r_move rfl) rfl rfl rfl ?_; clear hf fa; intro fa hf
      refine sqv hf (r_assign rfl) rfl rfl rfl ?_; clear hf fa; intro fa hf
      apply wpList_nil
      (try simp only [Exit.then, Exit.inBlock, ↓reduceIte, Nat.reduceEqDiff])
      refine hK10 _ _ ?_
      refine wp_ret ?_
      (try simp only [Exit.then, Exit.inBlock])
      refine ret1 hf rfl rfl ?_
      exact ⟨_, rfl, rowToE' hro (by rw [List.take_of_length_le (by omega)]), hb⟩

set_option maxHeartbeats 1000000 in
set_option maxRecDepth 100000 in
theorem rnames_any (a : Option Addr) (L : List MExp) (c : Nat) (kd : Int) (w : World) (hl : RdS 3 vMExp w a L) (hlc : L.length ≤ c) (hlm : L.length ≤ 4096) (hLs : ∀ y ∈ L, y.1.size ≤ maxLen) : Calls Try.prog 22 #[(.slice a L.length c), (.int .u8 kd)] w fun e w' => ∃ v, e = .returned v ∧ Row 1 vStr 9 w.heap.size w' v (nmsP L kd) ∧ Below w.heap.size w w' := by
  refine sx_enter (L := [(0, (.slice a L.length c)), (1, (.int .u8 kd))]) Try.func22 rfl rfl rfl rfl (fun fa hf => ?_)
  have hb : Below w.heap.size w w := Below.refl _ _
  refine wp_seq_k (fun K1 hK1 => ?_)
  refine wp_region_lit ?_
  refine sqv hf (r_assign rfl) rfl rfl rfl ?_; clear hf fa; intro fa hf
  apply wpList_nil
  (try simp only [Exit.then, Exit.inBlock, ↓reduceIte, Nat.reduceEqDiff])
  refine hK1 _ _ ?_
  refine wp_seq_k (fun K2 hK2 => ?_)
  refine wp_region_lit ?_
  refine sqv hf (r_assign rfl) rfl rfl rfl ?_; clear hf fa; intro fa hf
  apply wpList_nil
  (try simp only [Exit.then, Exit.inBlock, ↓reduceIte, Nat.reduceEqDiff])
  refine hK2 _ _ ?_
  refine wp_seq_k (fun K3 hK3 => ?_)
  refine wp_seq_k (fun K4 hK4 => ?_)
  refine wp_region_lit ?_
  refine sqv hf (r_assign rfl) rfl rfl rfl ?_; clear hf fa; intro fa hf
  apply wpList_nil
  (try simp only [Exit.then, Exit.inBlock, ↓reduceIte, Nat.reduceEqDiff])
  refine hK4 _ _ ?_
  refine wp_block ?_
  refine wp_loop_k (fun mq fa wr => ∃ (k : Nat) (roa : Option Addr) (roc : Nat), mq = L.length - k ∧ Fr 29 fa [(0, (.slice a L.length c)), (1, (.int .u8 kd)), (6, (.int .i64 ((k : Nat) : Int))), (5, (.slice roa (((nmsP (L.take k) kd)).length) roc))] ∧ Below w.heap.size w wr ∧ Row 1 vStr 9 (w.heap.size) wr (.slice roa (((nmsP (L.take k) kd)).length) roc) (nmsP (L.take k) kd) ∧ (k ≤ L.length)) ?_ ?_
  · skip
    exact ⟨_, 0, none, 0, rfl, hf.sub ⟨rfl, rfl, (some_int (by first | rfl | omega)), (some_sl (by first | omega | (simp only [List.length_append, List.length_cons, List.length_nil]; omega) | (simp <;> omega)) rfl), trivial⟩, hb, Row.nil, by omega⟩
  · skip
    clear hf fa; intro mq1 fa w1 hI KL1 hKL1
    clear hb
    obtain ⟨k, roa, roc, hmq1, hf, hb, hro, hk⟩ := hI
    have hcro := Row.caps hro
    have hol := nms_len L k kd
    refine wp_seq_k (fun K5 hK5 => ?_)
    refine wp_seq_k (fun K6 hK6 => ?_)
    refine wp_region_lit ?_
    refine sqv hf (r_move rfl) rfl rfl rfl ?_; clear hf fa; intro fa hf
    refine sqv hf (r_move rfl) rfl rfl rfl ?_; clear hf fa; intro fa hf
    refine sqv hf (r_lensl rfl Try.underlying22) rfl rfl rfl ?_; clear hf fa; intro fa hf
    refine sqv hf (r_lt rfl rfl) rfl rfl rfl ?_; clear hf fa; intro fa hf
    apply wpList_nil
    (try simp only [Exit.then, Exit.inBlock, ↓reduceIte, Nat.reduceEqDiff])
    refine hK6 _ _ ?_
    refine wp_cond_split (t := (decide (((k : Nat) : Int) < ((L.length : Nat) : Int)))) (hf.ev rfl) (fun hqt10_1 => ?_) (fun hqt10_1 => ?_)
    · have hqt10_1b := hqt10_1
      try simp only [decide_eq_true_eq, Bool.and_eq_true, Bool.or_eq_true, Bool.not_eq_true', decide_eq_false_iff_not, ne_eq, Bool.not_eq_true] at hqt10_1
      refine wp_skip ?_
      (try simp only [Exit.then, Exit.inBlock, ↓reduceIte, Nat.reduceEqDiff])
      refine hK5 _ _ ?_
      refine wp_seq_k (fun K7 hK7 => ?_)
      refine wp_block ?_
      refine wp_seq_k (fun K8 hK8 => ?_)
      obtain ⟨y, hy⟩ : ∃ x, L[k]? = some x := ⟨_, List.getElem?_eq_getElem (by omega)⟩
      have hys := hLs y (List.mem_of_getElem? hy)
      refine wp_region_lit ?_
      refine sqv hf (r_move rfl) rfl rfl rfl ?_; clear hf fa; intro fa hf
      refine sqv hf (r_move rfl) rfl rfl rfl ?_; clear hf fa; intro fa hf
      have hy1 : (L)[k]? = some y := hy
      obtain ⟨ab1, aoff1, hat1, hlb1, hel1⟩ := RdS.at hl hy1
      refine sqv hf (r_ixa (sz := 3) (j := k) (evAt rfl hat1) rfl Try.underlying22 (by kernel_rfl) rfl (by omega) rfl) rfl rfl rfl ?_; clear hf fa; intro fa hf
      refine sqv hf (r_fa rfl Try.underlying26 (f := 1) (q := ((aoff1 + k * 3) + 1)) rfl (by kernel_rfl) rfl) rfl rfl rfl ?_; clear hf fa; intro fa hf
      refine sqv hf (r_load (v := (.int .u8 y.2.1)) rfl Try.underlying5 rfl (cellsAt_cell (cellsAt_below hel1 hb hlb1) (i := 1) rfl rfl)) rfl rfl rfl ?_; clear hf fa; intro fa hf
      refine sqv hf (r_move rfl) rfl rfl rfl ?_; clear hf fa; intro fa hf
      refine sqv hf (r_eq rfl rfl) rfl rfl rfl ?_; clear hf fa; intro fa hf
      apply wpList_nil
      (try simp only [Exit.then, Exit.inBlock, ↓reduceIte, Nat.reduceEqDiff])
      refine hK8 _ _ ?_
      refine wp_cond_split (t := (decide (y.2.1 = kd))) (hf.ev rfl) (fun hqt19_1 => ?_) (fun hqt19_1 => ?_)
      · have hqt19_1b := hqt19_1
        try simp only [decide_eq_true_eq, Bool.and_eq_true, Bool.or_eq_true, Bool.not_eq_true', decide_eq_false_iff_not, ne_eq, Bool.not_eq_true] at hqt19_1
        refine wp_region_lit ?_
        refine sqv hf (r_move rfl) rfl rfl rfl ?_; clear hf fa; intro fa hf
        refine sqv hf (r_move rfl) rfl rfl rfl ?_; clear hf fa; intro fa hf
        refine sqv hf (r_move rfl) rfl rfl rfl ?_; clear hf fa; intro fa hf
        refine sqv hf (r_ixa (sz := 3) (j := k) (evAt rfl hat1) rfl Try.underlying22 (by kernel_rfl) rfl (by omega) rfl) rfl rfl rfl ?_; clear hf fa; intro fa hf
        refine sqv hf (r_fa rfl Try.underlying26 (f := 0) (q := (aoff1 + k * 3)) rfl (by kernel_rfl) rfl) rfl rfl rfl ?_; clear hf fa; intro fa hf
        refine sqv hf (r_load (v := (.string y.1)) rfl Try.underlying9 rfl (cellsAt_cell (cellsAt_below hel1 hb hlb1) (i := 0) rfl rfl)) rfl rfl rfl ?_; clear hf fa; intro fa hf
        refine sqdt hf (d_bslice (z := (.string ⟨#[]⟩)) (sz := 1) (vs := [(0, (.string y.1))]) (cs := #[(.string y.1)]) rfl Try.underlying33 (by kernel_rfl) rfl (by kernel_rfl)) rfl rfl rfl ?_; clear hf fa; rintro fa _ w2 ⟨b1, rfl, hle1, hk1, he1⟩ hf
        have hBb1 : w.heap.size ≤ b1 := Nat.le_trans hb.size hle1
        have hnr1 : (Value.slice roa ((((nmsP (L.take k) kd)).length)) roc).ownBlock ≠ some b1 := fun hq => by have := (Row.lt hro _ hq).2; omega
        replace hro := Row.ext hro he1
        replace hb := hb.trans (Below.mono he1 hb.size)
        have hs1 := Row.rd (by intros; rfl) (Row.of_new (k := 1) (V := vStr) (l := [y.1]) hk1 (Nat.le_refl _) rfl rfl (Nat.le_of_ble_eq_true rfl))
        refine sqdt hf (d_append (V := vStr) (k := 1) (e := 9) (bytes := 16) (z := (.string ⟨#[]⟩)) (news := [y.1]) (base := w.heap.size) (by intros; rfl) (by intro x u hu; simp only [vStr, List.mem_singleton] at hu; subst hu; rfl) rfl rfl Try.underlying33 (by kernel_rfl) rfl rfl rfl hro hs1 rfl (fun h => by cases h) (by first | omega | (simp only [List.length_cons, List.length_nil, List.length_append, nums_len]; omega)) (by have := hb.size; omega)) rfl rfl rfl ?_; clear hf fa; rintro fa v w3 ⟨hr1, hg1⟩ hf; obtain ⟨ra1, rc1, rfl, hcrc1, hmrc1⟩ := Row.slice hr1
        replace hb := hb.trans (row_below hro hg1 hb.size (by have := hb.size; omega))
        refine sqv hf (r_assign rfl) rfl rfl rfl ?_; clear hf fa; intro fa hf
        apply wpList_nil
        (try simp only [Exit.then, Exit.inBlock, ↓reduceIte, Nat.reduceEqDiff])
        refine hK7 _ _ ?_
        refine wp_region_lit ?_
        refine sqv hf (r_move rfl) rfl rfl rfl ?_; clear hf fa; intro fa hf
        refine sqv hf (r_add (C := (((k : Nat) : Int) + (1 : Int))) rfl rfl (by rw [IntKind.wrap_i64]; omega)) rfl rfl rfl ?_; clear hf fa; intro fa hf
        refine sqv hf (r_assign rfl) rfl rfl rfl ?_; clear hf fa; intro fa hf
        apply wpList_nil
        (try simp only [Exit.then, Exit.inBlock, ↓reduceIte, Nat.reduceEqDiff])
        have hle := congrArg List.length (nms_yes hy hqt19_1); try simp only [List.length_append, List.length_cons, List.length_nil] at hle
        refine hKL1 _ _ _ (by omega) ⟨(k + 1), ra1, rc1, rfl, hf.sub ⟨rfl, rfl, (some_int (by first | rfl | omega)), (some_sl (by first | omega | (simp only [List.length_append, List.length_cons, List.length_nil]; omega) | (simp <;> omega)) rfl), trivial⟩, hb, (rowToE hr1 (nms_yes hy hqt19_1)), by omega⟩
      · have hqt19_1b := hqt19_1
        replace hqt19_1 := Bool.eq_false_iff.1 hqt19_1
        try simp only [ne_eq, decide_eq_true_eq, Bool.and_eq_true, Bool.or_eq_true, Bool.not_eq_true', decide_eq_false_iff_not] at hqt19_1
        refine wp_skip ?_
        (try simp only [Exit.then, Exit.inBlock, ↓reduceIte, Nat.reduceEqDiff])
        refine hK7 _ _ ?_
        refine wp_region_lit ?_
        refine sqv hf (r_move rfl) rfl rfl rfl ?_; clear hf fa; intro fa hf
        refine sqv hf (r_add (C := (((k : Nat) : Int) + (1 : Int))) rfl rfl (by rw [IntKind.wrap_i64]; omega)) rfl rfl rfl ?_; clear hf fa; intro fa hf
        refine sqv hf (r_assign rfl) rfl rfl rfl ?_; clear hf fa; intro fa hf
        apply wpList_nil
        (try simp only [Exit.then, Exit.inBlock, ↓reduceIte, Nat.reduceEqDiff])
        have hle := congrArg List.length (nms_no hy hqt19_1); try simp only [List.length_append, List.length_cons, List.length_nil] at hle
        refine hKL1 _ _ _ (by omega) ⟨(k + 1), roa, roc, rfl, hf.sub ⟨rfl, rfl, (some_int (by first | rfl | omega)), (some_sl (by first | omega | (simp only [List.length_append, List.length_cons, List.length_nil]; omega) | (simp <;> omega)) rfl), trivial⟩, hb, (rowToE hro (nms_no hy hqt19_1)), by omega⟩
    · have hqt10_1b := hqt10_1
      replace hqt10_1 := Bool.eq_false_iff.1 hqt10_1
      try simp only [ne_eq, decide_eq_true_eq, Bool.and_eq_true, Bool.or_eq_true, Bool.not_eq_true', decide_eq_false_iff_not] at hqt10_1
      refine wp_exit ?_
      (try simp only [Exit.then, Exit.inBlock, ↓reduceIte, Nat.reduceEqDiff])
      refine hK3 _ _ ?_
      refine wp_seq_k (fun K9 hK9 => ?_)
      refine wp_region_lit ?_
      refine sqv hf (r_move rfl) rfl rfl rfl ?_; clear hf fa; intro fa hf
      refine sqv hf (r_assign rfl) rfl rfl rfl ?_; clear hf fa; intro fa hf
      apply wpList_nil
      (try simp only [Exit.then, Exit.inBlock, ↓reduceIte, Nat.reduceEqDiff])
      refine hK9 _ _ ?_
      refine wp_ret ?_
      (try simp only [Exit.then, Exit.inBlock])
      refine ret1 hf rfl rfl ?_
      exact ⟨_, rfl, rowToE' hro (by rw [List.take_of_length_le (by omega)]), hb⟩

set_option maxHeartbeats 1000000 in
set_option maxRecDepth 100000 in
theorem same_any (a a2 : Option Addr) (c c2 : Nat) (M : List ByteArray) (w : World) (hl : RdS 1 vStr w a M) (hl2 : RdS 1 vStr w a2 M) (hm : M.length ≤ 4096) (hc1 : M.length ≤ c) (hc2 : M.length ≤ c2) : Calls Try.prog 20 #[(.slice a M.length c), (.slice a2 M.length c2)] w fun e w' => e = .returned (.bool true) ∧ Below w.heap.size w w' := by
  refine sx_enter (L := [(0, (.slice a M.length c)), (1, (.slice a2 M.length c2))]) Try.func20 rfl rfl rfl rfl (fun fa hf => ?_)
  have hb : Below w.heap.size w w := Below.refl _ _
  refine wp_seq_k (fun K1 hK1 => ?_)
  refine wp_region_lit ?_
  refine sqv hf (r_assign rfl) rfl rfl rfl ?_; clear hf fa; intro fa hf
  apply wpList_nil
  (try simp only [Exit.then, Exit.inBlock, ↓reduceIte, Nat.reduceEqDiff])
  refine hK1 _ _ ?_
  refine wp_seq_k (fun K2 hK2 => ?_)
  refine wp_seq_k (fun K3 hK3 => ?_)
  refine wp_region_lit ?_
  refine sqv hf (r_move rfl) rfl rfl rfl ?_; clear hf fa; intro fa hf
  refine sqv hf (r_lensl rfl Try.underlying33) rfl rfl rfl ?_; clear hf fa; intro fa hf
  refine sqv hf (r_move rfl) rfl rfl rfl ?_; clear hf fa; intro fa hf
  refine sqv hf (r_lensl rfl Try.underlying33) rfl rfl rfl ?_; clear hf fa; intro fa hf
  refine sqv hf (r_ne rfl rfl) rfl rfl rfl ?_; clear hf fa; intro fa hf
  apply wpList_nil
  (try simp only [Exit.then, Exit.inBlock, ↓reduceIte, Nat.reduceEqDiff])
  refine hK3 _ _ ?_
  refine wp_cond_false ((hf.ev rfl).trans (congrArg Value.bool (show (decide (((M.length : Nat) : Int) ≠ ((M.length : Nat) : Int))) = false from (by simp)))) ?_
  refine wp_skip ?_
  (try simp only [Exit.then, Exit.inBlock, ↓reduceIte, Nat.reduceEqDiff])
  refine hK2 _ _ ?_
  refine wp_seq_k (fun K4 hK4 => ?_)
  refine wp_seq_k (fun K5 hK5 => ?_)
  refine wp_region_lit ?_
  refine sqv hf (r_assign rfl) rfl rfl rfl ?_; clear hf fa; intro fa hf
  apply wpList_nil
  (try simp only [Exit.then, Exit.inBlock, ↓reduceIte, Nat.reduceEqDiff])
  refine hK5 _ _ ?_
  refine wp_block ?_
  refine wp_loop_k (fun mq fa wr => ∃ (k : Nat), mq = M.length - k ∧ Fr 26 fa [(0, (.slice a M.length c)), (1, (.slice a2 M.length c2)), (5, (.int .i64 ((k : Nat) : Int)))] ∧ Below w.heap.size w wr ∧ (k ≤ M.length)) ?_ ?_
  · skip
    exact ⟨_, 0, rfl, hf.sub ⟨rfl, rfl, (some_int (by first | rfl | omega)), trivial⟩, hb, by omega⟩
  · skip
    clear hf fa; intro mq1 fa w1 hI KL1 hKL1
    clear hb
    obtain ⟨k, hmq1, hf, hb, hk⟩ := hI
    refine wp_seq_k (fun K6 hK6 => ?_)
    refine wp_seq_k (fun K7 hK7 => ?_)
    refine wp_region_lit ?_
    refine sqv hf (r_move rfl) rfl rfl rfl ?_; clear hf fa; intro fa hf
    refine sqv hf (r_move rfl) rfl rfl rfl ?_; clear hf fa; intro fa hf
    refine sqv hf (r_lensl rfl Try.underlying33) rfl rfl rfl ?_; clear hf fa; intro fa hf
    refine sqv hf (r_lt rfl rfl) rfl rfl rfl ?_; clear hf fa; intro fa hf
    apply wpList_nil
    (try simp only [Exit.then, Exit.inBlock, ↓reduceIte, Nat.reduceEqDiff])
    refine hK7 _ _ ?_
    refine wp_cond_split (t := (decide (((k : Nat) : Int) < ((M.length : Nat) : Int)))) (hf.ev rfl) (fun hqt14_1 => ?_) (fun hqt14_1 => ?_)
    · have hqt14_1b := hqt14_1
      try simp only [decide_eq_true_eq, Bool.and_eq_true, Bool.or_eq_true, Bool.not_eq_true', decide_eq_false_iff_not, ne_eq, Bool.not_eq_true] at hqt14_1
      refine wp_skip ?_
      (try simp only [Exit.then, Exit.inBlock, ↓reduceIte, Nat.reduceEqDiff])
      refine hK6 _ _ ?_
      refine wp_seq_k (fun K8 hK8 => ?_)
      refine wp_block ?_
      refine wp_seq_k (fun K9 hK9 => ?_)
      obtain ⟨s, hs⟩ : ∃ x, M[k]? = some x := ⟨_, List.getElem?_eq_getElem (by omega)⟩
      have hy1 : (M)[k]? = some s := hs
      obtain ⟨ab1, aoff1, hat1, hlb1, hel1⟩ := RdS.at hl hy1
      have hy2 : (M)[k]? = some s := hs
      obtain ⟨ab2, aoff2, hat2, hlb2, hel2⟩ := RdS.at hl2 hy2
      refine wp_region_un (fun wq => Below w1.heap.size w1 wq) (fun w w' => Below w.heap.size w w')
        (fun V => [(fun x _ => x = (.slice a M.length c)), (fun x _ => x = (.int .i64 ((k : Nat) : Int))), (fun x _ => x = (.pointer (some ⟨ab1, (aoff1 + k * 1), none⟩))), (fun x _ => x = (.string s)), (fun x _ => x = (.slice a2 M.length c2)), (fun x _ => x = (.int .i64 ((k : Nat) : Int))), (fun x _ => x = (.pointer (some ⟨ab2, (aoff2 + k * 1), none⟩))), (fun x _ => x = (.string s)), (fun x _ => x = (.bool (decide (s ≠ s))))])
        []
        [[], [], [0, 1], [2], [], [], [4, 5], [6], [3, 7]]
        hf (by kernel_rfl) (by kernel_rfl) (fun _ => rfl) ((Below.refl _ _).drew) (fun a b h1 h2 => h1.trans (h2.mono h1.size)) (fun _ _ h => h.size) (fun V => ⟨kept_eq, kept_eq, kept_eq, kept_eq, kept_eq, kept_eq, kept_eq, kept_eq, kept_eq, trivial⟩) (fun _ _ _ _ _ => rfl) ?_ ?_
      · skip
        intro V
        refine ⟨fun wu0 hC hd => ?_, ?_⟩
        · clear hd
          replace hb := hb.trans (hC.mono hb.size)
          exact Runs.does (r_move rfl) ⟨Below.refl _ _, rfl, nofr rfl⟩
        refine ⟨fun wu1 hC hd => ?_, ?_⟩
        · clear hd
          replace hb := hb.trans (hC.mono hb.size)
          exact Runs.does (r_move rfl) ⟨Below.refl _ _, rfl, nofr rfl⟩
        refine ⟨fun wu2 hC hd => ?_, ?_⟩
        · obtain ⟨h0, h1, _⟩ := hd
          skip
          skip
          replace h0 : V 0 = (.slice a M.length c) := h0
          replace h1 : V 1 = (.int .i64 ((k : Nat) : Int)) := h1
          replace hb := hb.trans (hC.mono hb.size)
          exact Runs.does (r_ixa (sz := 1) (j := k) (evAt (congrArg some h0) hat1) (congrArg some h1) Try.underlying33 (by kernel_rfl) rfl (by omega) rfl) ⟨Below.refl _ _, rfl, nofr rfl⟩
        refine ⟨fun wu3 hC hd => ?_, ?_⟩
        · obtain ⟨h2, _⟩ := hd
          skip
          replace h2 : V 2 = (.pointer (some ⟨ab1, (aoff1 + k * 1), none⟩)) := h2
          replace hb := hb.trans (hC.mono hb.size)
          exact Runs.does (r_load (v := (.string s)) (congrArg some h2) Try.underlying9 rfl (cellsAt_cell (cellsAt_below hel1 hb hlb1) (i := 0) rfl rfl)) ⟨Below.refl _ _, rfl, nofr rfl⟩
        refine ⟨fun wu4 hC hd => ?_, ?_⟩
        · clear hd
          replace hb := hb.trans (hC.mono hb.size)
          exact Runs.does (r_move rfl) ⟨Below.refl _ _, rfl, nofr rfl⟩
        refine ⟨fun wu5 hC hd => ?_, ?_⟩
        · clear hd
          replace hb := hb.trans (hC.mono hb.size)
          exact Runs.does (r_move rfl) ⟨Below.refl _ _, rfl, nofr rfl⟩
        refine ⟨fun wu6 hC hd => ?_, ?_⟩
        · obtain ⟨h4, h5, _⟩ := hd
          skip
          skip
          replace h4 : V 4 = (.slice a2 M.length c2) := h4
          replace h5 : V 5 = (.int .i64 ((k : Nat) : Int)) := h5
          replace hb := hb.trans (hC.mono hb.size)
          exact Runs.does (r_ixa (sz := 1) (j := k) (evAt (congrArg some h4) hat2) (congrArg some h5) Try.underlying33 (by kernel_rfl) rfl (by omega) rfl) ⟨Below.refl _ _, rfl, nofr rfl⟩
        refine ⟨fun wu7 hC hd => ?_, ?_⟩
        · obtain ⟨h6, _⟩ := hd
          skip
          replace h6 : V 6 = (.pointer (some ⟨ab2, (aoff2 + k * 1), none⟩)) := h6
          replace hb := hb.trans (hC.mono hb.size)
          exact Runs.does (r_load (v := (.string s)) (congrArg some h6) Try.underlying9 rfl (cellsAt_cell (cellsAt_below hel2 hb hlb2) (i := 0) rfl rfl)) ⟨Below.refl _ _, rfl, nofr rfl⟩
        refine ⟨fun wu8 hC hd => ?_, ?_⟩
        · obtain ⟨h3, h7, _⟩ := hd
          skip
          skip
          replace h3 : V 3 = (.string s) := h3
          replace h7 : V 7 = (.string s) := h7
          replace hb := hb.trans (hC.mono hb.size)
          exact Runs.does (r_sne (congrArg some h3) (congrArg some h7)) ⟨Below.refl _ _, rfl, nofr rfl⟩
        trivial
      · skip
        clear hf fa; intro V w2 fa he1 hp hnb hf
        have hv0 : V 0 = (.slice a M.length c) := postsHold_at hp 0 rfl
        have hv1 : V 1 = (.int .i64 ((k : Nat) : Int)) := postsHold_at hp 1 rfl
        have hv2 : V 2 = (.pointer (some ⟨ab1, (aoff1 + k * 1), none⟩)) := postsHold_at hp 2 rfl
        have hv3 : V 3 = (.string s) := postsHold_at hp 3 rfl
        have hv4 : V 4 = (.slice a2 M.length c2) := postsHold_at hp 4 rfl
        have hv5 : V 5 = (.int .i64 ((k : Nat) : Int)) := postsHold_at hp 5 rfl
        have hv6 : V 6 = (.pointer (some ⟨ab2, (aoff2 + k * 1), none⟩)) := postsHold_at hp 6 rfl
        have hv7 : V 7 = (.string s) := postsHold_at hp 7 rfl
        have hv8 : V 8 = (.bool (decide (s ≠ s))) := postsHold_at hp 8 rfl
        simp only [List.take_succ_cons, List.take_zero, insAll, ins, hv0, hv1, hv2, hv3, hv4, hv5, hv6, hv7, hv8] at hf
        clear hp hnb hv0 hv1 hv2 hv3 hv4 hv5 hv6 hv7 hv8
        replace hb := hb.trans (Below.mono he1 hb.size)
        (try simp only [Exit.then, Exit.inBlock, ↓reduceIte, Nat.reduceEqDiff])
        refine hK9 _ _ ?_
        refine wp_cond_false ((hf.ev rfl).trans (congrArg Value.bool (show (decide (s ≠ s)) = false from (by simp)))) ?_
        refine wp_skip ?_
        (try simp only [Exit.then, Exit.inBlock, ↓reduceIte, Nat.reduceEqDiff])
        refine hK8 _ _ ?_
        refine wp_region_lit ?_
        refine sqv hf (r_move rfl) rfl rfl rfl ?_; clear hf fa; intro fa hf
        refine sqv hf (r_add (C := (((k : Nat) : Int) + (1 : Int))) rfl rfl (by rw [IntKind.wrap_i64]; omega)) rfl rfl rfl ?_; clear hf fa; intro fa hf
        refine sqv hf (r_assign rfl) rfl rfl rfl ?_; clear hf fa; intro fa hf
        apply wpList_nil
        (try simp only [Exit.then, Exit.inBlock, ↓reduceIte, Nat.reduceEqDiff])
        refine hKL1 _ _ _ (by omega) ⟨(k + 1), rfl, hf.sub ⟨rfl, rfl, (some_int (by first | rfl | omega)), trivial⟩, hb, by omega⟩
    · have hqt14_1b := hqt14_1
      replace hqt14_1 := Bool.eq_false_iff.1 hqt14_1
      try simp only [ne_eq, decide_eq_true_eq, Bool.and_eq_true, Bool.or_eq_true, Bool.not_eq_true', decide_eq_false_iff_not] at hqt14_1
      refine wp_exit ?_
      (try simp only [Exit.then, Exit.inBlock, ↓reduceIte, Nat.reduceEqDiff])
      refine hK4 _ _ ?_
      refine wp_seq_k (fun K10 hK10 => ?_)
      refine wp_region_lit ?_
      refine sqv hf (r_assign rfl) rfl rfl rfl ?_; clear hf fa; intro fa hf
      apply wpList_nil
      (try simp only [Exit.then, Exit.inBlock, ↓reduceIte, Nat.reduceEqDiff])
      refine hK10 _ _ ?_
      refine wp_ret ?_
      (try simp only [Exit.then, Exit.inBlock])
      refine ret1 hf rfl rfl ?_
      exact ⟨rfl, hb⟩
end Go.Proofs.Ytcmdajkkdognfaa
