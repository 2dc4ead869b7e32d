/- What is proved here: Clone, the stable sort of few floats. -/
import Derived.Test.YtbllifhcfgjdlaaGgB
namespace Go.Proofs.Ytbllifhcfgjdlaa
open Go.RowKit
set_option linter.unusedVariables false
set_option linter.unusedSimpArgs false
set_option maxHeartbeats 1000000 in
set_option maxRecDepth 100000 in
theorem clone_any (A : Addr) (c : Nat) (l : List Nat) (w : World) (hl : RdS 1 vFlt w (some A) l) (h0 : 0 < l.length) (hlen : l.length ≤ 100) : Calls Try.prog 32 #[(.slice (some A) l.length c)] w fun e w' => ∃ v, e = .returned v ∧ Row 1 vFlt 22 w.heap.size w' v l ∧ Below w.heap.size w w' := by
  refine sx_enter (L := [(0, (.slice (some A) l.length c))]) Try.func32 rfl rfl rfl rfl (fun fa hf => ?_)
  have hb : Below w.heap.size w w := Below.refl _ _
  refine wp_seq_k (fun K1 hK1 => ?_)
  refine wp_region_lit ?_
  refine sqv hf (r_assign rfl) rfl rfl rfl ?_; clear hf fa; intro fa hf
  apply wpList_nil
  (try simp only [Exit.then, Exit.inBlock, ↓reduceIte, Nat.reduceEqDiff])
  refine hK1 _ _ ?_
  refine wp_seq_k (fun K2 hK2 => ?_)
  refine wp_seq_k (fun K3 hK3 => ?_)
  refine wp_region_lit ?_
  refine sqv hf (r_move rfl) rfl rfl rfl ?_; clear hf fa; intro fa hf
  refine sqv hf (Runs.veq (r_slnil rfl rfl Try.underlying30) rfl) rfl rfl rfl ?_; clear hf fa; intro fa hf
  apply wpList_nil
  (try simp only [Exit.then, Exit.inBlock, ↓reduceIte, Nat.reduceEqDiff])
  refine hK3 _ _ ?_
  refine wp_cond_false (hf.ev rfl) ?_
  refine wp_skip ?_
  (try simp only [Exit.then, Exit.inBlock, ↓reduceIte, Nat.reduceEqDiff])
  refine hK2 _ _ ?_
  refine wp_seq_k (fun K4 hK4 => ?_)
  refine wp_region_lit ?_
  refine sqdt hf (d_bslice0 (sz := 1) Try.underlying30 (by kernel_rfl)) rfl rfl rfl ?_; clear hf fa; rintro fa _ w1 ⟨b1, rfl, hle1, hk1, he1⟩ hf
  have hBb1 : w.heap.size ≤ b1 := Nat.le_trans hb.size hle1
  replace hb := hb.trans (Below.mono he1 hb.size)
  refine sqv hf (r_move rfl) rfl rfl rfl ?_; clear hf fa; intro fa hf
  have hr1 := Row.of_new (k := 1) (V := vFlt) (l := []) (base := w.heap.size) hk1 hBb1 rfl rfl (Nat.le_of_ble_eq_true rfl)
  refine sqdt hf (d_append (V := vFlt) (k := 1) (e := 22) (bytes := 8) (z := (.float .f64 0)) (news := l) (base := w.heap.size) (by intros; rfl) (by exact oneFlt) rfl rfl Try.underlying30 (by kernel_rfl) rfl rfl rfl hr1 (RdS.ext hl hb) (by omega) (fun h => by cases h) (by first | omega | (simp only [List.length_cons, List.length_nil, List.length_append, nums_len]; omega)) (by have := hb.size; omega)) rfl rfl rfl ?_; clear hf fa; rintro fa v w2 ⟨hr2, hg1⟩ hf; obtain ⟨ra1, rc1, rfl, hcrc1, hmrc1⟩ := Row.slice hr2
  replace hb := hb.trans (row_below hr1 hg1 hb.size (by have := hb.size; omega))
  simp only [List.nil_append] at hr2
  refine sqv hf (r_assign rfl) rfl rfl rfl ?_; clear hf fa; intro fa hf
  apply wpList_nil
  (try simp only [Exit.then, Exit.inBlock, ↓reduceIte, Nat.reduceEqDiff])
  refine hK4 _ _ ?_
  refine wp_ret ?_
  (try simp only [Exit.then, Exit.inBlock])
  refine ret1 hf rfl rfl ?_
  exact ⟨_, rfl, hr2, hb⟩

set_option maxHeartbeats 1000000 in
set_option maxRecDepth 100000 in
theorem stable_small (b c : Nat) (l : List Nat) (h20 : l.length < 20) (w0 w : World) (hb : Below w0.heap.size w0 w) (hR : Row 1 vFlt 22 w0.heap.size w (.slice (some ⟨b, 0, none⟩) l.length c) l) (hW : allW l) : Calls Try.prog 36 #[(.slice (some ⟨b, 0, none⟩) l.length c), (.int .i64 ((l.length : Nat) : Int)), (.func (.func 9) #[] #[])] w fun e w' => e = .returned (.tuple #[]) ∧ Row 1 vFlt 22 w0.heap.size w' (.slice (some ⟨b, 0, none⟩) l.length c) (isort 0 l.length l) ∧ Below w0.heap.size w0 w' := by
  refine sx_enter (L := [(0, (.slice (some ⟨b, 0, none⟩) l.length c)), (1, (.int .i64 ((l.length : Nat) : Int))), (2, (.func (.func 9) #[] #[]))]) Try.func36 rfl rfl rfl rfl (fun fa hf => ?_)
  refine wp_seq_k (fun K1 hK1 => ?_)
  refine wp_region_lit ?_
  refine sqv hf (r_assign rfl) rfl rfl rfl ?_; clear hf fa; intro fa hf
  apply wpList_nil
  (try simp only [Exit.then, Exit.inBlock, ↓reduceIte, Nat.reduceEqDiff])
  refine hK1 _ _ ?_
  refine wp_seq_k (fun K2 hK2 => ?_)
  refine wp_region_lit ?_
  refine sqv hf (r_move rfl) rfl rfl rfl ?_; clear hf fa; intro fa hf
  refine sqv hf (r_assign rfl) rfl rfl rfl ?_; clear hf fa; intro fa hf
  refine sqv hf (r_assign rfl) rfl rfl rfl ?_; clear hf fa; intro fa hf
  apply wpList_nil
  (try simp only [Exit.then, Exit.inBlock, ↓reduceIte, Nat.reduceEqDiff])
  refine hK2 _ _ ?_
  refine wp_seq_k (fun K3 hK3 => ?_)
  refine wp_block ?_
  refine wp_loop_k (fun mq fa wr => mq = 0 ∧ Fr 63 fa [(0, (.slice (some ⟨b, 0, none⟩) l.length c)), (1, (.int .i64 ((l.length : Nat) : Int))), (2, (.func (.func 9) #[] #[])), (6, (.int .i64 (20 : Int))), (7, (.int .i64 (0 : Int))), (8, (.int .i64 (20 : Int)))] ∧ Below w0.heap.size w0 wr ∧ Row 1 vFlt 22 (w0.heap.size) wr (.slice (some ⟨b, 0, none⟩) (l.length) c) l) ?_ ?_
  · skip
    exact ⟨_, rfl, hf.sub ⟨rfl, rfl, rfl, rfl, rfl, rfl, trivial⟩, hb, hR⟩
  · skip
    clear hf fa; intro mq1 fa w1 hI KL1 hKL1
    clear hb
    clear hR
    obtain ⟨hmq1, hf, hb, hr⟩ := hI
    have hcr := Row.caps hr
    refine wp_seq_k (fun K4 hK4 => ?_)
    refine wp_seq_k (fun K5 hK5 => ?_)
    refine wp_region_lit ?_
    refine sqv hf (r_move rfl) rfl rfl rfl ?_; clear hf fa; intro fa hf
    refine sqv hf (r_move rfl) rfl rfl rfl ?_; clear hf fa; intro fa hf
    refine sqv hf (r_le rfl rfl) rfl rfl rfl ?_; clear hf fa; intro fa hf
    apply wpList_nil
    (try simp only [Exit.then, Exit.inBlock, ↓reduceIte, Nat.reduceEqDiff])
    refine hK5 _ _ ?_
    refine wp_cond_split (t := (decide ((20 : Int) ≤ ((l.length : Nat) : Int)))) (hf.ev rfl) (fun hqt13_1 => ?_) (fun hqt13_1 => ?_)
    · have hqt13_1b := hqt13_1
      try simp only [decide_eq_true_eq, Bool.and_eq_true, Bool.or_eq_true, Bool.not_eq_true', decide_eq_false_iff_not, ne_eq, Bool.not_eq_true] at hqt13_1
      exfalso; omega
    · have hqt13_1b := hqt13_1
      replace hqt13_1 := Bool.eq_false_iff.1 hqt13_1
      try simp only [ne_eq, decide_eq_true_eq, Bool.and_eq_true, Bool.or_eq_true, Bool.not_eq_true', decide_eq_false_iff_not] at hqt13_1
      refine wp_exit ?_
      (try simp only [Exit.then, Exit.inBlock, ↓reduceIte, Nat.reduceEqDiff])
      refine hK3 _ _ ?_
      refine wp_seq_k (fun K6 hK6 => ?_)
      refine wp_region_lit ?_
      refine sqv hf (r_move rfl) rfl rfl rfl ?_; clear hf fa; intro fa hf
      refine sqv hf (r_move rfl) rfl rfl rfl ?_; clear hf fa; intro fa hf
      refine sqv hf (r_move rfl) rfl rfl rfl ?_; clear hf fa; intro fa hf
      refine sqv hf (r_move rfl) rfl rfl rfl ?_; clear hf fa; intro fa hf
      refine sqdt hf (d_callX (R := fun vz wz => vz = .tuple #[] ∧ Row 1 vFlt 22 w0.heap.size wz (.slice (some ⟨b, 0, none⟩) l.length c) (isort 0 l.length l) ∧ Below w0.heap.size w0 wz) (vs := [(.slice (some ⟨b, 0, none⟩) l.length c), (.int .i64 (0 : Int)), (.int .i64 ((l.length : Nat) : Int)), (.func (.func 9) #[] #[])]) rfl Try.func38 (by kernel_rfl) (by kernel_rfl) (Calls.mono (ins_any b c l 0 l.length (Nat.le_refl _) (by omega) (by omega) w0 _ hb hr (by assumption)) (fun e w2 h => ⟨_, h.1, rfl, h.2⟩))) rfl rfl rfl ?_; clear hf fa; rintro fa _ w2 ⟨rfl, hr1, hb1⟩ hf
      clear hb hr
      have hb := hb1
      clear hb1
      apply wpList_nil
      (try simp only [Exit.then, Exit.inBlock, ↓reduceIte, Nat.reduceEqDiff])
      refine hK6 _ _ ?_
      refine wp_block ?_
      refine wp_loop_k (fun mq fa wr => mq = 0 ∧ Fr 63 fa [(0, (.slice (some ⟨b, 0, none⟩) l.length c)), (1, (.int .i64 ((l.length : Nat) : Int))), (2, (.func (.func 9) #[] #[])), (6, (.int .i64 (20 : Int))), (7, (.int .i64 (0 : Int))), (8, (.int .i64 (20 : Int)))] ∧ Below w0.heap.size w0 wr ∧ Row 1 vFlt 22 (w0.heap.size) wr (.slice (some ⟨b, 0, none⟩) (l.length) c) (isort 0 l.length l)) ?_ ?_
      · skip
        exact ⟨_, rfl, hf.sub ⟨rfl, rfl, rfl, rfl, rfl, rfl, trivial⟩, hb, hr1⟩
      · skip
        clear hf fa; intro mq2 fa w3 hI KL2 hKL2
        clear hb
        clear hr1
        obtain ⟨hmq2, hf, hb, hr⟩ := hI
        have hcr := Row.caps hr
        refine wp_seq_k (fun K7 hK7 => ?_)
        refine wp_seq_k (fun K8 hK8 => ?_)
        refine wp_region_lit ?_
        refine sqv hf (r_move rfl) rfl rfl rfl ?_; clear hf fa; intro fa hf
        refine sqv hf (r_move rfl) rfl rfl rfl ?_; clear hf fa; intro fa hf
        refine sqv hf (r_lt rfl rfl) rfl rfl rfl ?_; clear hf fa; intro fa hf
        apply wpList_nil
        (try simp only [Exit.then, Exit.inBlock, ↓reduceIte, Nat.reduceEqDiff])
        refine hK8 _ _ ?_
        refine wp_cond_split (t := (decide ((20 : Int) < ((l.length : Nat) : Int)))) (hf.ev rfl) (fun hqt30_1 => ?_) (fun hqt30_1 => ?_)
        · have hqt30_1b := hqt30_1
          try simp only [decide_eq_true_eq, Bool.and_eq_true, Bool.or_eq_true, Bool.not_eq_true', decide_eq_false_iff_not, ne_eq, Bool.not_eq_true] at hqt30_1
          exfalso; omega
        · have hqt30_1b := hqt30_1
          replace hqt30_1 := Bool.eq_false_iff.1 hqt30_1
          try simp only [ne_eq, decide_eq_true_eq, Bool.and_eq_true, Bool.or_eq_true, Bool.not_eq_true', decide_eq_false_iff_not] at hqt30_1
          refine wp_exit ?_
          (try simp only [Exit.then, Exit.inBlock, ↓reduceIte, Nat.reduceEqDiff])
          refine end0 hf rfl ?_
          exact ⟨rfl, hr, hb⟩

set_option maxHeartbeats 1000000 in
set_option maxRecDepth 100000 in
theorem sortst_small (b c : Nat) (l : List Nat) (h20 : l.length < 20) (w0 w : World) (hb : Below w0.heap.size w0 w) (hR : Row 1 vFlt 22 w0.heap.size w (.slice (some ⟨b, 0, none⟩) l.length c) l) (hW : allW l) : Calls Try.prog 33 #[(.slice (some ⟨b, 0, none⟩) l.length c), (.func (.func 9) #[] #[])] w fun e w' => e = .returned (.tuple #[]) ∧ Row 1 vFlt 22 w0.heap.size w' (.slice (some ⟨b, 0, none⟩) l.length c) (isort 0 l.length l) ∧ Below w0.heap.size w0 w' := by
  refine sx_enter (L := [(0, (.slice (some ⟨b, 0, none⟩) l.length c)), (1, (.func (.func 9) #[] #[]))]) Try.func33 rfl rfl rfl rfl (fun fa hf => ?_)
  refine wp_region_lit ?_
  refine sqv hf (r_move rfl) rfl rfl rfl ?_; clear hf fa; intro fa hf
  refine sqv hf (r_move rfl) rfl rfl rfl ?_; clear hf fa; intro fa hf
  refine sqv hf (r_lensl rfl Try.underlying30) rfl rfl rfl ?_; clear hf fa; intro fa hf
  refine sqv hf (r_move rfl) rfl rfl rfl ?_; clear hf fa; intro fa hf
  refine sqdt hf (d_callX (R := fun vz wz => vz = .tuple #[] ∧ Row 1 vFlt 22 w0.heap.size wz (.slice (some ⟨b, 0, none⟩) l.length c) (isort 0 l.length l) ∧ Below w0.heap.size w0 wz) (vs := [(.slice (some ⟨b, 0, none⟩) l.length c), (.int .i64 ((l.length : Nat) : Int)), (.func (.func 9) #[] #[])]) rfl Try.func36 (by kernel_rfl) (by kernel_rfl) (Calls.mono (stable_small b c l h20 w0 _ hb hR hW) (fun e w2 h => ⟨_, h.1, rfl, h.2⟩))) rfl rfl rfl ?_; clear hf fa; rintro fa _ w1 ⟨rfl, hr1, hb1⟩ hf
  clear hb hR
  have hb := hb1
  clear hb1
  apply wpList_nil
  (try simp only [Exit.then, Exit.inBlock, ↓reduceIte, Nat.reduceEqDiff])
  refine end0 hf rfl ?_
  exact ⟨rfl, hr1, hb⟩

set_option maxHeartbeats 1000000 in
set_option maxRecDepth 100000 in
theorem rank_small (A : Addr) (c : Nat) (l : List Nat) (x : Nat) (w : World) (hl : RdS 1 vFlt w (some A) l) (h0 : 0 < l.length) (h20 : l.length < 20) (hW : allW l) (hq0 : (ford x 0 == some .gt || ford x 0 == some .eq) = true) (hq1 : (ford x 4607182418800017408 == some .lt || ford x 4607182418800017408 == some .eq) = true) (r k : Nat) (hmul : floatBits .mul .f64 x (floatOfInt .f64 (((l.length : Nat) : Int) - (1 : Int))) = some r) (hk : floatToIntVal .f64 r .i64 = some ((k : Nat) : Int)) (hkl : k < l.length) : Calls Try.prog 15 #[(.float .f64 x), (.slice (some A) l.length c)] w fun e w' => e = .returned (.float .f64 ((isort 0 l.length l).getD k 0)) ∧ Below w.heap.size w w' := by
  refine sx_enter (L := [(0, (.float .f64 x)), (1, (.slice (some A) l.length c))]) Try.func15 rfl rfl rfl rfl (fun fa hf => ?_)
  have hb : Below w.heap.size w w := Below.refl _ _
  refine wp_seq_k (fun K1 hK1 => ?_)
  refine wp_region_lit ?_
  refine sqv hf (r_assign rfl) rfl rfl rfl ?_; clear hf fa; intro fa hf
  apply wpList_nil
  (try simp only [Exit.then, Exit.inBlock, ↓reduceIte, Nat.reduceEqDiff])
  refine hK1 _ _ ?_
  refine wp_seq_k (fun K2 hK2 => ?_)
  refine wp_seq_k (fun K3 hK3 => ?_)
  refine wp_region_lit ?_
  refine sqv hf (r_move rfl) rfl rfl rfl ?_; clear hf fa; intro fa hf
  refine sqv hf (r_lensl rfl Try.underlying30) rfl rfl rfl ?_; clear hf fa; intro fa hf
  refine sqv hf (Runs.veq (r_eq rfl rfl) (congrArg Value.bool (show _ = false from (decide_eq_false (by omega))))) rfl rfl rfl ?_; clear hf fa; intro fa hf
  refine sqv hf (r_move rfl) rfl rfl rfl ?_; clear hf fa; intro fa hf
  refine sqgd (act := true) (g := 3) (want := false) (ag := true) (c := false) hf (by rfl) (by rfl) rfl (fun _ =>  Runs.does (R := fun vq wq => vq = (.float .f64 x) ∧ w = wq) (r_move rfl) ⟨rfl, rfl⟩) (fun h => by cases h) rfl ?_; clear hf fa; rintro fa _ _ ⟨rfl, rfl⟩ hf
  change Fr _ _ ((10, (.float .f64 x)) :: _) at hf
  refine sqgd (act := true) (g := 3) (want := false) (ag := true) (c := false) hf (by rfl) (by rfl) rfl (fun _ =>  Runs.does (R := fun vq wq => vq = (.bool true) ∧ w = wq) (Runs.veq (r_fgeq rfl rfl) (congrArg Value.bool (show _ = true from hq0))) ⟨rfl, rfl⟩) (fun h => by cases h) rfl ?_; clear hf fa; rintro fa _ _ ⟨rfl, rfl⟩ hf
  change Fr _ _ ((11, (.bool true)) :: _) at hf
  refine sqgd (act := true) (g := 3) (want := false) (ag := true) (c := false) hf (by rfl) (by rfl) rfl (fun _ =>  Runs.does (R := fun vq wq => vq = (.bool true) ∧ w = wq) (r_move rfl) ⟨rfl, rfl⟩) (fun h => by cases h) rfl ?_; clear hf fa; rintro fa _ _ ⟨rfl, rfl⟩ hf
  change Fr _ _ ((12, (.bool true)) :: _) at hf
  refine sqgd (act := true) (g := 6) (want := true) (ag := true) (c := true) hf (by rfl) (by rfl) rfl (fun _ =>  Runs.does (R := fun vq wq => vq = (.float .f64 x) ∧ w = wq) (r_move rfl) ⟨rfl, rfl⟩) (fun h => by cases h) rfl ?_; clear hf fa; rintro fa _ _ ⟨rfl, rfl⟩ hf
  change Fr _ _ ((13, (.float .f64 x)) :: _) at hf
  refine sqgd (act := true) (g := 6) (want := true) (ag := true) (c := true) hf (by rfl) (by rfl) rfl (fun _ =>  Runs.does (R := fun vq wq => vq = (.bool true) ∧ w = wq) (Runs.veq (r_fleq rfl rfl) (congrArg Value.bool (show _ = true from hq1))) ⟨rfl, rfl⟩) (fun h => by cases h) rfl ?_; clear hf fa; rintro fa _ _ ⟨rfl, rfl⟩ hf
  change Fr _ _ ((14, (.bool true)) :: _) at hf
  refine sqgd (act := true) (g := 3) (want := false) (ag := true) (c := false) hf (by rfl) (by rfl) rfl (fun _ =>  Runs.does (R := fun vq wq => vq = (.bool true) ∧ w = wq) (r_pick (b := true) rfl rfl rfl rfl) ⟨rfl, rfl⟩) (fun h => by cases h) rfl ?_; clear hf fa; rintro fa _ _ ⟨rfl, rfl⟩ hf
  change Fr _ _ ((15, (.bool true)) :: _) at hf
  refine sqgd (act := true) (g := 3) (want := false) (ag := true) (c := false) hf (by rfl) (by rfl) rfl (fun _ =>  Runs.does (R := fun vq wq => vq = (.bool false) ∧ w = wq) (Runs.veq (v' := (.bool false)) (r_not rfl) rfl) ⟨rfl, rfl⟩) (fun h => by cases h) rfl ?_; clear hf fa; rintro fa _ _ ⟨rfl, rfl⟩ hf
  change Fr _ _ ((16, (.bool false)) :: _) at hf
  refine sqv hf (r_pick (b := false) rfl rfl rfl rfl) rfl rfl rfl ?_; clear hf fa; intro fa hf
  apply wpList_nil
  (try simp only [Exit.then, Exit.inBlock, ↓reduceIte, Nat.reduceEqDiff])
  refine hK3 _ _ ?_
  refine wp_cond_false (hf.ev rfl) ?_
  refine wp_skip ?_
  (try simp only [Exit.then, Exit.inBlock, ↓reduceIte, Nat.reduceEqDiff])
  refine hK2 _ _ ?_
  refine wp_seq_k (fun K4 hK4 => ?_)
  refine wp_region_lit ?_
  refine sqv hf (r_move rfl) rfl rfl rfl ?_; clear hf fa; intro fa hf
  refine sqdt hf (d_callX (vs := [(.slice (some A) l.length c)]) rfl Try.func32 (by kernel_rfl) (by kernel_rfl) (clone_any A c l _ (RdS.ext hl hb) h0 (by omega))) rfl rfl rfl ?_; clear hf fa; rintro fa v w1 ⟨hr1, he1⟩ hf; obtain ⟨ra1, rc1, rfl, hcrc1, hmrc1⟩ := Row.slice hr1
  replace hb := hb.trans (Below.mono he1 hb.size)
  refine sqv hf (r_assign rfl) rfl rfl rfl ?_; clear hf fa; intro fa hf
  apply wpList_nil
  (try simp only [Exit.then, Exit.inBlock, ↓reduceIte, Nat.reduceEqDiff])
  refine hK4 _ _ ?_
  refine wp_seq_k (fun K5 hK5 => ?_)
  obtain ⟨rb1, rfl, hbbrb1, hlbrb1⟩ := Row.some hr1 h0
  refine wp_region_lit ?_
  refine sqv hf (r_move rfl) rfl rfl rfl ?_; clear hf fa; intro fa hf
  refine sqdt hf (d_callX (R := fun vz wz => vz = .tuple #[] ∧ Row 1 vFlt 22 w.heap.size wz (.slice (some ⟨rb1, 0, none⟩) l.length rc1) (isort 0 l.length l) ∧ Below w.heap.size w wz) (vs := [(.slice (some ⟨rb1, 0, none⟩) l.length rc1), (.func (.func 9) #[] #[])]) rfl Try.func33 (by kernel_rfl) (by kernel_rfl) (Calls.mono (sortst_small rb1 _ l h20 w _ hb hr1 hW) (fun e w2 h => ⟨_, h.1, rfl, h.2⟩))) rfl rfl rfl ?_; clear hf fa; rintro fa _ w2 ⟨rfl, hr2, hb1⟩ hf
  clear hb hr1
  have hb := hb1
  clear hb1
  apply wpList_nil
  (try simp only [Exit.then, Exit.inBlock, ↓reduceIte, Nat.reduceEqDiff])
  refine hK5 _ _ ?_
  refine wp_seq_k (fun K6 hK6 => ?_)
  have hil := isort_len 0 l.length l
  refine wp_region_lit ?_
  refine sqv hf (r_move rfl) rfl rfl rfl ?_; clear hf fa; intro fa hf
  refine sqv hf (r_move rfl) rfl rfl rfl ?_; clear hf fa; intro fa hf
  refine sqv hf (r_move rfl) rfl rfl rfl ?_; clear hf fa; intro fa hf
  refine sqv hf (r_lensl rfl Try.underlying30) rfl rfl rfl ?_; clear hf fa; intro fa hf
  refine sqv hf (r_sub (C := (((l.length : Nat) : Int) - (1 : Int))) rfl rfl (by rw [IntKind.wrap_i64]; omega)) rfl rfl rfl ?_; clear hf fa; intro fa hf
  refine sqv hf (r_fofint rfl Try.underlying3 Try.underlying22) rfl rfl rfl ?_; clear hf fa; intro fa hf
  refine sqv hf (r_farith (r := r) rfl rfl (fun _ => rfl) hmul) rfl rfl rfl ?_; clear hf fa; intro fa hf
  refine sqv hf (r_ftoint (n := ((k : Nat) : Int)) rfl Try.underlying22 Try.underlying3 hk) rfl rfl rfl ?_; clear hf fa; intro fa hf
  have hy1 := getD_at (l := (isort 0 l.length l)) (j := k) 0 (by first | omega | (simp only [Sl.list_length, List.length_set, List.length_take, List.length_append, List.length_replicate, List.length_cons, List.length_nil, List.length_map, nums_len]; omega))
  have hel1 := RdS.at (Row.rd (by intros; rfl) hr2) hy1
  obtain ⟨_, _, hab, hlr1, hel1⟩ := hel1
  cases hab
  refine sqv hf (r_ixa (sz := 1) (j := k) rfl rfl Try.underlying30 (by kernel_rfl) rfl (by omega) rfl) rfl rfl rfl ?_; clear hf fa; intro fa hf
  refine sqv hf (r_load (v := (.float .f64 ((isort 0 l.length l).getD k 0))) rfl Try.underlying22 rfl (cellsAt_cell hel1 (i := 0) rfl rfl)) rfl rfl rfl ?_; clear hf fa; intro fa hf
  refine sqv hf (r_assign rfl) rfl rfl rfl ?_; clear hf fa; intro fa hf
  apply wpList_nil
  (try simp only [Exit.then, Exit.inBlock, ↓reduceIte, Nat.reduceEqDiff])
  refine hK6 _ _ ?_
  refine wp_ret ?_
  (try simp only [Exit.then, Exit.inBlock])
  refine ret1 hf rfl rfl ?_
  exact ⟨rfl, hb⟩

set_option maxHeartbeats 1000000 in
set_option maxRecDepth 100000 in
theorem awake48_any (w : World) : Calls Try.prog 6 #[] w fun e w' => e = .returned (.bool true) ∧ Below w.heap.size w w' := by
  refine sx_enter (L := []) Try.func6 rfl rfl rfl rfl (fun fa hf => ?_)
  have hb : Below w.heap.size w w := Below.refl _ _
  refine wp_seq_k (fun K1 hK1 => ?_)
  refine wp_region_lit ?_
  refine sqv hf (r_assign rfl) rfl rfl rfl ?_; clear hf fa; intro fa hf
  apply wpList_nil
  (try simp only [Exit.then, Exit.inBlock, ↓reduceIte, Nat.reduceEqDiff])
  refine hK1 _ _ ?_
  refine wp_seq_k (fun K2 hK2 => ?_)
  refine wp_region_lit ?_
  refine sqv hf (r_assign rfl) rfl rfl rfl ?_; clear hf fa; intro fa hf
  apply wpList_nil
  (try simp only [Exit.then, Exit.inBlock, ↓reduceIte, Nat.reduceEqDiff])
  refine hK2 _ _ ?_
  refine wp_seq_k (fun K3 hK3 => ?_)
  refine wp_region_lit ?_
  refine sqv hf (r_move rfl) rfl rfl rfl ?_; clear hf fa; intro fa hf
  refine sqv hf (r_farith (r := 9218868437227405312) rfl rfl (fun _ => rfl) (by decide +kernel)) rfl rfl rfl ?_; clear hf fa; intro fa hf
  refine sqv hf (r_farith (r := 9223372036854775808) rfl rfl (fun _ => rfl) (by decide +kernel)) rfl rfl rfl ?_; clear hf fa; intro fa hf
  refine sqdt hf (d_callB (vs := [(.float .f64 9223372036854775808), (.float .f64 0)]) rfl Try.func9 (by kernel_rfl) (by kernel_rfl) (order_any 9223372036854775808 0 (by first | assumption | omega) (by first | assumption | omega) _)) rfl rfl rfl ?_; clear hf fa; rintro fa _ w1 ⟨rfl, he1⟩ hf
  replace hb := hb.trans (Below.mono he1 hb.size)
  refine sqv hf (Runs.veq (r_eq rfl rfl) (congrArg Value.bool (show _ = true from (by decide +kernel)))) rfl rfl rfl ?_; clear hf fa; intro fa hf
  refine sqv hf (r_move rfl) rfl rfl rfl ?_; clear hf fa; intro fa hf
  refine sqgd (act := true) (g := 5) (want := true) (ag := true) (c := true) hf (by rfl) (by rfl) rfl (fun _ =>  (d_bslice (z := (.float .f64 0)) (sz := 1) (vs := [(0, (.float .f64 4613937818241073152)), (1, (.float .f64 4607182418800017408)), (2, (.float .f64 4611686018427387904))]) (cs := #[(.float .f64 4613937818241073152), (.float .f64 4607182418800017408), (.float .f64 4611686018427387904)]) rfl Try.underlying30 (by kernel_rfl) rfl (by kernel_rfl))) (fun h => by cases h) rfl ?_; clear hf fa; rintro fa _ w2 ⟨b1, rfl, hle1, hk1, he2⟩ hf
  have hBb1 : w.heap.size ≤ b1 := Nat.le_trans hb.size hle1
  replace hb := hb.trans (Below.mono he2 hb.size)
  change Fr _ _ ((8, (.slice (some ⟨b1, 0, none⟩) 3 3)) :: _) at hf
  refine sqgd (act := true) (g := 5) (want := true) (ag := true) (c := true) hf (by rfl) (by rfl) rfl (fun _ =>  (d_callB (vs := [(.float .f64 4602678819172646912), (.slice (some ⟨b1, 0, none⟩) 3 3)]) rfl Try.func15 (by kernel_rfl) (by kernel_rfl) (rank_small _ _ [4613937818241073152, 4607182418800017408, 4611686018427387904] 4602678819172646912 _ (Row.rd (by intros; rfl) (Row.of_new (k := 1) (V := vFlt) (l := [4613937818241073152, 4607182418800017408, 4611686018427387904]) hk1 (Nat.le_refl _) rfl rfl (Nat.le_of_ble_eq_true rfl))) (by decide) (by decide) (by unfold allW; decide) (by decide +kernel) (by decide +kernel) 4607182418800017408 1 (by decide +kernel) (by decide +kernel) (by decide))) ) (fun h => by cases h) rfl ?_; clear hf fa; rintro fa _ w3 ⟨rfl, he3⟩ hf
  replace hk1 := blk_ext hk1 he3
  replace hb := hb.trans (Below.mono he3 hb.size)
  change Fr _ _ ((9, (.float .f64 ((isort 0 ([4613937818241073152, 4607182418800017408, 4611686018427387904]).length [4613937818241073152, 4607182418800017408, 4611686018427387904]).getD 1 0))) :: _) at hf
  refine sqgd (act := true) (g := 5) (want := true) (ag := true) (c := true) hf (by rfl) (by rfl) rfl (fun _ =>  Runs.does (R := fun vq wq => vq = (.bool true) ∧ w3 = wq) (Runs.veq (r_feql rfl rfl) (congrArg Value.bool (show _ = true from (by decide +kernel)))) ⟨rfl, rfl⟩) (fun h => by cases h) rfl ?_; clear hf fa; rintro fa _ _ ⟨rfl, rfl⟩ hf
  change Fr _ _ ((10, (.bool true)) :: _) at hf
  refine sqv hf (r_pick (b := true) rfl rfl rfl rfl) rfl rfl rfl ?_; clear hf fa; intro fa hf
  refine sqv hf (r_move rfl) rfl rfl rfl ?_; clear hf fa; intro fa hf
  refine sqv hf (r_pick (b := true) rfl rfl rfl rfl) rfl rfl rfl ?_; clear hf fa; intro fa hf
  refine sqv hf (r_move rfl) rfl rfl rfl ?_; clear hf fa; intro fa hf
  refine sqv hf (r_pick (b := true) rfl rfl rfl rfl) rfl rfl rfl ?_; clear hf fa; intro fa hf
  refine sqv hf (r_assign rfl) rfl rfl rfl ?_; clear hf fa; intro fa hf
  apply wpList_nil
  (try simp only [Exit.then, Exit.inBlock, ↓reduceIte, Nat.reduceEqDiff])
  refine hK3 _ _ ?_
  refine wp_ret ?_
  (try simp only [Exit.then, Exit.inBlock])
  refine ret1 hf rfl rfl ?_
  exact ⟨rfl, hb⟩
end Go.Proofs.Ytbllifhcfgjdlaa
