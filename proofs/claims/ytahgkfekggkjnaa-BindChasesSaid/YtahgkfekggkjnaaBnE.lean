/- What is proved here: the law BindChases is true. -/
import Derived.Test.YtahgkfekggkjnaaBnD
namespace Go.Proofs.Ytahgkfekggkjnaa
open Go.RowKit
set_option linter.unusedVariables false
set_option linter.unusedSimpArgs false
instance : Inhabited MMd := ⟨zMMd⟩
theorem chase_nil (w : World) : Calls Try.prog 28 #[.slice none 0 0, (.agg #[(.int .i64 (0 : Int)), (.int .u32 (0 : Int))])] w fun e w' => e = .returned (.tuple #[(.agg #[(.int .i64 (0 : Int)), (.int .u32 (0 : Int))]), .int .i64 20]) ∧ Below w.heap.size w w' := by
  have h := chase_any (⟨none, 0, 0, fun _ => default⟩ : Sl MMd) [] 0 0 w ⟨by decide, by decide, by decide, fun _ => rfl, fun j hj => absurd hj (by simp)⟩ (by intro m hm; simp [Sl.list] at hm) none 0 0 RdS.nil rfl rfl (by decide) (by intro j m hm; simp [Sl.list] at hm) (by decide)
  have e : chaseR (⟨none, 0, 0, fun _ => default⟩ : Sl MMd) (1 + 0) 0 0 = (0, 0, 20) := by rw [show 1 + 0 = 0 + 1 from rfl, chaseR, if_pos (by right; decide)]
  rw [e] at h
  exact h

set_option maxHeartbeats 1000000 in
set_option maxRecDepth 100000 in
theorem awake39_any (w : World) : Calls Try.prog 26 #[] w fun e w' => e = .returned (.bool true) ∧ Below w.heap.size w w' := by
  refine sx_enter (L := []) Try.func26 rfl rfl rfl rfl (fun fa hf => ?_)
  have hb : Below w.heap.size w w := Below.refl _ _
  refine wp_seq_k (fun K1 hK1 => ?_)
  refine wp_region_lit ?_
  refine sqv hf (r_assign rfl) rfl rfl rfl ?_; clear hf fa; intro fa hf
  apply wpList_nil
  (try simp only [Exit.then, Exit.inBlock, ↓reduceIte, Nat.reduceEqDiff])
  refine hK1 _ _ ?_
  refine wp_seq_k (fun K2 hK2 => ?_)
  refine wp_region_lit ?_
  refine sqv hf (r_build (vs := []) (cs := #[(.int .i64 (0 : Int)), (.int .u32 (0 : Int))]) rfl (fun _ => by kernel_rfl)) rfl rfl rfl ?_; clear hf fa; intro fa hf
  refine sqdt hf (d_callB (vs := [(.slice none 0 0), (.agg #[(.int .i64 (0 : Int)), (.int .u32 (0 : Int))])]) rfl Try.func28 (by kernel_rfl) (by kernel_rfl) (chase_nil _)) rfl rfl rfl ?_; clear hf fa; rintro fa _ w1 ⟨rfl, he1⟩ hf
  replace hb := hb.trans (Below.mono he1 hb.size)
  refine sqv hf (r_move rfl) rfl rfl rfl ?_; clear hf fa; intro fa hf
  refine sqv hf (r_extract rfl (i := 0) rfl) rfl rfl rfl ?_; clear hf fa; intro fa hf
  refine sqv hf (r_extract rfl (i := 1) rfl) rfl rfl rfl ?_; clear hf fa; intro fa hf
  refine sqdt hf (d_alloc (z := (.agg #[(.int .i64 (0 : Int)), (.int .u32 (0 : Int))])) (cs := #[(.int .i64 (0 : Int)), (.int .u32 (0 : Int))]) (by kernel_rfl) rfl) rfl rfl rfl ?_; clear hf fa; rintro fa _ w2 ⟨b1, rfl, hle1, hk1, he2⟩ hf
  have hBb1 : w.heap.size ≤ b1 := Nat.le_trans hb.size hle1
  replace hb := hb.trans (Below.mono he2 hb.size)
  refine sqn hf (d_storeK (T := 49) (v := (.agg #[(.int .i64 (0 : Int)), (.int .u32 (0 : Int))])) (cs := #[(.int .i64 (0 : Int)), (.int .u32 (0 : Int))]) (cs' := #[(.int .i64 (0 : Int)), (.int .u32 (0 : Int))]) rfl rfl (by kernel_rfl) (by kernel_rfl) hk1 (by kernel_rfl) (by kernel_rfl)) rfl rfl ?_; clear hf fa; rintro fa _ w3 ⟨hk2, hg1⟩ hf
  replace hb := hb.trans (grown_below hg1 hb.size hBb1)
  refine sqv hf (r_assign rfl) rfl rfl rfl ?_; clear hf fa; intro fa hf
  apply wpList_nil
  (try simp only [Exit.then, Exit.inBlock, ↓reduceIte, Nat.reduceEqDiff])
  refine hK2 _ _ ?_
  refine wp_seq_k (fun K3 hK3 => ?_)
  refine wp_region_lit ?_
  refine sqv hf (r_move rfl) rfl rfl rfl ?_; clear hf fa; intro fa hf
  refine sqv hf (r_eq rfl rfl) rfl rfl rfl ?_; clear hf fa; intro fa hf
  refine sqv hf (r_assign rfl) rfl rfl rfl ?_; clear hf fa; intro fa hf
  apply wpList_nil
  (try simp only [Exit.then, Exit.inBlock, ↓reduceIte, Nat.reduceEqDiff])
  refine hK3 _ _ ?_
  refine wp_ret ?_
  (try simp only [Exit.then, Exit.inBlock])
  refine ret1 hf rfl rfl ?_
  exact ⟨congrArg (fun b => Ending.returned (.bool b)) (by decide), hb⟩

theorem chase_rng {w : World} {d : Sl MMd} {BYT : Nat} (g : fSlW 17 BYT vMMd fMMd w d) : ∀ (f : Nat) (u i : Int), 0 ≤ i ∧ i < 4294967296 → 0 ≤ (chaseR d f u i).2.1 ∧ (chaseR d f u i).2.1 < 4294967296
  | 0, _, _, _ => ⟨by show (0 : Int) ≤ 0; decide, by show (0 : Int) < 4294967296; decide⟩
  | f + 1, u, i, h => by
    rw [chaseR]
    by_cases h1 : u < 0 ∨ ((d.len : Nat) : Int) ≤ u
    · rw [if_pos h1]; exact ⟨by show (0 : Int) ≤ 0; decide, by show (0 : Int) < 4294967296; decide⟩
    · rw [if_neg h1]
      by_cases h2 : (((takU d u).length : Nat) : Int) ≤ i
      · rw [if_pos h2]; exact h
      · rw [if_neg h2]
        by_cases h3 : (ranyP d ((takU d u).getD i.toNat zMImp).2.1).2.2.2 ≠ 0
        · rw [if_pos h3]; exact ⟨by show (0 : Int) ≤ 0; decide, by show (0 : Int) < 4294967296; decide⟩
        · rw [if_neg h3]; exact chase_rng g f _ _ (rany_rng g _)

set_option maxHeartbeats 1000000 in
set_option maxRecDepth 100000 in
theorem bindChases_any (d : Sl MMd) (u0 i0 : Int) (w : World) (g : fSlW 17 296 vMMd fMMd w d) (hu0 : -9223372036854775808 ≤ u0 ∧ u0 < 9223372036854775808) (hi0 : 0 ≤ i0 ∧ i0 < 4294967296) : Calls Try.prog 6 #[(.slice d.at' d.len d.cap), (.int .i64 u0), (.int .u32 i0)] w fun e w' => e = .returned (.bool true) ∧ Below w.heap.size w w' := by
  refine sx_enter (L := [(0, (.slice d.at' d.len d.cap)), (1, (.int .i64 u0)), (2, (.int .u32 i0))]) Try.func6 rfl rfl rfl rfl (fun fa hf => ?_)
  have hb : Below w.heap.size w w := Below.refl _ _
  refine wp_seq_k (fun K1 hK1 => ?_)
  refine wp_region_lit ?_
  refine sqv hf (r_assign rfl) rfl rfl rfl ?_; clear hf fa; intro fa hf
  apply wpList_nil
  (try simp only [Exit.then, Exit.inBlock, ↓reduceIte, Nat.reduceEqDiff])
  refine hK1 _ _ ?_
  refine wp_seq_k (fun K2 hK2 => ?_)
  refine wp_seq_k (fun K3 hK3 => ?_)
  refine wp_region_lit ?_
  refine sqdt hf (d_callB (vs := []) rfl Try.func26 (by kernel_rfl) (by kernel_rfl) (awake39_any _)) rfl rfl rfl ?_; clear hf fa; rintro fa _ w1 ⟨rfl, he1⟩ hf
  replace hb := hb.trans (Below.mono he1 hb.size)
  refine sqv hf (r_not rfl) rfl rfl rfl ?_; clear hf fa; intro fa hf
  apply wpList_nil
  (try simp only [Exit.then, Exit.inBlock, ↓reduceIte, Nat.reduceEqDiff])
  refine hK3 _ _ ?_
  refine wp_cond_false ((hf.ev rfl).trans (congrArg Value.bool (show (!true) = false from rfl))) ?_
  refine wp_skip ?_
  (try simp only [Exit.then, Exit.inBlock, ↓reduceIte, Nat.reduceEqDiff])
  refine hK2 _ _ ?_
  refine wp_seq_k (fun K4 hK4 => ?_)
  refine wp_region_lit ?_
  refine sqv hf (r_move rfl) rfl rfl rfl ?_; clear hf fa; intro fa hf
  refine sqdt hf (d_callX (vs := [(.slice d.at' d.len d.cap)]) rfl Try.func27 (by kernel_rfl) (by kernel_rfl) (units_any d _ (by exact ⟨g.1, (fSl_kept g.2 hb)⟩))) rfl rfl rfl ?_; clear hf fa; rintro fa _ w2 ⟨ua, uc, ub, ul, rfl, hU0, hr1, he2⟩ hf
  replace hr1 := Row.rebase hr1 hb.size
  replace hb := hb.trans (Below.mono he2 hb.size)
  have hcu := Row.caps hr1
  refine sqv hf (r_move rfl) rfl rfl rfl ?_; clear hf fa; intro fa hf
  refine sqv hf (r_extract rfl (i := 0) rfl) rfl rfl rfl ?_; clear hf fa; intro fa hf
  refine sqv hf (r_extract rfl (i := 1) rfl) rfl rfl rfl ?_; clear hf fa; intro fa hf
  refine sqv hf (r_assign rfl) rfl rfl rfl ?_; clear hf fa; intro fa hf
  refine sqv hf (r_assign rfl) rfl rfl rfl ?_; clear hf fa; intro fa hf
  apply wpList_nil
  (try simp only [Exit.then, Exit.inBlock, ↓reduceIte, Nat.reduceEqDiff])
  refine hK4 _ _ ?_
  refine wp_seq_k (fun K5 hK5 => ?_)
  refine wp_seq_k (fun K6 hK6 => ?_)
  refine wp_region_lit ?_
  refine sqv hf (r_move rfl) rfl rfl rfl ?_; clear hf fa; intro fa hf
  refine sqv hf (r_not rfl) rfl rfl rfl ?_; clear hf fa; intro fa hf
  apply wpList_nil
  (try simp only [Exit.then, Exit.inBlock, ↓reduceIte, Nat.reduceEqDiff])
  refine hK6 _ _ ?_
  refine wp_cond_split (t := (!ub)) (hf.ev rfl) (fun hqt22_1 => ?_) (fun hqt22_1 => ?_)
  · have hqt22_1b := hqt22_1
    try simp only [decide_eq_true_eq, Bool.and_eq_true, Bool.or_eq_true, Bool.not_eq_true', decide_eq_false_iff_not, ne_eq, Bool.not_eq_true] at hqt22_1
    refine wp_seq_k (fun K7 hK7 => ?_)
    refine wp_region_lit ?_
    refine sqv hf (r_assign rfl) rfl rfl rfl ?_; clear hf fa; intro fa hf
    apply wpList_nil
    (try simp only [Exit.then, Exit.inBlock, ↓reduceIte, Nat.reduceEqDiff])
    refine hK7 _ _ ?_
    refine wp_ret ?_
    (try simp only [Exit.then, Exit.inBlock])
    refine ret1 hf rfl rfl ?_
    exact ⟨rfl, hb⟩
  · have hqt22_1b := hqt22_1
    replace hqt22_1 := Bool.eq_false_iff.1 hqt22_1
    try simp only [ne_eq, decide_eq_true_eq, Bool.and_eq_true, Bool.or_eq_true, Bool.not_eq_true', decide_eq_false_iff_not] at hqt22_1
    refine wp_skip ?_
    (try simp only [Exit.then, Exit.inBlock, ↓reduceIte, Nat.reduceEqDiff])
    refine hK5 _ _ ?_
    refine wp_seq_k (fun K8 hK8 => ?_)
    have hub : ub = true := by simpa using hqt22_1b
    have hU := hU0 hub
    obtain ⟨cr, hcr⟩ : ∃ x, chaseR d (1 + d.len) u0 i0 = x := ⟨_, rfl⟩
    have hcr2 : chaseR d (1 + ul.length) u0 i0 = cr := by rw [hU.1]; exact hcr
    refine wp_region_lit ?_
    refine sqv hf (r_move rfl) rfl rfl rfl ?_; clear hf fa; intro fa hf
    refine sqv hf (r_move rfl) rfl rfl rfl ?_; clear hf fa; intro fa hf
    refine sqv hf (r_move rfl) rfl rfl rfl ?_; clear hf fa; intro fa hf
    refine sqv hf (r_build (vs := [(0, (.int .i64 u0)), (1, (.int .u32 i0))]) (cs := #[(.int .i64 u0), (.int .u32 i0)]) rfl (fun _ => by kernel_rfl)) rfl rfl rfl ?_; clear hf fa; intro fa hf
    refine sqdt hf (d_callB (v := (.tuple #[(.agg #[(.int .i64 cr.1), (.int .u32 cr.2.1)]), (.int .i64 cr.2.2)])) (vs := [(.slice ua ul.length uc), (.agg #[(.int .i64 u0), (.int .u32 i0)])]) rfl Try.func28 (by kernel_rfl) (by kernel_rfl) (by have h := chase_any d ul u0 i0 _ ⟨g.1, fSl_kept g.2 hb⟩ hU.2.2.2 ua ul.length uc (Row.rd (by intros; rfl) hr1) rfl hU.1 (by have := hU.2.1; omega) hU.2.2.1 hi0; rw [hcr2] at h; exact h)) rfl rfl rfl ?_; clear hf fa; rintro fa _ w3 ⟨rfl, he3⟩ hf
    replace hr1 := Row.ext hr1 he3
    replace hb := hb.trans (Below.mono he3 hb.size)
    refine sqv hf (r_move rfl) rfl rfl rfl ?_; clear hf fa; intro fa hf
    refine sqv hf (r_extract rfl (i := 0) rfl) rfl rfl rfl ?_; clear hf fa; intro fa hf
    refine sqv hf (r_extract rfl (i := 1) rfl) rfl rfl rfl ?_; clear hf fa; intro fa hf
    refine sqdt hf (d_alloc (z := (.agg #[(.int .i64 (0 : Int)), (.int .u32 (0 : Int))])) (cs := #[(.int .i64 (0 : Int)), (.int .u32 (0 : Int))]) (by kernel_rfl) rfl) rfl rfl rfl ?_; clear hf fa; rintro fa _ w4 ⟨b1, rfl, hle1, hk1, he4⟩ hf
    have hBb1 : w.heap.size ≤ b1 := Nat.le_trans hb.size hle1
    replace hr1 := Row.ext hr1 he4
    replace hb := hb.trans (Below.mono he4 hb.size)
    refine sqn hf (d_storeK (T := 49) (v := (.agg #[(.int .i64 cr.1), (.int .u32 cr.2.1)])) (cs := #[(.int .i64 (0 : Int)), (.int .u32 (0 : Int))]) (cs' := #[(.int .i64 cr.1), (.int .u32 cr.2.1)]) rfl rfl (by kernel_rfl) (by kernel_rfl) hk1 (by kernel_rfl) (by kernel_rfl)) rfl rfl ?_; clear hf fa; rintro fa _ w5 ⟨hk2, hg1⟩ hf
    replace hr1 := Row.grown hr1 hg1 (Row.ne_type hr1 hk1 rfl)
    replace hb := hb.trans (grown_below hg1 hb.size hBb1)
    refine sqv hf (r_assign rfl) rfl rfl rfl ?_; clear hf fa; intro fa hf
    apply wpList_nil
    (try simp only [Exit.then, Exit.inBlock, ↓reduceIte, Nat.reduceEqDiff])
    refine hK8 _ _ ?_
    refine wp_seq_k (fun K9 hK9 => ?_)
    refine wp_region_lit ?_
    refine sqv hf (r_move rfl) rfl rfl rfl ?_; clear hf fa; intro fa hf
    refine sqv hf (r_move rfl) rfl rfl rfl ?_; clear hf fa; intro fa hf
    refine sqv hf (r_move rfl) rfl rfl rfl ?_; clear hf fa; intro fa hf
    refine sqdt hf (d_callB (v := (.tuple #[(.int .i64 cr.1), (.int .u32 cr.2.1), (.int .i64 cr.2.2)])) (vs := [(.slice d.at' d.len d.cap), (.int .i64 u0), (.int .u32 i0)]) rfl Try.func29 (by kernel_rfl) (by kernel_rfl) (by have h := rchase_any d u0 i0 _ ⟨g.1, fSl_kept g.2 hb⟩ hU.2.2.2 hU.2.1 hi0; rw [hcr] at h; exact h)) rfl rfl rfl ?_; clear hf fa; rintro fa _ w6 ⟨rfl, he5⟩ hf
    replace hk2 := blk_ext hk2 he5
    replace hr1 := Row.ext hr1 he5
    replace hb := hb.trans (Below.mono he5 hb.size)
    refine sqv hf (r_move rfl) rfl rfl rfl ?_; clear hf fa; intro fa hf
    refine sqv hf (r_extract rfl (i := 0) rfl) rfl rfl rfl ?_; clear hf fa; intro fa hf
    refine sqv hf (r_extract rfl (i := 1) rfl) rfl rfl rfl ?_; clear hf fa; intro fa hf
    refine sqv hf (r_extract rfl (i := 2) rfl) rfl rfl rfl ?_; clear hf fa; intro fa hf
    refine sqv hf (r_assign rfl) rfl rfl rfl ?_; clear hf fa; intro fa hf
    refine sqv hf (r_assign rfl) rfl rfl rfl ?_; clear hf fa; intro fa hf
    refine sqv hf (r_assign rfl) rfl rfl rfl ?_; clear hf fa; intro fa hf
    apply wpList_nil
    (try simp only [Exit.then, Exit.inBlock, ↓reduceIte, Nat.reduceEqDiff])
    refine hK9 _ _ ?_
    refine wp_seq_k (fun K10 hK10 => ?_)
    refine wp_seq_k (fun K11 hK11 => ?_)
    refine wp_region_lit ?_
    refine sqv hf (r_move rfl) rfl rfl rfl ?_; clear hf fa; intro fa hf
    refine sqv hf (r_move rfl) rfl rfl rfl ?_; clear hf fa; intro fa hf
    refine sqv hf (r_ne rfl rfl) rfl rfl rfl ?_; clear hf fa; intro fa hf
    refine sqv hf (r_move rfl) rfl rfl rfl ?_; clear hf fa; intro fa hf
    refine sqgd (act := true) (g := 3) (want := false) (ag := true) (c := (decide (cr.2.2 ≠ cr.2.2))) hf (by rfl) (by rfl) (by simp) (fun _ =>  Runs.does (R := fun vq wq => vq = (.agg #[(.int .i64 cr.1), (.int .u32 cr.2.1)]) ∧ w6 = wq) (r_loadA (cs := [(.int .i64 cr.1), (.int .u32 cr.2.1)]) rfl Try.underlying49 rfl (by kernel_rfl) (cellsAt_blk hk2)) ⟨rfl, rfl⟩) (fun h => by cases h) rfl ?_; clear hf fa; rintro fa _ _ ⟨rfl, rfl⟩ hf
    change Fr _ _ ((43, (.agg #[(.int .i64 cr.1), (.int .u32 cr.2.1)])) :: _) at hf
    refine sqgd (act := true) (g := 3) (want := false) (ag := true) (c := (decide (cr.2.2 ≠ cr.2.2))) hf (by rfl) (by rfl) (by simp) (fun _ =>  Runs.does (R := fun vq wq => vq = (.int .i64 cr.1) ∧ w6 = wq) (r_move rfl) ⟨rfl, rfl⟩) (fun h => by cases h) rfl ?_; clear hf fa; rintro fa _ _ ⟨rfl, rfl⟩ hf
    change Fr _ _ ((44, (.int .i64 cr.1)) :: _) at hf
    refine sqgd (act := true) (g := 3) (want := false) (ag := true) (c := (decide (cr.2.2 ≠ cr.2.2))) hf (by rfl) (by rfl) (by simp) (fun _ =>  Runs.does (R := fun vq wq => vq = (.int .u32 cr.2.1) ∧ w6 = wq) (r_move rfl) ⟨rfl, rfl⟩) (fun h => by cases h) rfl ?_; clear hf fa; rintro fa _ _ ⟨rfl, rfl⟩ hf
    change Fr _ _ ((45, (.int .u32 cr.2.1)) :: _) at hf
    refine sqgd (act := true) (g := 3) (want := false) (ag := true) (c := (decide (cr.2.2 ≠ cr.2.2))) hf (by rfl) (by rfl) (by simp) (fun _ =>  Runs.does (R := fun vq wq => vq = (.agg #[(.int .i64 cr.1), (.int .u32 cr.2.1)]) ∧ w6 = wq) (r_build (vs := [(0, (.int .i64 cr.1)), (1, (.int .u32 cr.2.1))]) (cs := #[(.int .i64 cr.1), (.int .u32 cr.2.1)]) rfl (fun _ => by kernel_rfl)) ⟨rfl, rfl⟩) (fun h => by cases h) rfl ?_; clear hf fa; rintro fa _ _ ⟨rfl, rfl⟩ hf
    change Fr _ _ ((46, (.agg #[(.int .i64 cr.1), (.int .u32 cr.2.1)])) :: _) at hf
    refine sqgd (act := true) (g := 3) (want := false) (ag := true) (c := (decide (cr.2.2 ≠ cr.2.2))) hf (by rfl) (by rfl) (by simp) (fun _ =>  Runs.does (R := fun vq wq => vq = (.bool (!((decide (cr.1 = cr.1)) && (decide (cr.2.1 = cr.2.1))))) ∧ w6 = wq) (r_ane (k := 5) rfl rfl (by kernel_rfl) (eqt_struct (xs := #[(.int .i64 cr.1), (.int .u32 cr.2.1)]) (ys := #[(.int .i64 cr.1), (.int .u32 cr.2.1)]) Try.underlying49 (by kernel_rfl) (eqf_cons (by kernel_rfl) (fun _ => by kernel_rfl) (fun _ => by kernel_rfl) (eqt_int (kk := .i64) (a := cr.1) (b := cr.1) Try.underlying3) (eqf_one (by kernel_rfl) (fun _ => by kernel_rfl) (fun _ => by kernel_rfl) (eqt_int (kk := .u32) (a := cr.2.1) (b := cr.2.1) Try.underlying44)))) rfl) ⟨rfl, rfl⟩) (fun h => by cases h) rfl ?_; clear hf fa; rintro fa _ _ ⟨rfl, rfl⟩ hf
    change Fr _ _ ((47, (.bool (!((decide (cr.1 = cr.1)) && (decide (cr.2.1 = cr.2.1)))))) :: _) at hf
    refine sqv hf (r_pick (b := (decide (cr.2.2 ≠ cr.2.2))) rfl rfl rfl (by rw [show (decide (cr.2.2 ≠ cr.2.2)) = false from (by simp)]; try rfl)) rfl rfl rfl ?_; clear hf fa; intro fa hf
    apply wpList_nil
    (try simp only [Exit.then, Exit.inBlock, ↓reduceIte, Nat.reduceEqDiff])
    refine hK11 _ _ ?_
    refine wp_cond_false ((hf.ev rfl).trans (congrArg Value.bool (show (!((decide (cr.1 = cr.1)) && (decide (cr.2.1 = cr.2.1)))) = false from (by simp)))) ?_
    refine wp_skip ?_
    (try simp only [Exit.then, Exit.inBlock, ↓reduceIte, Nat.reduceEqDiff])
    refine hK10 _ _ ?_
    refine wp_seq_k (fun K12 hK12 => ?_)
    skip
    by_cases hsp1 : cr.2.2 = 0
    · have hsp1b : decide (cr.2.2 = 0) = true := decide_eq_true hsp1
      have hca := chase_at d (1 + d.len) u0 i0 (by rw [hcr]; exact hsp1)
      rw [hcr] at hca
      have hmm : (d.list.getD (cr.1).toNat zMMd) ∈ d.list := getD_memL (by rw [Sl.list_length]; omega)
      have gM := fSl_mem g.2 hmm
      have hir : 0 ≤ cr.2.1 ∧ cr.2.1 < 4294967296 := by rw [← hcr]; exact chase_rng g _ _ _ hi0
      have hy1 : (d.list)[(cr.1).toNat]? = some (d.list.getD (cr.1).toNat zMMd) := (getD_at zMMd (by rw [Sl.list_length]; omega))
      obtain ⟨ab1, aoff1, hat1, hlb1, hel1⟩ := RdS.at (RdS.of_arg g.2) hy1
      refine wp_region_un (fun wq => Below w6.heap.size w6 wq) (fun w w' => Below w.heap.size w w')
        (fun V => [(fun x _ => x = (.int .i64 cr.2.2)), (fun x _ => x = (.bool (decide (cr.2.2 ≠ (0 : Int))))), (fun x _ => x = (.bool (decide (cr.2.2 ≠ (0 : Int))))), (fun x _ => x = (.pointer (some ⟨b1, 1, none⟩))), (fun x _ => x = (.int .u32 cr.2.1)), (fun x _ => x = (.int .i64 cr.2.1)), (fun x _ => x = (.slice d.at' d.len d.cap)), (fun x _ => x = (.int .i64 cr.1)), (fun x _ => x = (.pointer (some ⟨ab1, (aoff1 + (cr.1).toNat * 17), none⟩))), (fun x _ => x = (.agg #[(.slice (d.list.getD (cr.1).toNat zMMd).1.at' ((d.list.getD (cr.1).toNat zMMd).1.len) (d.list.getD (cr.1).toNat zMMd).1.cap), (.slice (d.list.getD (cr.1).toNat zMMd).2.1.at' ((d.list.getD (cr.1).toNat zMMd).2.1.len) (d.list.getD (cr.1).toNat zMMd).2.1.cap), (.slice (d.list.getD (cr.1).toNat zMMd).2.2.1.at' ((d.list.getD (cr.1).toNat zMMd).2.2.1.len) (d.list.getD (cr.1).toNat zMMd).2.2.1.cap), (.slice (d.list.getD (cr.1).toNat zMMd).2.2.2.1.at' ((d.list.getD (cr.1).toNat zMMd).2.2.2.1.len) (d.list.getD (cr.1).toNat zMMd).2.2.2.1.cap), (.slice (d.list.getD (cr.1).toNat zMMd).2.2.2.2.1.at' ((d.list.getD (cr.1).toNat zMMd).2.2.2.2.1.len) (d.list.getD (cr.1).toNat zMMd).2.2.2.2.1.cap), (.slice (d.list.getD (cr.1).toNat zMMd).2.2.2.2.2.1.at' ((d.list.getD (cr.1).toNat zMMd).2.2.2.2.2.1.len) (d.list.getD (cr.1).toNat zMMd).2.2.2.2.2.1.cap), (.slice (d.list.getD (cr.1).toNat zMMd).2.2.2.2.2.2.1.at' ((d.list.getD (cr.1).toNat zMMd).2.2.2.2.2.2.1.len) (d.list.getD (cr.1).toNat zMMd).2.2.2.2.2.2.1.cap), (.int .i64 ((d.list.getD (cr.1).toNat zMMd).2.2.2.2.2.2.2.1)), (.slice (d.list.getD (cr.1).toNat zMMd).2.2.2.2.2.2.2.2.1.at' ((d.list.getD (cr.1).toNat zMMd).2.2.2.2.2.2.2.2.1.len) (d.list.getD (cr.1).toNat zMMd).2.2.2.2.2.2.2.2.1.cap), (.slice (d.list.getD (cr.1).toNat zMMd).2.2.2.2.2.2.2.2.2.1.at' ((d.list.getD (cr.1).toNat zMMd).2.2.2.2.2.2.2.2.2.1.len) (d.list.getD (cr.1).toNat zMMd).2.2.2.2.2.2.2.2.2.1.cap), (.slice (d.list.getD (cr.1).toNat zMMd).2.2.2.2.2.2.2.2.2.2.1.at' ((d.list.getD (cr.1).toNat zMMd).2.2.2.2.2.2.2.2.2.2.1.len) (d.list.getD (cr.1).toNat zMMd).2.2.2.2.2.2.2.2.2.2.1.cap), (.bool (d.list.getD (cr.1).toNat zMMd).2.2.2.2.2.2.2.2.2.2.2.1.1), (.int .u32 ((d.list.getD (cr.1).toNat zMMd).2.2.2.2.2.2.2.2.2.2.2.1.2.1)), (.int .u32 ((d.list.getD (cr.1).toNat zMMd).2.2.2.2.2.2.2.2.2.2.2.1.2.2.1)), (.int .u32 ((d.list.getD (cr.1).toNat zMMd).2.2.2.2.2.2.2.2.2.2.2.1.2.2.2.1)), (.int .u32 ((d.list.getD (cr.1).toNat zMMd).2.2.2.2.2.2.2.2.2.2.2.1.2.2.2.2.1)), (.slice (d.list.getD (cr.1).toNat zMMd).2.2.2.2.2.2.2.2.2.2.2.1.2.2.2.2.2.1.at' ((d.list.getD (cr.1).toNat zMMd).2.2.2.2.2.2.2.2.2.2.2.1.2.2.2.2.2.1.len) (d.list.getD (cr.1).toNat zMMd).2.2.2.2.2.2.2.2.2.2.2.1.2.2.2.2.2.1.cap)])), (fun x wq => ∃ a c, x = .slice a (((namesT (d.list.getD (cr.1).toNat zMMd).2.1.list)).length) c ∧ Row 1 vStr 9 w6.heap.size wq x (namesT (d.list.getD (cr.1).toNat zMMd).2.1.list)), (fun x _ => x = (.int .i64 ((((namesT (d.list.getD (cr.1).toNat zMMd).2.1.list)).length : Nat) : Int))), (fun x _ => x = (.bool (decide (((((namesT (d.list.getD (cr.1).toNat zMMd).2.1.list)).length : Nat) : Int) ≤ cr.2.1)))), (fun x _ => x = (.bool (decide (((((namesT (d.list.getD (cr.1).toNat zMMd).2.1.list)).length : Nat) : Int) ≤ cr.2.1)))), (fun x _ => x = (.bool (decide (((((namesT (d.list.getD (cr.1).toNat zMMd).2.1.list)).length : Nat) : Int) ≤ cr.2.1))))])
        []
        [[], [0], [1], [2], [2, 3], [2, 4], [2], [2], [2, 6, 7], [2, 8], [2, 9], [2, 10], [2, 5, 11], [2, 12], [0, 1, 2, 3, 4, 5, 6, 7, 8, 9, 10, 11, 12, 13]]
        hf (by kernel_rfl) (by kernel_rfl) (fun _ => rfl) ((Below.refl _ _).drew) (fun a b h1 h2 => h1.trans (h2.mono h1.size)) (fun _ _ h => h.size) (fun V => ⟨kept_eq, kept_eq, kept_eq, kept_eq, kept_eq, kept_eq, kept_eq, kept_eq, kept_eq, kept_eq, keptE, kept_eq, kept_eq, kept_eq, kept_eq, trivial⟩) (fun _ _ _ _ _ => rfl) ?_ ?_
      · skip
        intro V
        refine ⟨fun wu0 hC hd => ?_, ?_⟩
        · clear hd
          replace hb := hb.trans (hC.mono hb.size)
          replace hk2 := blk_ext hk2 hC
          replace hr1 := Row.ext hr1 hC
          exact Runs.does (r_move rfl) ⟨Below.refl _ _, rfl, nofr rfl⟩
        refine ⟨fun wu1 hC hd => ?_, ?_⟩
        · obtain ⟨h0, _⟩ := hd
          skip
          replace h0 : V 0 = (.int .i64 cr.2.2) := h0
          replace hb := hb.trans (hC.mono hb.size)
          replace hk2 := blk_ext hk2 hC
          replace hr1 := Row.ext hr1 hC
          exact Runs.does (r_ne (congrArg some h0) rfl) ⟨Below.refl _ _, rfl, nofr rfl⟩
        refine ⟨fun wu2 hC hd => ?_, ?_⟩
        · obtain ⟨h1, _⟩ := hd
          skip
          replace h1 : V 1 = (.bool (decide (cr.2.2 ≠ (0 : Int)))) := h1
          replace hb := hb.trans (hC.mono hb.size)
          replace hk2 := blk_ext hk2 hC
          replace hr1 := Row.ext hr1 hC
          exact Runs.does (r_move (congrArg some h1)) ⟨Below.refl _ _, rfl, nofr rfl⟩
        refine ⟨fun wu3 hC hd => ?_, ?_⟩
        · obtain ⟨h2, _⟩ := hd
          skip
          replace h2 : V 2 = (.bool (decide (cr.2.2 ≠ (0 : Int)))) := h2
          replace hb := hb.trans (hC.mono hb.size)
          replace hk2 := blk_ext hk2 hC
          replace hr1 := Row.ext hr1 hC
          refine ⟨true, (decide (cr.2.2 ≠ (0 : Int))), congrArg some h2, fun hact => ?_, fun hact => ?_⟩
          · exact Runs.does (r_fa rfl Try.underlying49 (f := 1) (q := 1) rfl (by kernel_rfl) rfl) ⟨Below.refl _ _, rfl, nofr rfl⟩
          · exfalso; replace hact : (!(decide (cr.2.2 ≠ (0 : Int)))) = false := by simpa using hact
            rw [show (!(decide (cr.2.2 ≠ (0 : Int)))) = true from (by simp only [Bool.not_eq_true', Bool.not_eq_false', decide_eq_false_iff_not, decide_eq_true_eq]; omega)] at hact; cases hact
        refine ⟨fun wu4 hC hd => ?_, ?_⟩
        · obtain ⟨h2, h3, _⟩ := hd
          skip
          skip
          replace h2 : V 2 = (.bool (decide (cr.2.2 ≠ (0 : Int)))) := h2
          replace h3 : V 3 = (.pointer (some ⟨b1, 1, none⟩)) := h3
          replace hb := hb.trans (hC.mono hb.size)
          replace hk2 := blk_ext hk2 hC
          replace hr1 := Row.ext hr1 hC
          refine ⟨true, (decide (cr.2.2 ≠ (0 : Int))), congrArg some h2, fun hact => ?_, fun hact => ?_⟩
          · exact Runs.does (r_load (v := (.int .u32 cr.2.1)) (congrArg some h3) Try.underlying44 rfl (cell_blk hk2 rfl)) ⟨Below.refl _ _, rfl, nofr rfl⟩
          · exfalso; replace hact : (!(decide (cr.2.2 ≠ (0 : Int)))) = false := by simpa using hact
            rw [show (!(decide (cr.2.2 ≠ (0 : Int)))) = true from (by simp only [Bool.not_eq_true', Bool.not_eq_false', decide_eq_false_iff_not, decide_eq_true_eq]; omega)] at hact; cases hact
        refine ⟨fun wu5 hC hd => ?_, ?_⟩
        · obtain ⟨h2, h4, _⟩ := hd
          skip
          skip
          replace h2 : V 2 = (.bool (decide (cr.2.2 ≠ (0 : Int)))) := h2
          replace h4 : V 4 = (.int .u32 cr.2.1) := h4
          replace hb := hb.trans (hC.mono hb.size)
          replace hk2 := blk_ext hk2 hC
          replace hr1 := Row.ext hr1 hC
          refine ⟨true, (decide (cr.2.2 ≠ (0 : Int))), congrArg some h2, fun hact => ?_, fun hact => ?_⟩
          · exact Runs.does (r_conv (C := cr.2.1) (congrArg some h4) Try.underlying44 Try.underlying3 (by rw [IntKind.wrap_i64]; omega)) ⟨Below.refl _ _, rfl, nofr rfl⟩
          · exfalso; replace hact : (!(decide (cr.2.2 ≠ (0 : Int)))) = false := by simpa using hact
            rw [show (!(decide (cr.2.2 ≠ (0 : Int)))) = true from (by simp only [Bool.not_eq_true', Bool.not_eq_false', decide_eq_false_iff_not, decide_eq_true_eq]; omega)] at hact; cases hact
        refine ⟨fun wu6 hC hd => ?_, ?_⟩
        · obtain ⟨h2, _⟩ := hd
          skip
          replace h2 : V 2 = (.bool (decide (cr.2.2 ≠ (0 : Int)))) := h2
          replace hb := hb.trans (hC.mono hb.size)
          replace hk2 := blk_ext hk2 hC
          replace hr1 := Row.ext hr1 hC
          refine ⟨true, (decide (cr.2.2 ≠ (0 : Int))), congrArg some h2, fun hact => ?_, fun hact => ?_⟩
          · exact Runs.does (r_move rfl) ⟨Below.refl _ _, rfl, nofr rfl⟩
          · exfalso; replace hact : (!(decide (cr.2.2 ≠ (0 : Int)))) = false := by simpa using hact
            rw [show (!(decide (cr.2.2 ≠ (0 : Int)))) = true from (by simp only [Bool.not_eq_true', Bool.not_eq_false', decide_eq_false_iff_not, decide_eq_true_eq]; omega)] at hact; cases hact
        refine ⟨fun wu7 hC hd => ?_, ?_⟩
        · obtain ⟨h2, _⟩ := hd
          skip
          replace h2 : V 2 = (.bool (decide (cr.2.2 ≠ (0 : Int)))) := h2
          replace hb := hb.trans (hC.mono hb.size)
          replace hk2 := blk_ext hk2 hC
          replace hr1 := Row.ext hr1 hC
          refine ⟨true, (decide (cr.2.2 ≠ (0 : Int))), congrArg some h2, fun hact => ?_, fun hact => ?_⟩
          · exact Runs.does (r_move rfl) ⟨Below.refl _ _, rfl, nofr rfl⟩
          · exfalso; replace hact : (!(decide (cr.2.2 ≠ (0 : Int)))) = false := by simpa using hact
            rw [show (!(decide (cr.2.2 ≠ (0 : Int)))) = true from (by simp only [Bool.not_eq_true', Bool.not_eq_false', decide_eq_false_iff_not, decide_eq_true_eq]; omega)] at hact; cases hact
        refine ⟨fun wu8 hC hd => ?_, ?_⟩
        · obtain ⟨h2, h6, h7, _⟩ := hd
          skip
          skip
          skip
          replace h2 : V 2 = (.bool (decide (cr.2.2 ≠ (0 : Int)))) := h2
          replace h6 : V 6 = (.slice d.at' d.len d.cap) := h6
          replace h7 : V 7 = (.int .i64 cr.1) := h7
          replace hb := hb.trans (hC.mono hb.size)
          replace hk2 := blk_ext hk2 hC
          replace hr1 := Row.ext hr1 hC
          refine ⟨true, (decide (cr.2.2 ≠ (0 : Int))), congrArg some h2, fun hact => ?_, fun hact => ?_⟩
          · exact Runs.does (r_ixa (sz := 17) (j := (cr.1).toNat) (evAt (congrArg some h6) hat1) (congrArg some h7) Try.underlying43 (by kernel_rfl) (by omega) (by omega) rfl) ⟨Below.refl _ _, rfl, nofr rfl⟩
          · exfalso; replace hact : (!(decide (cr.2.2 ≠ (0 : Int)))) = false := by simpa using hact
            rw [show (!(decide (cr.2.2 ≠ (0 : Int)))) = true from (by simp only [Bool.not_eq_true', Bool.not_eq_false', decide_eq_false_iff_not, decide_eq_true_eq]; omega)] at hact; cases hact
        refine ⟨fun wu9 hC hd => ?_, ?_⟩
        · obtain ⟨h2, h8, _⟩ := hd
          skip
          skip
          replace h2 : V 2 = (.bool (decide (cr.2.2 ≠ (0 : Int)))) := h2
          replace h8 : V 8 = (.pointer (some ⟨ab1, (aoff1 + (cr.1).toNat * 17), none⟩)) := h8
          replace hb := hb.trans (hC.mono hb.size)
          replace hk2 := blk_ext hk2 hC
          replace hr1 := Row.ext hr1 hC
          refine ⟨true, (decide (cr.2.2 ≠ (0 : Int))), congrArg some h2, fun hact => ?_, fun hact => ?_⟩
          · exact Runs.does (r_loadA (cs := [(.slice (d.list.getD (cr.1).toNat zMMd).1.at' ((d.list.getD (cr.1).toNat zMMd).1.len) (d.list.getD (cr.1).toNat zMMd).1.cap), (.slice (d.list.getD (cr.1).toNat zMMd).2.1.at' ((d.list.getD (cr.1).toNat zMMd).2.1.len) (d.list.getD (cr.1).toNat zMMd).2.1.cap), (.slice (d.list.getD (cr.1).toNat zMMd).2.2.1.at' ((d.list.getD (cr.1).toNat zMMd).2.2.1.len) (d.list.getD (cr.1).toNat zMMd).2.2.1.cap), (.slice (d.list.getD (cr.1).toNat zMMd).2.2.2.1.at' ((d.list.getD (cr.1).toNat zMMd).2.2.2.1.len) (d.list.getD (cr.1).toNat zMMd).2.2.2.1.cap), (.slice (d.list.getD (cr.1).toNat zMMd).2.2.2.2.1.at' ((d.list.getD (cr.1).toNat zMMd).2.2.2.2.1.len) (d.list.getD (cr.1).toNat zMMd).2.2.2.2.1.cap), (.slice (d.list.getD (cr.1).toNat zMMd).2.2.2.2.2.1.at' ((d.list.getD (cr.1).toNat zMMd).2.2.2.2.2.1.len) (d.list.getD (cr.1).toNat zMMd).2.2.2.2.2.1.cap), (.slice (d.list.getD (cr.1).toNat zMMd).2.2.2.2.2.2.1.at' ((d.list.getD (cr.1).toNat zMMd).2.2.2.2.2.2.1.len) (d.list.getD (cr.1).toNat zMMd).2.2.2.2.2.2.1.cap), (.int .i64 ((d.list.getD (cr.1).toNat zMMd).2.2.2.2.2.2.2.1)), (.slice (d.list.getD (cr.1).toNat zMMd).2.2.2.2.2.2.2.2.1.at' ((d.list.getD (cr.1).toNat zMMd).2.2.2.2.2.2.2.2.1.len) (d.list.getD (cr.1).toNat zMMd).2.2.2.2.2.2.2.2.1.cap), (.slice (d.list.getD (cr.1).toNat zMMd).2.2.2.2.2.2.2.2.2.1.at' ((d.list.getD (cr.1).toNat zMMd).2.2.2.2.2.2.2.2.2.1.len) (d.list.getD (cr.1).toNat zMMd).2.2.2.2.2.2.2.2.2.1.cap), (.slice (d.list.getD (cr.1).toNat zMMd).2.2.2.2.2.2.2.2.2.2.1.at' ((d.list.getD (cr.1).toNat zMMd).2.2.2.2.2.2.2.2.2.2.1.len) (d.list.getD (cr.1).toNat zMMd).2.2.2.2.2.2.2.2.2.2.1.cap), (.bool (d.list.getD (cr.1).toNat zMMd).2.2.2.2.2.2.2.2.2.2.2.1.1), (.int .u32 ((d.list.getD (cr.1).toNat zMMd).2.2.2.2.2.2.2.2.2.2.2.1.2.1)), (.int .u32 ((d.list.getD (cr.1).toNat zMMd).2.2.2.2.2.2.2.2.2.2.2.1.2.2.1)), (.int .u32 ((d.list.getD (cr.1).toNat zMMd).2.2.2.2.2.2.2.2.2.2.2.1.2.2.2.1)), (.int .u32 ((d.list.getD (cr.1).toNat zMMd).2.2.2.2.2.2.2.2.2.2.2.1.2.2.2.2.1)), (.slice (d.list.getD (cr.1).toNat zMMd).2.2.2.2.2.2.2.2.2.2.2.1.2.2.2.2.2.1.at' ((d.list.getD (cr.1).toNat zMMd).2.2.2.2.2.2.2.2.2.2.2.1.2.2.2.2.2.1.len) (d.list.getD (cr.1).toNat zMMd).2.2.2.2.2.2.2.2.2.2.2.1.2.2.2.2.2.1.cap)]) (congrArg some h8) Try.underlying67 rfl (by kernel_rfl) (cellsAt_below hel1 hb hlb1)) ⟨Below.refl _ _, rfl, nofr rfl⟩
          · exfalso; replace hact : (!(decide (cr.2.2 ≠ (0 : Int)))) = false := by simpa using hact
            rw [show (!(decide (cr.2.2 ≠ (0 : Int)))) = true from (by simp only [Bool.not_eq_true', Bool.not_eq_false', decide_eq_false_iff_not, decide_eq_true_eq]; omega)] at hact; cases hact
        refine ⟨fun wu10 hC hd => ?_, ?_⟩
        · obtain ⟨h2, h9, _⟩ := hd
          skip
          skip
          replace h2 : V 2 = (.bool (decide (cr.2.2 ≠ (0 : Int)))) := h2
          replace h9 : V 9 = (.agg #[(.slice (d.list.getD (cr.1).toNat zMMd).1.at' ((d.list.getD (cr.1).toNat zMMd).1.len) (d.list.getD (cr.1).toNat zMMd).1.cap), (.slice (d.list.getD (cr.1).toNat zMMd).2.1.at' ((d.list.getD (cr.1).toNat zMMd).2.1.len) (d.list.getD (cr.1).toNat zMMd).2.1.cap), (.slice (d.list.getD (cr.1).toNat zMMd).2.2.1.at' ((d.list.getD (cr.1).toNat zMMd).2.2.1.len) (d.list.getD (cr.1).toNat zMMd).2.2.1.cap), (.slice (d.list.getD (cr.1).toNat zMMd).2.2.2.1.at' ((d.list.getD (cr.1).toNat zMMd).2.2.2.1.len) (d.list.getD (cr.1).toNat zMMd).2.2.2.1.cap), (.slice (d.list.getD (cr.1).toNat zMMd).2.2.2.2.1.at' ((d.list.getD (cr.1).toNat zMMd).2.2.2.2.1.len) (d.list.getD (cr.1).toNat zMMd).2.2.2.2.1.cap), (.slice (d.list.getD (cr.1).toNat zMMd).2.2.2.2.2.1.at' ((d.list.getD (cr.1).toNat zMMd).2.2.2.2.2.1.len) (d.list.getD (cr.1).toNat zMMd).2.2.2.2.2.1.cap), (.slice (d.list.getD (cr.1).toNat zMMd).2.2.2.2.2.2.1.at' ((d.list.getD (cr.1).toNat zMMd).2.2.2.2.2.2.1.len) (d.list.getD (cr.1).toNat zMMd).2.2.2.2.2.2.1.cap), (.int .i64 ((d.list.getD (cr.1).toNat zMMd).2.2.2.2.2.2.2.1)), (.slice (d.list.getD (cr.1).toNat zMMd).2.2.2.2.2.2.2.2.1.at' ((d.list.getD (cr.1).toNat zMMd).2.2.2.2.2.2.2.2.1.len) (d.list.getD (cr.1).toNat zMMd).2.2.2.2.2.2.2.2.1.cap), (.slice (d.list.getD (cr.1).toNat zMMd).2.2.2.2.2.2.2.2.2.1.at' ((d.list.getD (cr.1).toNat zMMd).2.2.2.2.2.2.2.2.2.1.len) (d.list.getD (cr.1).toNat zMMd).2.2.2.2.2.2.2.2.2.1.cap), (.slice (d.list.getD (cr.1).toNat zMMd).2.2.2.2.2.2.2.2.2.2.1.at' ((d.list.getD (cr.1).toNat zMMd).2.2.2.2.2.2.2.2.2.2.1.len) (d.list.getD (cr.1).toNat zMMd).2.2.2.2.2.2.2.2.2.2.1.cap), (.bool (d.list.getD (cr.1).toNat zMMd).2.2.2.2.2.2.2.2.2.2.2.1.1), (.int .u32 ((d.list.getD (cr.1).toNat zMMd).2.2.2.2.2.2.2.2.2.2.2.1.2.1)), (.int .u32 ((d.list.getD (cr.1).toNat zMMd).2.2.2.2.2.2.2.2.2.2.2.1.2.2.1)), (.int .u32 ((d.list.getD (cr.1).toNat zMMd).2.2.2.2.2.2.2.2.2.2.2.1.2.2.2.1)), (.int .u32 ((d.list.getD (cr.1).toNat zMMd).2.2.2.2.2.2.2.2.2.2.2.1.2.2.2.2.1)), (.slice (d.list.getD (cr.1).toNat zMMd).2.2.2.2.2.2.2.2.2.2.2.1.2.2.2.2.2.1.at' ((d.list.getD (cr.1).toNat zMMd).2.2.2.2.2.2.2.2.2.2.2.1.2.2.2.2.2.1.len) (d.list.getD (cr.1).toNat zMMd).2.2.2.2.2.2.2.2.2.2.2.1.2.2.2.2.2.1.cap)]) := h9
          replace hb := hb.trans (hC.mono hb.size)
          replace hk2 := blk_ext hk2 hC
          replace hr1 := Row.ext hr1 hC
          refine ⟨true, (decide (cr.2.2 ≠ (0 : Int))), congrArg some h2, fun hact => ?_, fun hact => ?_⟩
          · refine Does.mono (d_callX (vs := [(.agg #[(.slice (d.list.getD (cr.1).toNat zMMd).1.at' ((d.list.getD (cr.1).toNat zMMd).1.len) (d.list.getD (cr.1).toNat zMMd).1.cap), (.slice (d.list.getD (cr.1).toNat zMMd).2.1.at' ((d.list.getD (cr.1).toNat zMMd).2.1.len) (d.list.getD (cr.1).toNat zMMd).2.1.cap), (.slice (d.list.getD (cr.1).toNat zMMd).2.2.1.at' ((d.list.getD (cr.1).toNat zMMd).2.2.1.len) (d.list.getD (cr.1).toNat zMMd).2.2.1.cap), (.slice (d.list.getD (cr.1).toNat zMMd).2.2.2.1.at' ((d.list.getD (cr.1).toNat zMMd).2.2.2.1.len) (d.list.getD (cr.1).toNat zMMd).2.2.2.1.cap), (.slice (d.list.getD (cr.1).toNat zMMd).2.2.2.2.1.at' ((d.list.getD (cr.1).toNat zMMd).2.2.2.2.1.len) (d.list.getD (cr.1).toNat zMMd).2.2.2.2.1.cap), (.slice (d.list.getD (cr.1).toNat zMMd).2.2.2.2.2.1.at' ((d.list.getD (cr.1).toNat zMMd).2.2.2.2.2.1.len) (d.list.getD (cr.1).toNat zMMd).2.2.2.2.2.1.cap), (.slice (d.list.getD (cr.1).toNat zMMd).2.2.2.2.2.2.1.at' ((d.list.getD (cr.1).toNat zMMd).2.2.2.2.2.2.1.len) (d.list.getD (cr.1).toNat zMMd).2.2.2.2.2.2.1.cap), (.int .i64 ((d.list.getD (cr.1).toNat zMMd).2.2.2.2.2.2.2.1)), (.slice (d.list.getD (cr.1).toNat zMMd).2.2.2.2.2.2.2.2.1.at' ((d.list.getD (cr.1).toNat zMMd).2.2.2.2.2.2.2.2.1.len) (d.list.getD (cr.1).toNat zMMd).2.2.2.2.2.2.2.2.1.cap), (.slice (d.list.getD (cr.1).toNat zMMd).2.2.2.2.2.2.2.2.2.1.at' ((d.list.getD (cr.1).toNat zMMd).2.2.2.2.2.2.2.2.2.1.len) (d.list.getD (cr.1).toNat zMMd).2.2.2.2.2.2.2.2.2.1.cap), (.slice (d.list.getD (cr.1).toNat zMMd).2.2.2.2.2.2.2.2.2.2.1.at' ((d.list.getD (cr.1).toNat zMMd).2.2.2.2.2.2.2.2.2.2.1.len) (d.list.getD (cr.1).toNat zMMd).2.2.2.2.2.2.2.2.2.2.1.cap), (.bool (d.list.getD (cr.1).toNat zMMd).2.2.2.2.2.2.2.2.2.2.2.1.1), (.int .u32 ((d.list.getD (cr.1).toNat zMMd).2.2.2.2.2.2.2.2.2.2.2.1.2.1)), (.int .u32 ((d.list.getD (cr.1).toNat zMMd).2.2.2.2.2.2.2.2.2.2.2.1.2.2.1)), (.int .u32 ((d.list.getD (cr.1).toNat zMMd).2.2.2.2.2.2.2.2.2.2.2.1.2.2.2.1)), (.int .u32 ((d.list.getD (cr.1).toNat zMMd).2.2.2.2.2.2.2.2.2.2.2.1.2.2.2.2.1)), (.slice (d.list.getD (cr.1).toNat zMMd).2.2.2.2.2.2.2.2.2.2.2.1.2.2.2.2.2.1.at' ((d.list.getD (cr.1).toNat zMMd).2.2.2.2.2.2.2.2.2.2.2.1.2.2.2.2.2.1.len) (d.list.getD (cr.1).toNat zMMd).2.2.2.2.2.2.2.2.2.2.2.1.2.2.2.2.2.1.cap)])]) (show [some (V 9)] = [some (.agg #[(.slice (d.list.getD (cr.1).toNat zMMd).1.at' ((d.list.getD (cr.1).toNat zMMd).1.len) (d.list.getD (cr.1).toNat zMMd).1.cap), (.slice (d.list.getD (cr.1).toNat zMMd).2.1.at' ((d.list.getD (cr.1).toNat zMMd).2.1.len) (d.list.getD (cr.1).toNat zMMd).2.1.cap), (.slice (d.list.getD (cr.1).toNat zMMd).2.2.1.at' ((d.list.getD (cr.1).toNat zMMd).2.2.1.len) (d.list.getD (cr.1).toNat zMMd).2.2.1.cap), (.slice (d.list.getD (cr.1).toNat zMMd).2.2.2.1.at' ((d.list.getD (cr.1).toNat zMMd).2.2.2.1.len) (d.list.getD (cr.1).toNat zMMd).2.2.2.1.cap), (.slice (d.list.getD (cr.1).toNat zMMd).2.2.2.2.1.at' ((d.list.getD (cr.1).toNat zMMd).2.2.2.2.1.len) (d.list.getD (cr.1).toNat zMMd).2.2.2.2.1.cap), (.slice (d.list.getD (cr.1).toNat zMMd).2.2.2.2.2.1.at' ((d.list.getD (cr.1).toNat zMMd).2.2.2.2.2.1.len) (d.list.getD (cr.1).toNat zMMd).2.2.2.2.2.1.cap), (.slice (d.list.getD (cr.1).toNat zMMd).2.2.2.2.2.2.1.at' ((d.list.getD (cr.1).toNat zMMd).2.2.2.2.2.2.1.len) (d.list.getD (cr.1).toNat zMMd).2.2.2.2.2.2.1.cap), (.int .i64 ((d.list.getD (cr.1).toNat zMMd).2.2.2.2.2.2.2.1)), (.slice (d.list.getD (cr.1).toNat zMMd).2.2.2.2.2.2.2.2.1.at' ((d.list.getD (cr.1).toNat zMMd).2.2.2.2.2.2.2.2.1.len) (d.list.getD (cr.1).toNat zMMd).2.2.2.2.2.2.2.2.1.cap), (.slice (d.list.getD (cr.1).toNat zMMd).2.2.2.2.2.2.2.2.2.1.at' ((d.list.getD (cr.1).toNat zMMd).2.2.2.2.2.2.2.2.2.1.len) (d.list.getD (cr.1).toNat zMMd).2.2.2.2.2.2.2.2.2.1.cap), (.slice (d.list.getD (cr.1).toNat zMMd).2.2.2.2.2.2.2.2.2.2.1.at' ((d.list.getD (cr.1).toNat zMMd).2.2.2.2.2.2.2.2.2.2.1.len) (d.list.getD (cr.1).toNat zMMd).2.2.2.2.2.2.2.2.2.2.1.cap), (.bool (d.list.getD (cr.1).toNat zMMd).2.2.2.2.2.2.2.2.2.2.2.1.1), (.int .u32 ((d.list.getD (cr.1).toNat zMMd).2.2.2.2.2.2.2.2.2.2.2.1.2.1)), (.int .u32 ((d.list.getD (cr.1).toNat zMMd).2.2.2.2.2.2.2.2.2.2.2.1.2.2.1)), (.int .u32 ((d.list.getD (cr.1).toNat zMMd).2.2.2.2.2.2.2.2.2.2.2.1.2.2.2.1)), (.int .u32 ((d.list.getD (cr.1).toNat zMMd).2.2.2.2.2.2.2.2.2.2.2.1.2.2.2.2.1)), (.slice (d.list.getD (cr.1).toNat zMMd).2.2.2.2.2.2.2.2.2.2.2.1.2.2.2.2.2.1.at' ((d.list.getD (cr.1).toNat zMMd).2.2.2.2.2.2.2.2.2.2.2.1.2.2.2.2.2.1.len) (d.list.getD (cr.1).toNat zMMd).2.2.2.2.2.2.2.2.2.2.2.1.2.2.2.2.2.1.cap)])] from by rw [h9]) Try.func30 (by kernel_rfl) (by kernel_rfl) (taken_any (d.list.getD (cr.1).toNat zMMd) _ (rdMMd.kept _ _ _ hb gM) (hU.2.2.2 _ hmm))) ?_
            rintro _ w' ⟨hF2, hF3⟩
            obtain ⟨ra, rc, rfl, _, _⟩ := Row.slice hF2
            exact ⟨hF3, ⟨ra, rc, rfl, hF2.rebase hC.size⟩, nofr rfl⟩
          · exfalso; replace hact : (!(decide (cr.2.2 ≠ (0 : Int)))) = false := by simpa using hact
            rw [show (!(decide (cr.2.2 ≠ (0 : Int)))) = true from (by simp only [Bool.not_eq_true', Bool.not_eq_false', decide_eq_false_iff_not, decide_eq_true_eq]; omega)] at hact; cases hact
        refine ⟨fun wu11 hC hd => ?_, ?_⟩
        · obtain ⟨h2, h10, _⟩ := hd
          skip
          skip
          replace h2 : V 2 = (.bool (decide (cr.2.2 ≠ (0 : Int)))) := h2
          obtain ⟨ea1, ec1, h10, hr2⟩ := h10
          rw [h10] at hr2
          replace hb := hb.trans (hC.mono hb.size)
          replace hk2 := blk_ext hk2 hC
          replace hr1 := Row.ext hr1 hC
          refine ⟨true, (decide (cr.2.2 ≠ (0 : Int))), congrArg some h2, fun hact => ?_, fun hact => ?_⟩
          · exact Runs.does (r_lensl (congrArg some h10) Try.underlying54) ⟨Below.refl _ _, rfl, nofr rfl⟩
          · exfalso; replace hact : (!(decide (cr.2.2 ≠ (0 : Int)))) = false := by simpa using hact
            rw [show (!(decide (cr.2.2 ≠ (0 : Int)))) = true from (by simp only [Bool.not_eq_true', Bool.not_eq_false', decide_eq_false_iff_not, decide_eq_true_eq]; omega)] at hact; cases hact
        refine ⟨fun wu12 hC hd => ?_, ?_⟩
        · obtain ⟨h2, h5, h11, _⟩ := hd
          skip
          skip
          skip
          replace h2 : V 2 = (.bool (decide (cr.2.2 ≠ (0 : Int)))) := h2
          replace h5 : V 5 = (.int .i64 cr.2.1) := h5
          replace h11 : V 11 = (.int .i64 ((((namesT (d.list.getD (cr.1).toNat zMMd).2.1.list)).length : Nat) : Int)) := h11
          replace hb := hb.trans (hC.mono hb.size)
          replace hk2 := blk_ext hk2 hC
          replace hr1 := Row.ext hr1 hC
          refine ⟨true, (decide (cr.2.2 ≠ (0 : Int))), congrArg some h2, fun hact => ?_, fun hact => ?_⟩
          · exact Runs.does (r_ge (congrArg some h5) (congrArg some h11)) ⟨Below.refl _ _, rfl, nofr rfl⟩
          · exfalso; replace hact : (!(decide (cr.2.2 ≠ (0 : Int)))) = false := by simpa using hact
            rw [show (!(decide (cr.2.2 ≠ (0 : Int)))) = true from (by simp only [Bool.not_eq_true', Bool.not_eq_false', decide_eq_false_iff_not, decide_eq_true_eq]; omega)] at hact; cases hact
        refine ⟨fun wu13 hC hd => ?_, ?_⟩
        · obtain ⟨h2, h12, _⟩ := hd
          skip
          skip
          replace h2 : V 2 = (.bool (decide (cr.2.2 ≠ (0 : Int)))) := h2
          replace h12 : V 12 = (.bool (decide (((((namesT (d.list.getD (cr.1).toNat zMMd).2.1.list)).length : Nat) : Int) ≤ cr.2.1))) := h12
          replace hb := hb.trans (hC.mono hb.size)
          replace hk2 := blk_ext hk2 hC
          replace hr1 := Row.ext hr1 hC
          exact Runs.does (r_pick (b := (decide (cr.2.2 ≠ (0 : Int)))) (congrArg some h2) rfl (congrArg some h12) (by rw [show (decide (cr.2.2 ≠ (0 : Int))) = false from (by simp only [Bool.not_eq_true', Bool.not_eq_false', decide_eq_false_iff_not, decide_eq_true_eq]; omega)]; try rfl)) ⟨Below.refl _ _, rfl, nofr rfl⟩
        refine ⟨fun wu14 hC hd => ?_, ?_⟩
        · obtain ⟨h0, h1, h2, h3, h4, h5, h6, h7, h8, h9, h10, h11, h12, h13, _⟩ := hd
          skip
          skip
          skip
          skip
          skip
          skip
          skip
          skip
          skip
          skip
          skip
          skip
          skip
          skip
          replace h0 : V 0 = (.int .i64 cr.2.2) := h0
          replace h1 : V 1 = (.bool (decide (cr.2.2 ≠ (0 : Int)))) := h1
          replace h2 : V 2 = (.bool (decide (cr.2.2 ≠ (0 : Int)))) := h2
          replace h3 : V 3 = (.pointer (some ⟨b1, 1, none⟩)) := h3
          replace h4 : V 4 = (.int .u32 cr.2.1) := h4
          replace h5 : V 5 = (.int .i64 cr.2.1) := h5
          replace h6 : V 6 = (.slice d.at' d.len d.cap) := h6
          replace h7 : V 7 = (.int .i64 cr.1) := h7
          replace h8 : V 8 = (.pointer (some ⟨ab1, (aoff1 + (cr.1).toNat * 17), none⟩)) := h8
          replace h9 : V 9 = (.agg #[(.slice (d.list.getD (cr.1).toNat zMMd).1.at' ((d.list.getD (cr.1).toNat zMMd).1.len) (d.list.getD (cr.1).toNat zMMd).1.cap), (.slice (d.list.getD (cr.1).toNat zMMd).2.1.at' ((d.list.getD (cr.1).toNat zMMd).2.1.len) (d.list.getD (cr.1).toNat zMMd).2.1.cap), (.slice (d.list.getD (cr.1).toNat zMMd).2.2.1.at' ((d.list.getD (cr.1).toNat zMMd).2.2.1.len) (d.list.getD (cr.1).toNat zMMd).2.2.1.cap), (.slice (d.list.getD (cr.1).toNat zMMd).2.2.2.1.at' ((d.list.getD (cr.1).toNat zMMd).2.2.2.1.len) (d.list.getD (cr.1).toNat zMMd).2.2.2.1.cap), (.slice (d.list.getD (cr.1).toNat zMMd).2.2.2.2.1.at' ((d.list.getD (cr.1).toNat zMMd).2.2.2.2.1.len) (d.list.getD (cr.1).toNat zMMd).2.2.2.2.1.cap), (.slice (d.list.getD (cr.1).toNat zMMd).2.2.2.2.2.1.at' ((d.list.getD (cr.1).toNat zMMd).2.2.2.2.2.1.len) (d.list.getD (cr.1).toNat zMMd).2.2.2.2.2.1.cap), (.slice (d.list.getD (cr.1).toNat zMMd).2.2.2.2.2.2.1.at' ((d.list.getD (cr.1).toNat zMMd).2.2.2.2.2.2.1.len) (d.list.getD (cr.1).toNat zMMd).2.2.2.2.2.2.1.cap), (.int .i64 ((d.list.getD (cr.1).toNat zMMd).2.2.2.2.2.2.2.1)), (.slice (d.list.getD (cr.1).toNat zMMd).2.2.2.2.2.2.2.2.1.at' ((d.list.getD (cr.1).toNat zMMd).2.2.2.2.2.2.2.2.1.len) (d.list.getD (cr.1).toNat zMMd).2.2.2.2.2.2.2.2.1.cap), (.slice (d.list.getD (cr.1).toNat zMMd).2.2.2.2.2.2.2.2.2.1.at' ((d.list.getD (cr.1).toNat zMMd).2.2.2.2.2.2.2.2.2.1.len) (d.list.getD (cr.1).toNat zMMd).2.2.2.2.2.2.2.2.2.1.cap), (.slice (d.list.getD (cr.1).toNat zMMd).2.2.2.2.2.2.2.2.2.2.1.at' ((d.list.getD (cr.1).toNat zMMd).2.2.2.2.2.2.2.2.2.2.1.len) (d.list.getD (cr.1).toNat zMMd).2.2.2.2.2.2.2.2.2.2.1.cap), (.bool (d.list.getD (cr.1).toNat zMMd).2.2.2.2.2.2.2.2.2.2.2.1.1), (.int .u32 ((d.list.getD (cr.1).toNat zMMd).2.2.2.2.2.2.2.2.2.2.2.1.2.1)), (.int .u32 ((d.list.getD (cr.1).toNat zMMd).2.2.2.2.2.2.2.2.2.2.2.1.2.2.1)), (.int .u32 ((d.list.getD (cr.1).toNat zMMd).2.2.2.2.2.2.2.2.2.2.2.1.2.2.2.1)), (.int .u32 ((d.list.getD (cr.1).toNat zMMd).2.2.2.2.2.2.2.2.2.2.2.1.2.2.2.2.1)), (.slice (d.list.getD (cr.1).toNat zMMd).2.2.2.2.2.2.2.2.2.2.2.1.2.2.2.2.2.1.at' ((d.list.getD (cr.1).toNat zMMd).2.2.2.2.2.2.2.2.2.2.2.1.2.2.2.2.2.1.len) (d.list.getD (cr.1).toNat zMMd).2.2.2.2.2.2.2.2.2.2.2.1.2.2.2.2.2.1.cap)]) := h9
          obtain ⟨ea1, ec1, h10, hr2⟩ := h10
          rw [h10] at hr2
          replace h11 : V 11 = (.int .i64 ((((namesT (d.list.getD (cr.1).toNat zMMd).2.1.list)).length : Nat) : Int)) := h11
          replace h12 : V 12 = (.bool (decide (((((namesT (d.list.getD (cr.1).toNat zMMd).2.1.list)).length : Nat) : Int) ≤ cr.2.1))) := h12
          replace h13 : V 13 = (.bool (decide (((((namesT (d.list.getD (cr.1).toNat zMMd).2.1.list)).length : Nat) : Int) ≤ cr.2.1))) := h13
          replace hb := hb.trans (hC.mono hb.size)
          replace hk2 := blk_ext hk2 hC
          replace hr1 := Row.ext hr1 hC
          exact Runs.does (r_assign (congrArg some h13)) ⟨Below.refl _ _, rfl, nofr rfl⟩
        trivial
      · skip
        clear hf fa; intro V w7 fa he6 hp hnb hf
        have hv0 : V 0 = (.int .i64 cr.2.2) := postsHold_at hp 0 rfl
        have hv1 : V 1 = (.bool (decide (cr.2.2 ≠ (0 : Int)))) := postsHold_at hp 1 rfl
        have hv2 : V 2 = (.bool (decide (cr.2.2 ≠ (0 : Int)))) := postsHold_at hp 2 rfl
        have hv3 : V 3 = (.pointer (some ⟨b1, 1, none⟩)) := postsHold_at hp 3 rfl
        have hv4 : V 4 = (.int .u32 cr.2.1) := postsHold_at hp 4 rfl
        have hv5 : V 5 = (.int .i64 cr.2.1) := postsHold_at hp 5 rfl
        have hv6 : V 6 = (.slice d.at' d.len d.cap) := postsHold_at hp 6 rfl
        have hv7 : V 7 = (.int .i64 cr.1) := postsHold_at hp 7 rfl
        have hv8 : V 8 = (.pointer (some ⟨ab1, (aoff1 + (cr.1).toNat * 17), none⟩)) := postsHold_at hp 8 rfl
        have hv9 : V 9 = (.agg #[(.slice (d.list.getD (cr.1).toNat zMMd).1.at' ((d.list.getD (cr.1).toNat zMMd).1.len) (d.list.getD (cr.1).toNat zMMd).1.cap), (.slice (d.list.getD (cr.1).toNat zMMd).2.1.at' ((d.list.getD (cr.1).toNat zMMd).2.1.len) (d.list.getD (cr.1).toNat zMMd).2.1.cap), (.slice (d.list.getD (cr.1).toNat zMMd).2.2.1.at' ((d.list.getD (cr.1).toNat zMMd).2.2.1.len) (d.list.getD (cr.1).toNat zMMd).2.2.1.cap), (.slice (d.list.getD (cr.1).toNat zMMd).2.2.2.1.at' ((d.list.getD (cr.1).toNat zMMd).2.2.2.1.len) (d.list.getD (cr.1).toNat zMMd).2.2.2.1.cap), (.slice (d.list.getD (cr.1).toNat zMMd).2.2.2.2.1.at' ((d.list.getD (cr.1).toNat zMMd).2.2.2.2.1.len) (d.list.getD (cr.1).toNat zMMd).2.2.2.2.1.cap), (.slice (d.list.getD (cr.1).toNat zMMd).2.2.2.2.2.1.at' ((d.list.getD (cr.1).toNat zMMd).2.2.2.2.2.1.len) (d.list.getD (cr.1).toNat zMMd).2.2.2.2.2.1.cap), (.slice (d.list.getD (cr.1).toNat zMMd).2.2.2.2.2.2.1.at' ((d.list.getD (cr.1).toNat zMMd).2.2.2.2.2.2.1.len) (d.list.getD (cr.1).toNat zMMd).2.2.2.2.2.2.1.cap), (.int .i64 ((d.list.getD (cr.1).toNat zMMd).2.2.2.2.2.2.2.1)), (.slice (d.list.getD (cr.1).toNat zMMd).2.2.2.2.2.2.2.2.1.at' ((d.list.getD (cr.1).toNat zMMd).2.2.2.2.2.2.2.2.1.len) (d.list.getD (cr.1).toNat zMMd).2.2.2.2.2.2.2.2.1.cap), (.slice (d.list.getD (cr.1).toNat zMMd).2.2.2.2.2.2.2.2.2.1.at' ((d.list.getD (cr.1).toNat zMMd).2.2.2.2.2.2.2.2.2.1.len) (d.list.getD (cr.1).toNat zMMd).2.2.2.2.2.2.2.2.2.1.cap), (.slice (d.list.getD (cr.1).toNat zMMd).2.2.2.2.2.2.2.2.2.2.1.at' ((d.list.getD (cr.1).toNat zMMd).2.2.2.2.2.2.2.2.2.2.1.len) (d.list.getD (cr.1).toNat zMMd).2.2.2.2.2.2.2.2.2.2.1.cap), (.bool (d.list.getD (cr.1).toNat zMMd).2.2.2.2.2.2.2.2.2.2.2.1.1), (.int .u32 ((d.list.getD (cr.1).toNat zMMd).2.2.2.2.2.2.2.2.2.2.2.1.2.1)), (.int .u32 ((d.list.getD (cr.1).toNat zMMd).2.2.2.2.2.2.2.2.2.2.2.1.2.2.1)), (.int .u32 ((d.list.getD (cr.1).toNat zMMd).2.2.2.2.2.2.2.2.2.2.2.1.2.2.2.1)), (.int .u32 ((d.list.getD (cr.1).toNat zMMd).2.2.2.2.2.2.2.2.2.2.2.1.2.2.2.2.1)), (.slice (d.list.getD (cr.1).toNat zMMd).2.2.2.2.2.2.2.2.2.2.2.1.2.2.2.2.2.1.at' ((d.list.getD (cr.1).toNat zMMd).2.2.2.2.2.2.2.2.2.2.2.1.2.2.2.2.2.1.len) (d.list.getD (cr.1).toNat zMMd).2.2.2.2.2.2.2.2.2.2.2.1.2.2.2.2.2.1.cap)]) := postsHold_at hp 9 rfl
        have hv10 := postsHold_at hp 10 rfl
        obtain ⟨ea1, ec1, hv10, hr2⟩ := hv10
        rw [hv10] at hr2
        have hv11 : V 11 = (.int .i64 ((((namesT (d.list.getD (cr.1).toNat zMMd).2.1.list)).length : Nat) : Int)) := postsHold_at hp 11 rfl
        have hv12 : V 12 = (.bool (decide (((((namesT (d.list.getD (cr.1).toNat zMMd).2.1.list)).length : Nat) : Int) ≤ cr.2.1))) := postsHold_at hp 12 rfl
        have hv13 : V 13 = (.bool (decide (((((namesT (d.list.getD (cr.1).toNat zMMd).2.1.list)).length : Nat) : Int) ≤ cr.2.1))) := postsHold_at hp 13 rfl
        have hv14 : V 14 = (.bool (decide (((((namesT (d.list.getD (cr.1).toNat zMMd).2.1.list)).length : Nat) : Int) ≤ cr.2.1))) := postsHold_at hp 14 rfl
        simp only [List.take_succ_cons, List.take_zero, insAll, ins, hv0, hv1, hv2, hv3, hv4, hv5, hv6, hv7, hv8, hv9, hv10, hv11, hv12, hv13, hv14] at hf
        clear hp hnb hv0 hv1 hv2 hv3 hv4 hv5 hv6 hv7 hv8 hv9 hv10 hv11 hv12 hv13 hv14
        replace hk2 := blk_ext hk2 he6
        replace hr1 := Row.ext hr1 he6
        replace hb := hb.trans (Below.mono he6 hb.size)
        (try simp only [Exit.then, Exit.inBlock, ↓reduceIte, Nat.reduceEqDiff])
        refine hK12 _ _ ?_
        refine wp_ret ?_
        (try simp only [Exit.then, Exit.inBlock])
        refine ret1 hf rfl rfl ?_
        refine ⟨congrArg (fun b => Ending.returned (.bool b)) ?_, hb⟩
        rw [decide_eq_true_eq]; have h := hca.2.2; unfold takU at h; unfold namesT; rw [List.length_map]; exact h
    · have hsp1b : decide (cr.2.2 = 0) = false := decide_eq_false hsp1
      skip
      refine wp_region_un (fun wq => Below w6.heap.size w6 wq) (fun w w' => Below w.heap.size w w')
        (fun V => [(fun x _ => x = (.int .i64 cr.2.2)), (fun x _ => x = (.bool (decide (cr.2.2 ≠ (0 : Int))))), (fun x _ => x = (.bool (decide (cr.2.2 ≠ (0 : Int))))), (fun x _ => x = gb false (.bool false)), (fun x _ => x = gb false (.bool false)), (fun x _ => x = gb false (.bool false)), (fun x _ => x = gb false (.bool false)), (fun x _ => x = gb false (.bool false)), (fun x _ => x = gb false (.bool false)), (fun x _ => x = gb false (.bool false)), (fun x _ => x = gb false (.bool false)), (fun x _ => x = gb false (.bool false)), (fun x _ => x = gb false (.bool false)), (fun x _ => x = (.bool true)), (fun x _ => x = (.bool true))])
        []
        [[], [0], [1], [2], [2, 3], [2, 4], [2], [2], [2, 6, 7], [2, 8], [2, 9], [2, 10], [2, 5, 11], [2, 12], [0, 1, 2, 3, 4, 5, 6, 7, 8, 9, 10, 11, 12, 13]]
        hf (by kernel_rfl) (by kernel_rfl) (fun _ => rfl) ((Below.refl _ _).drew) (fun a b h1 h2 => h1.trans (h2.mono h1.size)) (fun _ _ h => h.size) (fun V => ⟨kept_eq, kept_eq, kept_eq, kept_eq, kept_eq, kept_eq, kept_eq, kept_eq, kept_eq, kept_eq, kept_eq, kept_eq, kept_eq, kept_eq, kept_eq, trivial⟩) (fun _ _ _ _ _ => rfl) ?_ ?_
      · skip
        intro V
        refine ⟨fun wu0 hC hd => ?_, ?_⟩
        · clear hd
          replace hb := hb.trans (hC.mono hb.size)
          replace hk2 := blk_ext hk2 hC
          replace hr1 := Row.ext hr1 hC
          exact Runs.does (r_move rfl) ⟨Below.refl _ _, rfl, nofr rfl⟩
        refine ⟨fun wu1 hC hd => ?_, ?_⟩
        · obtain ⟨h0, _⟩ := hd
          skip
          replace h0 : V 0 = (.int .i64 cr.2.2) := h0
          replace hb := hb.trans (hC.mono hb.size)
          replace hk2 := blk_ext hk2 hC
          replace hr1 := Row.ext hr1 hC
          exact Runs.does (r_ne (congrArg some h0) rfl) ⟨Below.refl _ _, rfl, nofr rfl⟩
        refine ⟨fun wu2 hC hd => ?_, ?_⟩
        · obtain ⟨h1, _⟩ := hd
          skip
          replace h1 : V 1 = (.bool (decide (cr.2.2 ≠ (0 : Int)))) := h1
          replace hb := hb.trans (hC.mono hb.size)
          replace hk2 := blk_ext hk2 hC
          replace hr1 := Row.ext hr1 hC
          exact Runs.does (r_move (congrArg some h1)) ⟨Below.refl _ _, rfl, nofr rfl⟩
        refine ⟨fun wu3 hC hd => ?_, ?_⟩
        · obtain ⟨h2, _⟩ := hd
          skip
          replace h2 : V 2 = (.bool (decide (cr.2.2 ≠ (0 : Int)))) := h2
          replace hb := hb.trans (hC.mono hb.size)
          replace hk2 := blk_ext hk2 hC
          replace hr1 := Row.ext hr1 hC
          refine ⟨true, (decide (cr.2.2 ≠ (0 : Int))), congrArg some h2, fun hact => ?_, fun hact => ?_⟩
          · exfalso; replace hact : (!(decide (cr.2.2 ≠ (0 : Int)))) = true := by simpa using hact
            rw [show (!(decide (cr.2.2 ≠ (0 : Int)))) = false from (by simp only [Bool.not_eq_true', Bool.not_eq_false', decide_eq_false_iff_not, decide_eq_true_eq]; omega)] at hact; cases hact
          · exact ⟨Below.refl _ _, rfl, nofr rfl⟩
        refine ⟨fun wu4 hC hd => ?_, ?_⟩
        · obtain ⟨h2, h3, _⟩ := hd
          skip
          skip
          replace h2 : V 2 = (.bool (decide (cr.2.2 ≠ (0 : Int)))) := h2
          replace h3 : V 3 = gb false (.bool false) := h3
          replace hb := hb.trans (hC.mono hb.size)
          replace hk2 := blk_ext hk2 hC
          replace hr1 := Row.ext hr1 hC
          refine ⟨true, (decide (cr.2.2 ≠ (0 : Int))), congrArg some h2, fun hact => ?_, fun hact => ?_⟩
          · exfalso; replace hact : (!(decide (cr.2.2 ≠ (0 : Int)))) = true := by simpa using hact
            rw [show (!(decide (cr.2.2 ≠ (0 : Int)))) = false from (by simp only [Bool.not_eq_true', Bool.not_eq_false', decide_eq_false_iff_not, decide_eq_true_eq]; omega)] at hact; cases hact
          · exact ⟨Below.refl _ _, rfl, nofr rfl⟩
        refine ⟨fun wu5 hC hd => ?_, ?_⟩
        · obtain ⟨h2, h4, _⟩ := hd
          skip
          skip
          replace h2 : V 2 = (.bool (decide (cr.2.2 ≠ (0 : Int)))) := h2
          replace h4 : V 4 = gb false (.bool false) := h4
          replace hb := hb.trans (hC.mono hb.size)
          replace hk2 := blk_ext hk2 hC
          replace hr1 := Row.ext hr1 hC
          refine ⟨true, (decide (cr.2.2 ≠ (0 : Int))), congrArg some h2, fun hact => ?_, fun hact => ?_⟩
          · exfalso; replace hact : (!(decide (cr.2.2 ≠ (0 : Int)))) = true := by simpa using hact
            rw [show (!(decide (cr.2.2 ≠ (0 : Int)))) = false from (by simp only [Bool.not_eq_true', Bool.not_eq_false', decide_eq_false_iff_not, decide_eq_true_eq]; omega)] at hact; cases hact
          · exact ⟨Below.refl _ _, rfl, nofr rfl⟩
        refine ⟨fun wu6 hC hd => ?_, ?_⟩
        · obtain ⟨h2, _⟩ := hd
          skip
          replace h2 : V 2 = (.bool (decide (cr.2.2 ≠ (0 : Int)))) := h2
          replace hb := hb.trans (hC.mono hb.size)
          replace hk2 := blk_ext hk2 hC
          replace hr1 := Row.ext hr1 hC
          refine ⟨true, (decide (cr.2.2 ≠ (0 : Int))), congrArg some h2, fun hact => ?_, fun hact => ?_⟩
          · exfalso; replace hact : (!(decide (cr.2.2 ≠ (0 : Int)))) = true := by simpa using hact
            rw [show (!(decide (cr.2.2 ≠ (0 : Int)))) = false from (by simp only [Bool.not_eq_true', Bool.not_eq_false', decide_eq_false_iff_not, decide_eq_true_eq]; omega)] at hact; cases hact
          · exact ⟨Below.refl _ _, rfl, nofr rfl⟩
        refine ⟨fun wu7 hC hd => ?_, ?_⟩
        · obtain ⟨h2, _⟩ := hd
          skip
          replace h2 : V 2 = (.bool (decide (cr.2.2 ≠ (0 : Int)))) := h2
          replace hb := hb.trans (hC.mono hb.size)
          replace hk2 := blk_ext hk2 hC
          replace hr1 := Row.ext hr1 hC
          refine ⟨true, (decide (cr.2.2 ≠ (0 : Int))), congrArg some h2, fun hact => ?_, fun hact => ?_⟩
          · exfalso; replace hact : (!(decide (cr.2.2 ≠ (0 : Int)))) = true := by simpa using hact
            rw [show (!(decide (cr.2.2 ≠ (0 : Int)))) = false from (by simp only [Bool.not_eq_true', Bool.not_eq_false', decide_eq_false_iff_not, decide_eq_true_eq]; omega)] at hact; cases hact
          · exact ⟨Below.refl _ _, rfl, nofr rfl⟩
        refine ⟨fun wu8 hC hd => ?_, ?_⟩
        · obtain ⟨h2, h6, h7, _⟩ := hd
          skip
          skip
          skip
          replace h2 : V 2 = (.bool (decide (cr.2.2 ≠ (0 : Int)))) := h2
          replace h6 : V 6 = gb false (.bool false) := h6
          replace h7 : V 7 = gb false (.bool false) := h7
          replace hb := hb.trans (hC.mono hb.size)
          replace hk2 := blk_ext hk2 hC
          replace hr1 := Row.ext hr1 hC
          refine ⟨true, (decide (cr.2.2 ≠ (0 : Int))), congrArg some h2, fun hact => ?_, fun hact => ?_⟩
          · exfalso; replace hact : (!(decide (cr.2.2 ≠ (0 : Int)))) = true := by simpa using hact
            rw [show (!(decide (cr.2.2 ≠ (0 : Int)))) = false from (by simp only [Bool.not_eq_true', Bool.not_eq_false', decide_eq_false_iff_not, decide_eq_true_eq]; omega)] at hact; cases hact
          · exact ⟨Below.refl _ _, rfl, nofr rfl⟩
        refine ⟨fun wu9 hC hd => ?_, ?_⟩
        · obtain ⟨h2, h8, _⟩ := hd
          skip
          skip
          replace h2 : V 2 = (.bool (decide (cr.2.2 ≠ (0 : Int)))) := h2
          replace h8 : V 8 = gb false (.bool false) := h8
          replace hb := hb.trans (hC.mono hb.size)
          replace hk2 := blk_ext hk2 hC
          replace hr1 := Row.ext hr1 hC
          refine ⟨true, (decide (cr.2.2 ≠ (0 : Int))), congrArg some h2, fun hact => ?_, fun hact => ?_⟩
          · exfalso; replace hact : (!(decide (cr.2.2 ≠ (0 : Int)))) = true := by simpa using hact
            rw [show (!(decide (cr.2.2 ≠ (0 : Int)))) = false from (by simp only [Bool.not_eq_true', Bool.not_eq_false', decide_eq_false_iff_not, decide_eq_true_eq]; omega)] at hact; cases hact
          · exact ⟨Below.refl _ _, rfl, nofr rfl⟩
        refine ⟨fun wu10 hC hd => ?_, ?_⟩
        · obtain ⟨h2, h9, _⟩ := hd
          skip
          skip
          replace h2 : V 2 = (.bool (decide (cr.2.2 ≠ (0 : Int)))) := h2
          replace h9 : V 9 = gb false (.bool false) := h9
          replace hb := hb.trans (hC.mono hb.size)
          replace hk2 := blk_ext hk2 hC
          replace hr1 := Row.ext hr1 hC
          refine ⟨true, (decide (cr.2.2 ≠ (0 : Int))), congrArg some h2, fun hact => ?_, fun hact => ?_⟩
          · exfalso; replace hact : (!(decide (cr.2.2 ≠ (0 : Int)))) = true := by simpa using hact
            rw [show (!(decide (cr.2.2 ≠ (0 : Int)))) = false from (by simp only [Bool.not_eq_true', Bool.not_eq_false', decide_eq_false_iff_not, decide_eq_true_eq]; omega)] at hact; cases hact
          · exact ⟨Below.refl _ _, rfl, nofr rfl⟩
        refine ⟨fun wu11 hC hd => ?_, ?_⟩
        · obtain ⟨h2, h10, _⟩ := hd
          skip
          skip
          replace h2 : V 2 = (.bool (decide (cr.2.2 ≠ (0 : Int)))) := h2
          replace h10 : V 10 = gb false (.bool false) := h10
          replace hb := hb.trans (hC.mono hb.size)
          replace hk2 := blk_ext hk2 hC
          replace hr1 := Row.ext hr1 hC
          refine ⟨true, (decide (cr.2.2 ≠ (0 : Int))), congrArg some h2, fun hact => ?_, fun hact => ?_⟩
          · exfalso; replace hact : (!(decide (cr.2.2 ≠ (0 : Int)))) = true := by simpa using hact
            rw [show (!(decide (cr.2.2 ≠ (0 : Int)))) = false from (by simp only [Bool.not_eq_true', Bool.not_eq_false', decide_eq_false_iff_not, decide_eq_true_eq]; omega)] at hact; cases hact
          · exact ⟨Below.refl _ _, rfl, nofr rfl⟩
        refine ⟨fun wu12 hC hd => ?_, ?_⟩
        · obtain ⟨h2, h5, h11, _⟩ := hd
          skip
          skip
          skip
          replace h2 : V 2 = (.bool (decide (cr.2.2 ≠ (0 : Int)))) := h2
          replace h5 : V 5 = gb false (.bool false) := h5
          replace h11 : V 11 = gb false (.bool false) := h11
          replace hb := hb.trans (hC.mono hb.size)
          replace hk2 := blk_ext hk2 hC
          replace hr1 := Row.ext hr1 hC
          refine ⟨true, (decide (cr.2.2 ≠ (0 : Int))), congrArg some h2, fun hact => ?_, fun hact => ?_⟩
          · exfalso; replace hact : (!(decide (cr.2.2 ≠ (0 : Int)))) = true := by simpa using hact
            rw [show (!(decide (cr.2.2 ≠ (0 : Int)))) = false from (by simp only [Bool.not_eq_true', Bool.not_eq_false', decide_eq_false_iff_not, decide_eq_true_eq]; omega)] at hact; cases hact
          · exact ⟨Below.refl _ _, rfl, nofr rfl⟩
        refine ⟨fun wu13 hC hd => ?_, ?_⟩
        · obtain ⟨h2, h12, _⟩ := hd
          skip
          skip
          replace h2 : V 2 = (.bool (decide (cr.2.2 ≠ (0 : Int)))) := h2
          replace h12 : V 12 = gb false (.bool false) := h12
          replace hb := hb.trans (hC.mono hb.size)
          replace hk2 := blk_ext hk2 hC
          replace hr1 := Row.ext hr1 hC
          exact Runs.does (r_pick (b := (decide (cr.2.2 ≠ (0 : Int)))) (congrArg some h2) rfl (congrArg some h12) (by rw [show (decide (cr.2.2 ≠ (0 : Int))) = true from (by simp only [Bool.not_eq_true', Bool.not_eq_false', decide_eq_false_iff_not, decide_eq_true_eq]; omega)]; try rfl)) ⟨Below.refl _ _, rfl, nofr rfl⟩
        refine ⟨fun wu14 hC hd => ?_, ?_⟩
        · obtain ⟨h0, h1, h2, h3, h4, h5, h6, h7, h8, h9, h10, h11, h12, h13, _⟩ := hd
          skip
          skip
          skip
          skip
          skip
          skip
          skip
          skip
          skip
          skip
          skip
          skip
          skip
          skip
          replace h0 : V 0 = (.int .i64 cr.2.2) := h0
          replace h1 : V 1 = (.bool (decide (cr.2.2 ≠ (0 : Int)))) := h1
          replace h2 : V 2 = (.bool (decide (cr.2.2 ≠ (0 : Int)))) := h2
          replace h3 : V 3 = gb false (.bool false) := h3
          replace h4 : V 4 = gb false (.bool false) := h4
          replace h5 : V 5 = gb false (.bool false) := h5
          replace h6 : V 6 = gb false (.bool false) := h6
          replace h7 : V 7 = gb false (.bool false) := h7
          replace h8 : V 8 = gb false (.bool false) := h8
          replace h9 : V 9 = gb false (.bool false) := h9
          replace h10 : V 10 = gb false (.bool false) := h10
          replace h11 : V 11 = gb false (.bool false) := h11
          replace h12 : V 12 = gb false (.bool false) := h12
          replace h13 : V 13 = (.bool true) := h13
          replace hb := hb.trans (hC.mono hb.size)
          replace hk2 := blk_ext hk2 hC
          replace hr1 := Row.ext hr1 hC
          exact Runs.does (r_assign (congrArg some h13)) ⟨Below.refl _ _, rfl, nofr rfl⟩
        trivial
      · skip
        clear hf fa; intro V w8 fa he7 hp hnb hf
        have hv0 : V 0 = (.int .i64 cr.2.2) := postsHold_at hp 0 rfl
        have hv1 : V 1 = (.bool (decide (cr.2.2 ≠ (0 : Int)))) := postsHold_at hp 1 rfl
        have hv2 : V 2 = (.bool (decide (cr.2.2 ≠ (0 : Int)))) := postsHold_at hp 2 rfl
        have hv3 : V 3 = gb false (.bool false) := postsHold_at hp 3 rfl
        have hv4 : V 4 = gb false (.bool false) := postsHold_at hp 4 rfl
        have hv5 : V 5 = gb false (.bool false) := postsHold_at hp 5 rfl
        have hv6 : V 6 = gb false (.bool false) := postsHold_at hp 6 rfl
        have hv7 : V 7 = gb false (.bool false) := postsHold_at hp 7 rfl
        have hv8 : V 8 = gb false (.bool false) := postsHold_at hp 8 rfl
        have hv9 : V 9 = gb false (.bool false) := postsHold_at hp 9 rfl
        have hv10 : V 10 = gb false (.bool false) := postsHold_at hp 10 rfl
        have hv11 : V 11 = gb false (.bool false) := postsHold_at hp 11 rfl
        have hv12 : V 12 = gb false (.bool false) := postsHold_at hp 12 rfl
        have hv13 : V 13 = (.bool true) := postsHold_at hp 13 rfl
        have hv14 : V 14 = (.bool true) := postsHold_at hp 14 rfl
        simp only [List.take_succ_cons, List.take_zero, insAll, ins, hv0, hv1, hv2, hv3, hv4, hv5, hv6, hv7, hv8, hv9, hv10, hv11, hv12, hv13, hv14] at hf
        clear hp hnb hv0 hv1 hv2 hv3 hv4 hv5 hv6 hv7 hv8 hv9 hv10 hv11 hv12 hv13 hv14
        replace hk2 := blk_ext hk2 he7
        replace hr1 := Row.ext hr1 he7
        replace hb := hb.trans (Below.mono he7 hb.size)
        (try simp only [Exit.then, Exit.inBlock, ↓reduceIte, Nat.reduceEqDiff])
        refine hK12 _ _ ?_
        refine wp_ret ?_
        (try simp only [Exit.then, Exit.inBlock])
        refine ret1 hf rfl rfl ?_
        exact ⟨rfl, hb⟩
end Go.Proofs.Ytahgkfekggkjnaa
