/- What is proved here: the law TextParses is true. What is proved here: the statement TextParses, for every input. -/
import Derived.Test.YtpalmpfkliepfaaDoorTextParsesMgAG
import Derived.Test.YtpalmpfkliepfaaDoorRows
import Derived.Test.YtpalmpfkliepfaaDoorCards
import Derived.Test.YtpalmpfkliepfaaDoorTie
import Derived.Test.YtpalmpfkliepfaaDoorTextParsesMgAA
import Derived.ProofKit
import Derived.OpenShut
import Derived.ShutString
import Derived.ChangeOld
import Derived.Below
import Derived.LaidMore
import Derived.Lay
import Derived.SevenTiedAt
import Derived.Stop.Joined
namespace Go.Proofs.YtpalmpfkliepfaaDoor
open Go.RowKit Ut
set_option linter.unusedVariables false
set_option linter.unusedSimpArgs false
attribute [local irreducible] infP ofP chkP rchkP

theorem same_eq2 {o o2 A B A' B' : Int} {L L' : List Int} (op : Nat) (a a2 : Option Addr) (c c2 : Nat) (w : World) (e2 : o2 = ((op : Nat) : Int)) (eo : o = o2) (eA : A' = A) (eB : B' = B) (eL : L' = L) (hl : RdS 1 (vInt .u32) w a L') (hl2 : RdS 1 (vInt .u32) w a2 L) (hc : L'.length ≤ c) (hc2 : L.length ≤ c2) (hn : L.length ≤ 100000) : Calls Tryd.prog 11 #[(.agg #[(.int .u8 o), (.int .u64 A'), (.int .u64 B'), (.slice a L'.length c)]), (.agg #[(.int .u8 o2), (.int .u64 A), (.int .u64 B), (.slice a2 L.length c2)])] w fun e w' => e = .returned (.bool true) ∧ Below w.heap.size w w' := by
  subst eo e2 eA eB eL
  exact same07_any op _ _ _ a a2 c c2 w hl hl2 hc hc2 hn
theorem same_zero {o A B : Int} {L : List Int} (a : Option Addr) (c : Nat) (w : World) (eo : o = 0) (eA : A = 0) (eB : B = 0) (eL : L = []) (hc : L.length ≤ c) (hl : RdS 1 (vInt .u32) w a L) : Calls Tryd.prog 11 #[(.agg #[(.int .u8 o), (.int .u64 A), (.int .u64 B), (.slice a L.length c)]), (.agg #[(.int .u8 0), (.int .u64 0), (.int .u64 0), (.slice none 0 0)])] w fun e w' => e = .returned (.bool true) ∧ Below w.heap.size w w' := by
  subst eo eA eB eL
  exact same07_any 0 0 0 [] a none c 0 w hl RdS.nil hc (Nat.le_refl 0) (by decide)
theorem both_no {s : ByteArray} (h : rK s = false) : pO s = 0 ∧ pA s = 0 ∧ pB s = 0 ∧ pL s = [] ∧ pE s = 49 := par_no (by rw [← (par_agree s).1]; exact h)
theorem both_yes {s : ByteArray} (h : rK s = true) : qO s = ((opN s : Nat) : Int) ∧ pO s = qO s ∧ pA s = qA s ∧ pB s = qB s ∧ pL s = qL s ∧ pE s = 0 := by
  have hp : parK s = true := by rw [← (par_agree s).1]; exact h
  obtain ⟨e1, e2, e3, e4, e5⟩ := par_yes hp
  obtain ⟨a1, a2, a3⟩ := (par_agree s).2 hp
  have hf : (findP (w0P s)).2 = true := by
    unfold rK at h
    rw [Bool.and_eq_true] at h
    exact h.1
  obtain ⟨q1, q2, q3, q4⟩ := q_yes hf
  exact ⟨q1, by rw [e1, q1], by rw [e2, q2, a1], by rw [e3, q3, a2], by rw [e4, q4, a3], e5⟩
theorem qL_len (s : ByteArray) : (qL s).length ≤ (wordsS s).length := by
  unfold qL rqL
  split
  · exact (qlW_rng _ _).2
  · exact Nat.zero_le _

set_option maxHeartbeats 1000000 in
set_option maxRecDepth 100000 in
theorem textParses_any (s : ByteArray) (w : World) (hs0 : s.size ≤ maxLen) : Calls Tryd.prog 4 #[(.string s)] w fun e w' => e = .returned (.bool true) ∧ Below w.heap.size w w' := by
  refine sx_enter (L := [(0, (.string s))]) Tryd.func4 rfl rfl rfl rfl (fun fa hf => ?_)
  have hb : Below w.heap.size w w := Below.refl _ _
  refine wp_seq_k (fun K1 hK1 => ?_)
  refine wp_region_lit ?_
  refine sqv hf (r_assign rfl) rfl rfl rfl ?_; clear hf fa; intro fa hf
  apply wpList_nil
  (try simp only [Exit.then, Exit.inBlock, ↓reduceIte, Nat.reduceEqDiff])
  refine hK1 _ _ ?_
  refine wp_seq_k (fun K2 hK2 => ?_)
  refine wp_seq_k (fun K3 hK3 => ?_)
  refine wp_region_lit ?_
  refine sqdt hf (d_callB (vs := []) rfl Tryd.func6 (by kernel_rfl) (by kernel_rfl) (awake46_any _)) rfl rfl rfl ?_; clear hf fa; rintro fa _ w1 ⟨rfl, he1⟩ hf
  replace hb := hb.trans (Below.mono he1 hb.size)
  refine sqv hf (Runs.veq (v' := (.bool false)) (r_not rfl) rfl) rfl rfl rfl ?_; clear hf fa; intro fa hf
  apply wpList_nil
  (try simp only [Exit.then, Exit.inBlock, ↓reduceIte, Nat.reduceEqDiff])
  refine hK3 _ _ ?_
  refine wp_cond_false (hf.ev rfl) ?_
  refine wp_skip ?_
  (try simp only [Exit.then, Exit.inBlock, ↓reduceIte, Nat.reduceEqDiff])
  refine hK2 _ _ ?_
  refine wp_seq_k (fun K4 hK4 => ?_)
  refine wp_seq_k (fun K5 hK5 => ?_)
  refine wp_region_lit ?_
  refine sqv hf (r_move rfl) rfl rfl rfl ?_; clear hf fa; intro fa hf
  refine sqv hf (r_lens rfl Tryd.underlying9) rfl rfl rfl ?_; clear hf fa; intro fa hf
  refine sqv hf (r_gt rfl rfl) rfl rfl rfl ?_; clear hf fa; intro fa hf
  apply wpList_nil
  (try simp only [Exit.then, Exit.inBlock, ↓reduceIte, Nat.reduceEqDiff])
  refine hK5 _ _ ?_
  refine wp_cond_split (t := (decide ((500 : Int) < ((s.size : Nat) : Int)))) (hf.ev rfl) (fun hqt11_1 => ?_) (fun hqt11_1 => ?_)
  · have hqt11_1b := hqt11_1
    try simp only [decide_eq_true_eq, Bool.and_eq_true, Bool.or_eq_true, Bool.not_eq_true', decide_eq_false_iff_not, ne_eq, Bool.not_eq_true] at hqt11_1
    refine wp_seq_k (fun K6 hK6 => ?_)
    refine wp_region_lit ?_
    refine sqv hf (r_assign rfl) rfl rfl rfl ?_; clear hf fa; intro fa hf
    apply wpList_nil
    (try simp only [Exit.then, Exit.inBlock, ↓reduceIte, Nat.reduceEqDiff])
    refine hK6 _ _ ?_
    refine wp_ret ?_
    (try simp only [Exit.then, Exit.inBlock])
    refine ret1 hf rfl rfl ?_
    exact ⟨rfl, hb⟩
  · have hqt11_1b := hqt11_1
    replace hqt11_1 := Bool.eq_false_iff.1 hqt11_1
    try simp only [ne_eq, decide_eq_true_eq, Bool.and_eq_true, Bool.or_eq_true, Bool.not_eq_true', decide_eq_false_iff_not] at hqt11_1
    refine wp_skip ?_
    (try simp only [Exit.then, Exit.inBlock, ↓reduceIte, Nat.reduceEqDiff])
    refine hK4 _ _ ?_
    refine wp_seq_k (fun K7 hK7 => ?_)
    refine wp_region_lit ?_
    refine sqv hf (r_move rfl) rfl rfl rfl ?_; clear hf fa; intro fa hf
    refine sqdt hf (d_callX (vs := [(.string s)]) rfl Tryd.func9 (by kernel_rfl) (by kernel_rfl) (parse_any s _ (by have h := hqt11_1; omega))) rfl rfl rfl ?_; clear hf fa; rintro fa _ w2 ⟨aL1, cL1, rfl, hr1, he2⟩ hf
    replace hr1 := Row.rebase hr1 hb.size
    replace hb := hb.trans (Below.mono he2 hb.size)
    have hcaL1 := Row.caps hr1
    refine sqv hf (r_move rfl) rfl rfl rfl ?_; clear hf fa; intro fa hf
    refine sqv hf (r_extract rfl (i := 0) rfl) rfl rfl rfl ?_; clear hf fa; intro fa hf
    refine sqv hf (r_extract rfl (i := 1) rfl) rfl rfl rfl ?_; clear hf fa; intro fa hf
    refine sqdt hf (d_alloc (z := (.agg #[(.int .u8 (0 : Int)), (.int .u64 (0 : Int)), (.int .u64 (0 : Int)), (.slice none 0 0)])) (cs := #[(.int .u8 (0 : Int)), (.int .u64 (0 : Int)), (.int .u64 (0 : Int)), (.slice none 0 0)]) (by kernel_rfl) rfl) rfl rfl rfl ?_; clear hf fa; rintro fa _ w3 ⟨b1, rfl, hle1, hk1, he3⟩ hf
    have hBb1 : w.heap.size ≤ b1 := Nat.le_trans hb.size hle1
    replace hr1 := Row.ext hr1 he3
    replace hb := hb.trans (Below.mono he3 hb.size)
    refine sqn hf (d_storeK (T := 25) (v := (.agg #[(.int .u8 ((pO s))), (.int .u64 ((pA s))), (.int .u64 ((pB s))), (.slice aL1 (((pL s).length)) cL1)])) (cs := #[(.int .u8 (0 : Int)), (.int .u64 (0 : Int)), (.int .u64 (0 : Int)), (.slice none 0 0)]) (cs' := #[(.int .u8 ((pO s))), (.int .u64 ((pA s))), (.int .u64 ((pB s))), (.slice aL1 (((pL s).length)) cL1)]) rfl rfl (by kernel_rfl) (by kernel_rfl) hk1 (by kernel_rfl) (by kernel_rfl)) rfl rfl ?_; clear hf fa; rintro fa _ w4 ⟨hk2, hg1⟩ hf
    replace hr1 := Row.grown hr1 hg1 (Row.ne_type hr1 hk1 rfl)
    replace hb := hb.trans (grown_below hg1 hb.size hBb1)
    refine sqv hf (r_assign rfl) rfl rfl rfl ?_; clear hf fa; intro fa hf
    apply wpList_nil
    (try simp only [Exit.then, Exit.inBlock, ↓reduceIte, Nat.reduceEqDiff])
    refine hK7 _ _ ?_
    refine wp_seq_k (fun K8 hK8 => ?_)
    refine wp_region_lit ?_
    refine sqv hf (r_move rfl) rfl rfl rfl ?_; clear hf fa; intro fa hf
    refine sqdt hf (d_callX (vs := [(.string s)]) rfl Tryd.func12 (by kernel_rfl) (by kernel_rfl) (rparse_any s _ (by have h := hqt11_1; omega))) rfl rfl rfl ?_; clear hf fa; rintro fa _ w5 ⟨aQ1, cQ1, rfl, hr2, he4⟩ hf
    replace hr2 := Row.rebase hr2 hb.size
    replace hk2 := blk_ext hk2 he4
    replace hr1 := Row.ext hr1 he4
    replace hb := hb.trans (Below.mono he4 hb.size)
    have hcaQ1 := Row.caps hr2
    refine sqv hf (r_move rfl) rfl rfl rfl ?_; clear hf fa; intro fa hf
    refine sqv hf (r_extract rfl (i := 0) rfl) rfl rfl rfl ?_; clear hf fa; intro fa hf
    refine sqv hf (r_extract rfl (i := 1) rfl) rfl rfl rfl ?_; clear hf fa; intro fa hf
    refine sqdt hf (d_alloc (z := (.agg #[(.int .u8 (0 : Int)), (.int .u64 (0 : Int)), (.int .u64 (0 : Int)), (.slice none 0 0)])) (cs := #[(.int .u8 (0 : Int)), (.int .u64 (0 : Int)), (.int .u64 (0 : Int)), (.slice none 0 0)]) (by kernel_rfl) rfl) rfl rfl rfl ?_; clear hf fa; rintro fa _ w6 ⟨b2, rfl, hle2, hk3, he5⟩ hf
    have hBb2 : w.heap.size ≤ b2 := Nat.le_trans hb.size hle2
    have : b1 < b2 := Nat.lt_of_lt_of_le (blk_lt hk2) hle2
    replace hk2 := blk_ext hk2 he5
    replace hr1 := Row.ext hr1 he5
    replace hr2 := Row.ext hr2 he5
    replace hb := hb.trans (Below.mono he5 hb.size)
    refine sqn hf (d_storeK (T := 25) (v := (.agg #[(.int .u8 ((qO s))), (.int .u64 ((qA s))), (.int .u64 ((qB s))), (.slice aQ1 (((qL s).length)) cQ1)])) (cs := #[(.int .u8 (0 : Int)), (.int .u64 (0 : Int)), (.int .u64 (0 : Int)), (.slice none 0 0)]) (cs' := #[(.int .u8 ((qO s))), (.int .u64 ((qA s))), (.int .u64 ((qB s))), (.slice aQ1 (((qL s).length)) cQ1)]) rfl rfl (by kernel_rfl) (by kernel_rfl) hk3 (by kernel_rfl) (by kernel_rfl)) rfl rfl ?_; clear hf fa; rintro fa _ w7 ⟨hk4, hg2⟩ hf
    replace hk2 := blk_grown hk2 hg2 (by omega)
    replace hr1 := Row.grown hr1 hg2 (Row.ne_type hr1 hk3 rfl)
    replace hr2 := Row.grown hr2 hg2 (Row.ne_type hr2 hk3 rfl)
    replace hb := hb.trans (grown_below hg2 hb.size hBb2)
    refine sqv hf (r_assign rfl) rfl rfl rfl ?_; clear hf fa; intro fa hf
    apply wpList_nil
    (try simp only [Exit.then, Exit.inBlock, ↓reduceIte, Nat.reduceEqDiff])
    refine hK8 _ _ ?_
    refine wp_seq_k (fun K9 hK9 => ?_)
    refine wp_seq_k (fun K10 hK10 => ?_)
    refine wp_region_lit ?_
    refine sqv hf (r_move rfl) rfl rfl rfl ?_; clear hf fa; intro fa hf
    refine sqv hf (r_not rfl) rfl rfl rfl ?_; clear hf fa; intro fa hf
    apply wpList_nil
    (try simp only [Exit.then, Exit.inBlock, ↓reduceIte, Nat.reduceEqDiff])
    refine hK10 _ _ ?_
    refine wp_cond_split (t := (!(rK s))) (hf.ev rfl) (fun hqt23_1 => ?_) (fun hqt23_1 => ?_)
    · have hqt23_1b := hqt23_1
      try simp only [decide_eq_true_eq, Bool.and_eq_true, Bool.or_eq_true, Bool.not_eq_true', decide_eq_false_iff_not, ne_eq, Bool.not_eq_true] at hqt23_1
      refine wp_seq_k (fun K11 hK11 => ?_)
      have hbn := both_no (s := s) (by have h := hqt23_1; simpa using h)
      have hs9 : s.size ≤ 500 := (by have h := hqt11_1; omega)
      refine wp_region_lit ?_
      refine sqv hf (r_move rfl) rfl rfl rfl ?_; clear hf fa; intro fa hf
      refine sqv hf (Runs.veq (r_eq rfl rfl) (congrArg Value.bool (show _ = true from (by rw [hbn.2.2.2.2]; rfl)))) rfl rfl rfl ?_; clear hf fa; intro fa hf
      refine sqv hf (r_move rfl) rfl rfl rfl ?_; clear hf fa; intro fa hf
      refine sqgd (act := true) (g := 2) (want := true) (ag := true) (c := true) hf (by rfl) (by rfl) rfl (fun _ =>  Runs.does (R := fun vq wq => vq = (.agg #[(.int .u8 ((pO s))), (.int .u64 ((pA s))), (.int .u64 ((pB s))), (.slice aL1 (((pL s).length)) cL1)]) ∧ w7 = wq) (r_loadA (cs := [(.int .u8 ((pO s))), (.int .u64 ((pA s))), (.int .u64 ((pB s))), (.slice aL1 (((pL s).length)) cL1)]) rfl Tryd.underlying25 rfl (by kernel_rfl) (cellsAt_blk hk2)) ⟨rfl, rfl⟩) (fun h => by cases h) rfl ?_; clear hf fa; rintro fa _ _ ⟨rfl, rfl⟩ hf
      change Fr _ _ ((27, (.agg #[(.int .u8 ((pO s))), (.int .u64 ((pA s))), (.int .u64 ((pB s))), (.slice aL1 (((pL s).length)) cL1)])) :: _) at hf
      refine sqgd (act := true) (g := 2) (want := true) (ag := true) (c := true) hf (by rfl) (by rfl) rfl (fun _ =>  Runs.does (R := fun vq wq => vq = (.agg #[(.int .u8 (0 : Int)), (.int .u64 (0 : Int)), (.int .u64 (0 : Int)), (.slice none 0 0)]) ∧ w7 = wq) (r_build (vs := []) (cs := #[(.int .u8 (0 : Int)), (.int .u64 (0 : Int)), (.int .u64 (0 : Int)), (.slice none 0 0)]) rfl (fun _ => by kernel_rfl)) ⟨rfl, rfl⟩) (fun h => by cases h) rfl ?_; clear hf fa; rintro fa _ _ ⟨rfl, rfl⟩ hf
      change Fr _ _ ((28, (.agg #[(.int .u8 (0 : Int)), (.int .u64 (0 : Int)), (.int .u64 (0 : Int)), (.slice none 0 0)])) :: _) at hf
      refine sqgd (act := true) (g := 2) (want := true) (ag := true) (c := true) hf (by rfl) (by rfl) rfl (fun _ =>  (d_callB (vs := [(.agg #[(.int .u8 ((pO s))), (.int .u64 ((pA s))), (.int .u64 ((pB s))), (.slice aL1 (((pL s).length)) cL1)]), (.agg #[(.int .u8 (0 : Int)), (.int .u64 (0 : Int)), (.int .u64 (0 : Int)), (.slice none 0 0)])]) rfl Tryd.func11 (by kernel_rfl) (by kernel_rfl) (same_zero _ _ _ hbn.1 hbn.2.1 hbn.2.2.1 hbn.2.2.2.1 (by have := Row.caps hr1; omega) (Row.rd (by intros; rfl) hr1))) ) (fun h => by cases h) rfl ?_; clear hf fa; rintro fa _ w8 ⟨rfl, he6⟩ hf
      replace hk2 := blk_ext hk2 he6
      replace hk4 := blk_ext hk4 he6
      replace hr1 := Row.ext hr1 he6
      replace hr2 := Row.ext hr2 he6
      replace hb := hb.trans (Below.mono he6 hb.size)
      change Fr _ _ ((29, (.bool true)) :: _) at hf
      refine sqv hf (r_pick (b := true) rfl rfl rfl rfl) rfl rfl rfl ?_; clear hf fa; intro fa hf
      refine sqv hf (r_assign rfl) rfl rfl rfl ?_; clear hf fa; intro fa hf
      apply wpList_nil
      (try simp only [Exit.then, Exit.inBlock, ↓reduceIte, Nat.reduceEqDiff])
      refine hK11 _ _ ?_
      refine wp_ret ?_
      (try simp only [Exit.then, Exit.inBlock])
      refine ret1 hf rfl rfl ?_
      exact ⟨rfl, hb⟩
    · have hqt23_1b := hqt23_1
      replace hqt23_1 := Bool.eq_false_iff.1 hqt23_1
      try simp only [ne_eq, decide_eq_true_eq, Bool.and_eq_true, Bool.or_eq_true, Bool.not_eq_true', decide_eq_false_iff_not] at hqt23_1
      refine wp_skip ?_
      (try simp only [Exit.then, Exit.inBlock, ↓reduceIte, Nat.reduceEqDiff])
      refine hK9 _ _ ?_
      refine wp_seq_k (fun K12 hK12 => ?_)
      have hby := both_yes (s := s) (by have h := hqt23_1; simpa using h)
      have hs9 : s.size ≤ 500 := (by have h := hqt11_1; omega)
      refine wp_region_lit ?_
      refine sqv hf (r_move rfl) rfl rfl rfl ?_; clear hf fa; intro fa hf
      refine sqv hf (Runs.veq (r_eq rfl rfl) (congrArg Value.bool (show _ = true from (by rw [hby.2.2.2.2.2]; rfl)))) rfl rfl rfl ?_; clear hf fa; intro fa hf
      refine sqv hf (r_move rfl) rfl rfl rfl ?_; clear hf fa; intro fa hf
      refine sqgd (act := true) (g := 2) (want := true) (ag := true) (c := true) hf (by rfl) (by rfl) rfl (fun _ =>  Runs.does (R := fun vq wq => vq = (.agg #[(.int .u8 ((pO s))), (.int .u64 ((pA s))), (.int .u64 ((pB s))), (.slice aL1 (((pL s).length)) cL1)]) ∧ w7 = wq) (r_loadA (cs := [(.int .u8 ((pO s))), (.int .u64 ((pA s))), (.int .u64 ((pB s))), (.slice aL1 (((pL s).length)) cL1)]) rfl Tryd.underlying25 rfl (by kernel_rfl) (cellsAt_blk hk2)) ⟨rfl, rfl⟩) (fun h => by cases h) rfl ?_; clear hf fa; rintro fa _ _ ⟨rfl, rfl⟩ hf
      change Fr _ _ ((34, (.agg #[(.int .u8 ((pO s))), (.int .u64 ((pA s))), (.int .u64 ((pB s))), (.slice aL1 (((pL s).length)) cL1)])) :: _) at hf
      refine sqgd (act := true) (g := 2) (want := true) (ag := true) (c := true) hf (by rfl) (by rfl) rfl (fun _ =>  Runs.does (R := fun vq wq => vq = (.agg #[(.int .u8 ((qO s))), (.int .u64 ((qA s))), (.int .u64 ((qB s))), (.slice aQ1 (((qL s).length)) cQ1)]) ∧ w7 = wq) (r_loadA (cs := [(.int .u8 ((qO s))), (.int .u64 ((qA s))), (.int .u64 ((qB s))), (.slice aQ1 (((qL s).length)) cQ1)]) rfl Tryd.underlying25 rfl (by kernel_rfl) (cellsAt_blk hk4)) ⟨rfl, rfl⟩) (fun h => by cases h) rfl ?_; clear hf fa; rintro fa _ _ ⟨rfl, rfl⟩ hf
      change Fr _ _ ((35, (.agg #[(.int .u8 ((qO s))), (.int .u64 ((qA s))), (.int .u64 ((qB s))), (.slice aQ1 (((qL s).length)) cQ1)])) :: _) at hf
      refine sqgd (act := true) (g := 2) (want := true) (ag := true) (c := true) hf (by rfl) (by rfl) rfl (fun _ =>  (d_callB (vs := [(.agg #[(.int .u8 ((pO s))), (.int .u64 ((pA s))), (.int .u64 ((pB s))), (.slice aL1 (((pL s).length)) cL1)]), (.agg #[(.int .u8 ((qO s))), (.int .u64 ((qA s))), (.int .u64 ((qB s))), (.slice aQ1 (((qL s).length)) cQ1)])]) rfl Tryd.func11 (by kernel_rfl) (by kernel_rfl) (same_eq2 (opN s) _ _ _ _ _ hby.1 hby.2.1 hby.2.2.1 hby.2.2.2.1 hby.2.2.2.2.1 (Row.rd (by intros; rfl) hr1) (Row.rd (by intros; rfl) hr2) (by have := Row.caps hr1; omega) (by have := Row.caps hr2; omega) (by have := qL_len s; have := (words_len s).1; omega))) ) (fun h => by cases h) rfl ?_; clear hf fa; rintro fa _ w9 ⟨rfl, he7⟩ hf
      replace hk2 := blk_ext hk2 he7
      replace hk4 := blk_ext hk4 he7
      replace hr1 := Row.ext hr1 he7
      replace hr2 := Row.ext hr2 he7
      replace hb := hb.trans (Below.mono he7 hb.size)
      change Fr _ _ ((36, (.bool true)) :: _) at hf
      refine sqv hf (r_pick (b := true) rfl rfl rfl rfl) rfl rfl rfl ?_; clear hf fa; intro fa hf
      refine sqv hf (r_assign rfl) rfl rfl rfl ?_; clear hf fa; intro fa hf
      apply wpList_nil
      (try simp only [Exit.then, Exit.inBlock, ↓reduceIte, Nat.reduceEqDiff])
      refine hK12 _ _ ?_
      refine wp_ret ?_
      (try simp only [Exit.then, Exit.inBlock])
      refine ret1 hf rfl rfl ?_
      exact ⟨rfl, hb⟩
end Go.Proofs.YtpalmpfkliepfaaDoor

namespace Go.Proofs.YtpalmpfkliepfaaDoor.textParses
open Go.ChangeShapes Go.WideShapes Go.ChangeAt Go.RowKit
open Go.ChangeMaps (open_string shut_string)
set_option linter.unusedVariables false
set_option linter.unusedSimpArgs false

theorem own : ownKnob Tryd.prog.godebug = none := by kernel_rfl
theorem laidOut : laidOutB Tryd.prog = true := by kernel_rfl

set_option maxRecDepth 100000 in
theorem lifted (os : Os) (started : os.Started) (H : Type) (enc : TypeId × Value → H) :
    ReturnsInHanded {} Tryd.checked os 4 .any (fun w args => (Rows.textParsesSpec.pre enc Tryd.prog Tryd.f4 Rows.textParsesRow.domain false w args ∧ laidMetH Tryd.prog Rows.textParsesRow.laid w) ∧ sizedMet enc Tryd.prog Tryd.f4 (OpenSpec.ofChange Rows.textParsesSpec) false w args)
      (Rows.textParsesSpec.post enc Tryd.prog Tryd.f4 false true false false) := by
  refine returnsInHanded_of_change_and (C := Tryd.checked) (X := fun w _ => laidMetH Tryd.prog Rows.textParsesRow.laid w) (fun _ _ _ hh h => h.of_heap hh) own started (by kernel_rfl) Tryd.func4
    (ChangeSpec.witness_shaped (enc := enc) (C := Tryd.checked) (os := os) (X := fun w _ => laidMetH Tryd.prog Rows.textParsesRow.laid w) false (World.laidAll Tryd.prog os Rows.textParsesRow.laid) #[.string ⟨#[]⟩] 8 (World.laidAll_os _ _ _)
      (World.shaped_of_ZipB (by kernel_rfl) (by kernel_rfl)) (by kernel_rfl) (by kernel_rfl) (by kernel_rfl)
      (by rw [MakeChecks.laidMetH_plain _ _ _ (by kernel_rfl)]; exact laidMet_laidAll _ (by kernel_rfl) (by kernel_rfl))) ?_
  intro W base args ds gs before hval0 hW hcnd hsz hL _
  have hval : ∀ (j : Nat) t v, Tryd.f4.params[j]? = some t → args[j]? = some v → Value.okWide Tryd.prog W .any base t v := hval0
  have hW' := hW
  obtain ⟨p, q, hA0, hV, rfl, hfz, hnd⟩ := hW
  have hA : DataW.TrodAll enc Tryd.prog W 0 (fun _ => true) true Tryd.f4.params.toList args.toList ds p := hA0
  rw [Tryd.params4] at hA hval
  obtain ⟨v0, vs0, x0, ds0, p0, q0, hargs, rfl, rfl, h0, r0⟩ := trodAll_cons hA
  obtain ⟨rfl, rfl, rfl⟩ := trodAll_nil r0
  obtain rfl : args = #[v0] := by cases args; simp_all
  obtain ⟨rfl, rfl⟩ := trodVars_none hV
  have k0 := h0
  have lt0 : ∀ x ∈ p0, x.block < W.heap.size := by obtain ⟨m, hm⟩ := k0; exact DataW.trod_lt m _ _ _ hm
  obtain ⟨a0, rfl, _, _, w0⟩ := open_string Tryd.underlying9 (hval 0 9 v0 rfl rfl) h0
  clear hA0 hval0
  refine (textParses_any a0 W w0).mono fun e W' ⟨he, bel⟩ => ?_
  subst he
  exact ⟨_, rfl, _, _, _, [], _, [], hW', trodAll_mk1 (shut_bool Tryd.underlying4 _), (trodAll_cons_mk (Below.trod laidOut (by kernel_rfl) (of_decide_eq_true (by kernel_rfl)) k0 bel lt0) trodAll_mk0), rfl, bel.frame _, fun h => by cases h⟩

theorem over : Rows.TextParsesSaid :=
  OpenClaim.holds_of_wide 4 Tryd.f4 rfl rfl rfl rfl rfl rfl rfl ⟨rfl, rfl, rfl, rfl, rfl⟩ rfl rfl rfl rfl rfl (by kernel_rfl) Tryd.func4 (by kernel_rfl)
    (of_decide_eq_true (by kernel_rfl)) (by unfold Func.isWrapper; first | (rw [if_pos (by decide +kernel)]; kernel_rfl) | (rw [if_neg (by decide +kernel)]; exact ⟨rfl, rfl⟩))
    (fun os started H enc _ => lifted os started H enc)

/-- The statement: the tied card. -/
theorem proved : Rows.TextParsesCardSaid :=
  Claim7.holds_tied_plain_at .later [] [.data, .pinned] true (true, "1452cfc0cc647c3d0a7f82359f3ea450cdc05db002e7940a6a6c43ff579af210") false
    over (fun _ h => by cases h) (by kernel_rfl) (fun _ h => by cases h) textParses_row_tie rfl ⟨rfl, rfl⟩ (by kernel_rfl) rfl
    (fun f fn hf hfn => by
      obtain rfl : f = 4 := Option.some.inj ((show Tryd.prog.funcNamed "creel/creellaw46.TextParses" = some 4 by kernel_rfl).symm.trans hf) |>.symm
      obtain rfl : fn = Tryd.f4 := (Option.some.inj (Tryd.func4.symm.trans hfn)).symm
      exact ⟨by kernel_rfl, fun j t ht => by
        rw [Tryd.params4] at ht
        have hm : t ∈ [9] := by simpa using Array.mem_of_getElem? ht
        have hall : ([9].all fun u => !Tryd.prog.wantsStandIn u) = true := by kernel_rfl
        exact (show Tryd.prog.wantsStandIn t = false by simpa using List.all_eq_true.1 hall t hm)⟩)
    (by kernel_rfl)
#print axioms proved
end Go.Proofs.YtpalmpfkliepfaaDoor.textParses
