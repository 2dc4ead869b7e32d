/- What is proved here:  signed quotients and all operators of the document's bits. -/
import Derived.Test.YtahgkfekggkjnaaAlE
namespace Go.Proofs.Ytahgkfekggkjnaa
open Go.RowKit
set_option linter.unusedVariables false
set_option linter.unusedSimpArgs false
set_option maxHeartbeats 1000000 in
set_option maxRecDepth 100000 in
theorem rsigned_any (A B : Nat) (a1 : Option Addr) (n1 c1 : Nat) (a2 : Option Addr) (n2 c2 : Nat) (w : World) (hA : A < 4294967296) (hB : B < 4294967296) (hB0 : 0 < B) (h1 : RdS 1 vBool w a1 (bitsK A 32)) (e1 : n1 = 32) (h2 : RdS 1 vBool w a2 (bitsK B 32)) (e2 : n2 = 32) : Calls Try.prog 98 #[(.slice a1 n1 c1), (.slice a2 n2 c2)] w fun e w' => ∃ v, e = .returned v ∧ (∃ a1 c1 a2 c2, v = .tuple #[.slice a1 (bitsK (sgnQ A B) 32).length c1, .slice a2 (bitsK (sgnR A B) 32).length c2] ∧ Row 1 vBool 4 w.heap.size w' (.slice a1 (bitsK (sgnQ A B) 32).length c1) (bitsK (sgnQ A B) 32) ∧ Row 1 vBool 4 w.heap.size w' (.slice a2 (bitsK (sgnR A B) 32).length c2) (bitsK (sgnR A B) 32) ∧ Below w.heap.size w w') := by
  have hnA := negN_lt A; have hnB := negN_lt B; have hnB0 := negN_pos hB0 hB
  refine sx_enter (L := [(0, (.slice a1 n1 c1)), (1, (.slice a2 n2 c2))]) Try.func98 rfl rfl rfl rfl (fun fa hf => ?_)
  have hb : Below w.heap.size w w := Below.refl _ _
  refine wp_seq_k (fun K1 hK1 => ?_)
  refine wp_region_lit ?_
  refine sqv hf (r_assign rfl) rfl rfl rfl ?_; clear hf fa; intro fa hf
  refine sqv hf (r_assign rfl) rfl rfl rfl ?_; clear hf fa; intro fa hf
  apply wpList_nil
  (try simp only [Exit.then, Exit.inBlock, ↓reduceIte, Nat.reduceEqDiff])
  refine hK1 _ _ ?_
  refine wp_seq_k (fun K2 hK2 => ?_)
  refine wp_region_lit ?_
  refine sqv hf (r_move rfl) rfl rfl rfl ?_; clear hf fa; intro fa hf
  refine sqv hf (r_move rfl) rfl rfl rfl ?_; clear hf fa; intro fa hf
  refine sqv hf (r_assign rfl) rfl rfl rfl ?_; clear hf fa; intro fa hf
  refine sqv hf (r_assign rfl) rfl rfl rfl ?_; clear hf fa; intro fa hf
  apply wpList_nil
  (try simp only [Exit.then, Exit.inBlock, ↓reduceIte, Nat.reduceEqDiff])
  refine hK2 _ _ ?_
  refine wp_seq_k (fun K3 hK3 => ?_)
  refine wp_seq_k (fun K4 hK4 => ?_)
  refine wp_region_lit ?_
  refine sqv hf (r_move rfl) rfl rfl rfl ?_; clear hf fa; intro fa hf
  have hy1 : ((bitsK A 32))[31]? = some ((A).testBit 31) := (bitsK_get (n := A) (k := 32) (i := 31) (by omega))
  obtain ⟨ab1, aoff1, rfl, hlb1, hel1⟩ := RdS.at h1 hy1
  refine sqv hf (r_ixa (sz := 1) (j := 31) rfl rfl Try.underlying162 (by kernel_rfl) rfl (by omega) rfl) rfl rfl rfl ?_; clear hf fa; intro fa hf
  refine sqv hf (r_load (v := (.bool ((A).testBit 31))) rfl Try.underlying4 rfl (cellsAt_cell (cellsAt_below hel1 hb hlb1) (i := 0) rfl rfl)) rfl rfl rfl ?_; clear hf fa; intro fa hf
  apply wpList_nil
  (try simp only [Exit.then, Exit.inBlock, ↓reduceIte, Nat.reduceEqDiff])
  refine hK4 _ _ ?_
  refine wp_cond_split (t := ((A).testBit 31)) (hf.ev rfl) (fun hqt14_1 => ?_) (fun hqt14_1 => ?_)
  · have hqt14_1b := hqt14_1
    try simp only [decide_eq_true_eq, Bool.and_eq_true, Bool.or_eq_true, Bool.not_eq_true', decide_eq_false_iff_not, ne_eq, Bool.not_eq_true] at hqt14_1
    refine wp_region_lit ?_
    refine sqv hf (r_move rfl) rfl rfl rfl ?_; clear hf fa; intro fa hf
    refine sqdt hf (d_callX (vs := [(.slice (some ⟨ab1, aoff1, none⟩) n1 c1)]) rfl Try.func100 (by kernel_rfl) (by kernel_rfl) (rturned_any A _ _ _ _ (by omega) (RdS.ext h1 hb) (by first | rfl | assumption | simp))) rfl rfl rfl ?_; clear hf fa; rintro fa v w1 ⟨hr1, he1⟩ hf; obtain ⟨ra1, rc1, rfl, hcrc1, hmrc1⟩ := Row.slice hr1
    replace hr1 := Row.rebase hr1 hb.size
    replace hb := hb.trans (Below.mono he1 hb.size)
    have := bitsK_length (negN A) 32
    refine sqv hf (r_assign rfl) rfl rfl rfl ?_; clear hf fa; intro fa hf
    apply wpList_nil
    (try simp only [Exit.then, Exit.inBlock, ↓reduceIte, Nat.reduceEqDiff])
    refine hK3 _ _ ?_
    refine wp_seq_k (fun K5 hK5 => ?_)
    refine wp_seq_k (fun K6 hK6 => ?_)
    refine wp_region_lit ?_
    refine sqv hf (r_move rfl) rfl rfl rfl ?_; clear hf fa; intro fa hf
    have hy2 : ((bitsK B 32))[31]? = some ((B).testBit 31) := (bitsK_get (n := B) (k := 32) (i := 31) (by omega))
    obtain ⟨ab2, aoff2, rfl, hlb2, hel2⟩ := RdS.at h2 hy2
    refine sqv hf (r_ixa (sz := 1) (j := 31) rfl rfl Try.underlying162 (by kernel_rfl) rfl (by omega) rfl) rfl rfl rfl ?_; clear hf fa; intro fa hf
    refine sqv hf (r_load (v := (.bool ((B).testBit 31))) rfl Try.underlying4 rfl (cellsAt_cell (cellsAt_below hel2 hb hlb2) (i := 0) rfl rfl)) rfl rfl rfl ?_; clear hf fa; intro fa hf
    apply wpList_nil
    (try simp only [Exit.then, Exit.inBlock, ↓reduceIte, Nat.reduceEqDiff])
    refine hK6 _ _ ?_
    refine wp_cond_split (t := ((B).testBit 31)) (hf.ev rfl) (fun hqt19_1 => ?_) (fun hqt19_1 => ?_)
    · have hqt19_1b := hqt19_1
      try simp only [decide_eq_true_eq, Bool.and_eq_true, Bool.or_eq_true, Bool.not_eq_true', decide_eq_false_iff_not, ne_eq, Bool.not_eq_true] at hqt19_1
      refine wp_region_lit ?_
      refine sqv hf (r_move rfl) rfl rfl rfl ?_; clear hf fa; intro fa hf
      refine sqdt hf (d_callX (vs := [(.slice (some ⟨ab2, aoff2, none⟩) n2 c2)]) rfl Try.func100 (by kernel_rfl) (by kernel_rfl) (rturned_any B _ _ _ _ (by omega) (RdS.ext h2 hb) (by first | rfl | assumption | simp))) rfl rfl rfl ?_; clear hf fa; rintro fa v w2 ⟨hr2, he2⟩ hf; obtain ⟨ra2, rc2, rfl, hcrc2, hmrc2⟩ := Row.slice hr2
      replace hr2 := Row.rebase hr2 hb.size
      replace hr1 := Row.ext hr1 he2
      replace hb := hb.trans (Below.mono he2 hb.size)
      have := bitsK_length (negN B) 32
      refine sqv hf (r_assign rfl) rfl rfl rfl ?_; clear hf fa; intro fa hf
      apply wpList_nil
      (try simp only [Exit.then, Exit.inBlock, ↓reduceIte, Nat.reduceEqDiff])
      refine hK5 _ _ ?_
      refine wp_seq_k (fun K7 hK7 => ?_)
      refine wp_region_lit ?_
      refine sqv hf (r_move rfl) rfl rfl rfl ?_; clear hf fa; intro fa hf
      refine sqv hf (r_move rfl) rfl rfl rfl ?_; clear hf fa; intro fa hf
      refine sqdt hf (d_callX (vs := [(.slice ra1 (((bitsK (negN A) 32)).length) rc1), (.slice ra2 (((bitsK (negN B) 32)).length) rc2)]) rfl Try.func97 (by kernel_rfl) (by kernel_rfl) (rdivide_any (negN A) (negN B) _ _ _ _ _ _ _ (by omega) (by omega) (by omega) (Row.rd (by intros; rfl) hr1) (by first | rfl | assumption | simp) (Row.rd (by intros; rfl) hr2) (by first | rfl | assumption | simp))) rfl rfl rfl ?_; clear hf fa; rintro fa _ w3 ⟨qa1, qc1, da1, dc1, rfl, hr3, hr4, he3⟩ hf
      replace hr3 := Row.rebase hr3 hb.size
      replace hr4 := Row.rebase hr4 hb.size
      replace hr1 := Row.ext hr1 he3
      replace hr2 := Row.ext hr2 he3
      replace hb := hb.trans (Below.mono he3 hb.size)
      have hchr3 := Row.caps hr3
      have := bitsK_length ((negN A) / (negN B)) 32
      have hchr4 := Row.caps hr4
      have := bitsK_length ((negN A) % (negN B)) 32
      have := Nat.div_le_self (negN A) (negN B); have := Nat.mod_le (negN A) (negN B)
      refine sqv hf (r_move rfl) rfl rfl rfl ?_; clear hf fa; intro fa hf
      refine sqv hf (r_extract rfl (i := 0) rfl) rfl rfl rfl ?_; clear hf fa; intro fa hf
      refine sqv hf (r_extract rfl (i := 1) rfl) rfl rfl rfl ?_; clear hf fa; intro fa hf
      refine sqv hf (r_assign rfl) rfl rfl rfl ?_; clear hf fa; intro fa hf
      refine sqv hf (r_assign rfl) rfl rfl rfl ?_; clear hf fa; intro fa hf
      apply wpList_nil
      (try simp only [Exit.then, Exit.inBlock, ↓reduceIte, Nat.reduceEqDiff])
      refine hK7 _ _ ?_
      refine wp_seq_k (fun K8 hK8 => ?_)
      refine wp_seq_k (fun K9 hK9 => ?_)
      refine wp_region_un (fun wq => Below w3.heap.size w3 wq) (fun w w' => Below w.heap.size w w')
        (fun V => [(fun x _ => x = (.slice (some ⟨ab1, aoff1, none⟩) n1 c1)), (fun x _ => x = (.pointer (some ⟨ab1, (aoff1 + 31 * 1), none⟩))), (fun x _ => x = (.bool ((A).testBit 31))), (fun x _ => x = (.slice (some ⟨ab2, aoff2, none⟩) n2 c2)), (fun x _ => x = (.pointer (some ⟨ab2, (aoff2 + 31 * 1), none⟩))), (fun x _ => x = (.bool ((B).testBit 31))), (fun x _ => x = (.bool (!(((A).testBit 31) == ((B).testBit 31)))))])
        []
        [[], [0], [1], [], [3], [4], [2, 5]]
        hf (by kernel_rfl) (by kernel_rfl) (fun _ => rfl) ((Below.refl _ _).drew) (fun a b h1 h2 => h1.trans (h2.mono h1.size)) (fun _ _ h => h.size) (fun V => ⟨kept_eq, kept_eq, kept_eq, kept_eq, kept_eq, kept_eq, kept_eq, trivial⟩) (fun _ _ _ _ _ => rfl) ?_ ?_
      · skip
        intro V
        refine ⟨fun wu0 hC hd => ?_, ?_⟩
        · clear hd
          replace hb := hb.trans (hC.mono hb.size)
          replace hr1 := Row.ext hr1 hC
          replace hr2 := Row.ext hr2 hC
          replace hr3 := Row.ext hr3 hC
          replace hr4 := Row.ext hr4 hC
          exact Runs.does (r_move rfl) ⟨Below.refl _ _, rfl, nofr rfl⟩
        refine ⟨fun wu1 hC hd => ?_, ?_⟩
        · obtain ⟨h0, _⟩ := hd
          skip
          replace h0 : V 0 = (.slice (some ⟨ab1, aoff1, none⟩) n1 c1) := h0
          replace hb := hb.trans (hC.mono hb.size)
          replace hr1 := Row.ext hr1 hC
          replace hr2 := Row.ext hr2 hC
          replace hr3 := Row.ext hr3 hC
          replace hr4 := Row.ext hr4 hC
          exact Runs.does (r_ixa (sz := 1) (j := 31) (congrArg some h0) rfl Try.underlying162 (by kernel_rfl) rfl (by omega) rfl) ⟨Below.refl _ _, rfl, nofr rfl⟩
        refine ⟨fun wu2 hC hd => ?_, ?_⟩
        · obtain ⟨h1, _⟩ := hd
          skip
          replace h1 : V 1 = (.pointer (some ⟨ab1, (aoff1 + 31 * 1), none⟩)) := h1
          replace hb := hb.trans (hC.mono hb.size)
          replace hr1 := Row.ext hr1 hC
          replace hr2 := Row.ext hr2 hC
          replace hr3 := Row.ext hr3 hC
          replace hr4 := Row.ext hr4 hC
          exact Runs.does (r_load (v := (.bool ((A).testBit 31))) (congrArg some h1) Try.underlying4 rfl (cellsAt_cell (cellsAt_below hel1 hb hlb1) (i := 0) rfl rfl)) ⟨Below.refl _ _, rfl, nofr rfl⟩
        refine ⟨fun wu3 hC hd => ?_, ?_⟩
        · clear hd
          replace hb := hb.trans (hC.mono hb.size)
          replace hr1 := Row.ext hr1 hC
          replace hr2 := Row.ext hr2 hC
          replace hr3 := Row.ext hr3 hC
          replace hr4 := Row.ext hr4 hC
          exact Runs.does (r_move rfl) ⟨Below.refl _ _, rfl, nofr rfl⟩
        refine ⟨fun wu4 hC hd => ?_, ?_⟩
        · obtain ⟨h3, _⟩ := hd
          skip
          replace h3 : V 3 = (.slice (some ⟨ab2, aoff2, none⟩) n2 c2) := h3
          replace hb := hb.trans (hC.mono hb.size)
          replace hr1 := Row.ext hr1 hC
          replace hr2 := Row.ext hr2 hC
          replace hr3 := Row.ext hr3 hC
          replace hr4 := Row.ext hr4 hC
          exact Runs.does (r_ixa (sz := 1) (j := 31) (congrArg some h3) rfl Try.underlying162 (by kernel_rfl) rfl (by omega) rfl) ⟨Below.refl _ _, rfl, nofr rfl⟩
        refine ⟨fun wu5 hC hd => ?_, ?_⟩
        · obtain ⟨h4, _⟩ := hd
          skip
          replace h4 : V 4 = (.pointer (some ⟨ab2, (aoff2 + 31 * 1), none⟩)) := h4
          replace hb := hb.trans (hC.mono hb.size)
          replace hr1 := Row.ext hr1 hC
          replace hr2 := Row.ext hr2 hC
          replace hr3 := Row.ext hr3 hC
          replace hr4 := Row.ext hr4 hC
          exact Runs.does (r_load (v := (.bool ((B).testBit 31))) (congrArg some h4) Try.underlying4 rfl (cellsAt_cell (cellsAt_below hel2 hb hlb2) (i := 0) rfl rfl)) ⟨Below.refl _ _, rfl, nofr rfl⟩
        refine ⟨fun wu6 hC hd => ?_, ?_⟩
        · obtain ⟨h2, h5, _⟩ := hd
          skip
          skip
          replace h2 : V 2 = (.bool ((A).testBit 31)) := h2
          replace h5 : V 5 = (.bool ((B).testBit 31)) := h5
          replace hb := hb.trans (hC.mono hb.size)
          replace hr1 := Row.ext hr1 hC
          replace hr2 := Row.ext hr2 hC
          replace hr3 := Row.ext hr3 hC
          replace hr4 := Row.ext hr4 hC
          exact Runs.does (r_bne Try.underlying4 (congrArg some h2) (congrArg some h5)) ⟨Below.refl _ _, rfl, nofr rfl⟩
        trivial
      · skip
        clear hf fa; intro V w4 fa he4 hp hnb hf
        have hv0 : V 0 = (.slice (some ⟨ab1, aoff1, none⟩) n1 c1) := postsHold_at hp 0 rfl
        have hv1 : V 1 = (.pointer (some ⟨ab1, (aoff1 + 31 * 1), none⟩)) := postsHold_at hp 1 rfl
        have hv2 : V 2 = (.bool ((A).testBit 31)) := postsHold_at hp 2 rfl
        have hv3 : V 3 = (.slice (some ⟨ab2, aoff2, none⟩) n2 c2) := postsHold_at hp 3 rfl
        have hv4 : V 4 = (.pointer (some ⟨ab2, (aoff2 + 31 * 1), none⟩)) := postsHold_at hp 4 rfl
        have hv5 : V 5 = (.bool ((B).testBit 31)) := postsHold_at hp 5 rfl
        have hv6 : V 6 = (.bool (!(((A).testBit 31) == ((B).testBit 31)))) := postsHold_at hp 6 rfl
        simp only [List.take_succ_cons, List.take_zero, insAll, ins, hv0, hv1, hv2, hv3, hv4, hv5, hv6] at hf
        clear hp hnb hv0 hv1 hv2 hv3 hv4 hv5 hv6
        replace hr1 := Row.ext hr1 he4
        replace hr2 := Row.ext hr2 he4
        replace hr3 := Row.ext hr3 he4
        replace hr4 := Row.ext hr4 he4
        replace hb := hb.trans (Below.mono he4 hb.size)
        (try simp only [Exit.then, Exit.inBlock, ↓reduceIte, Nat.reduceEqDiff])
        refine hK9 _ _ ?_
        refine wp_cond_false ((hf.ev rfl).trans (congrArg Value.bool (show (!(((A).testBit 31) == ((B).testBit 31))) = false from (by simp [hqt14_1, hqt19_1])))) ?_
        refine wp_skip ?_
        (try simp only [Exit.then, Exit.inBlock, ↓reduceIte, Nat.reduceEqDiff])
        refine hK8 _ _ ?_
        refine wp_seq_k (fun K10 hK10 => ?_)
        refine wp_seq_k (fun K11 hK11 => ?_)
        refine wp_region_lit ?_
        refine sqv hf (r_move rfl) rfl rfl rfl ?_; clear hf fa; intro fa hf
        refine sqv hf (r_ixa (sz := 1) (j := 31) rfl rfl Try.underlying162 (by kernel_rfl) rfl (by omega) rfl) rfl rfl rfl ?_; clear hf fa; intro fa hf
        refine sqv hf (r_load (v := (.bool ((A).testBit 31))) rfl Try.underlying4 rfl (cellsAt_cell (cellsAt_below hel1 hb hlb1) (i := 0) rfl rfl)) rfl rfl rfl ?_; clear hf fa; intro fa hf
        apply wpList_nil
        (try simp only [Exit.then, Exit.inBlock, ↓reduceIte, Nat.reduceEqDiff])
        refine hK11 _ _ ?_
        refine wp_cond_true ((hf.ev rfl).trans (congrArg Value.bool (show ((A).testBit 31) = true from hqt14_1b))) ?_
        refine wp_region_lit ?_
        refine sqv hf (r_move rfl) rfl rfl rfl ?_; clear hf fa; intro fa hf
        refine sqdt hf (d_callX (vs := [(.slice da1 ((bitsK ((negN A) % (negN B)) 32).length) dc1)]) rfl Try.func100 (by kernel_rfl) (by kernel_rfl) (rturned_any ((negN A) % (negN B)) _ _ _ _ (by omega) (Row.rd (by intros; rfl) hr4) (by first | rfl | assumption | simp))) rfl rfl rfl ?_; clear hf fa; rintro fa v w5 ⟨hr5, he5⟩ hf; obtain ⟨ra3, rc3, rfl, hcrc3, hmrc3⟩ := Row.slice hr5
        replace hr5 := Row.rebase hr5 hb.size
        replace hr1 := Row.ext hr1 he5
        replace hr2 := Row.ext hr2 he5
        replace hr3 := Row.ext hr3 he5
        replace hr4 := Row.ext hr4 he5
        replace hb := hb.trans (Below.mono he5 hb.size)
        have := bitsK_length (negN ((negN A) % (negN B))) 32
        refine sqv hf (r_assign rfl) rfl rfl rfl ?_; clear hf fa; intro fa hf
        apply wpList_nil
        (try simp only [Exit.then, Exit.inBlock, ↓reduceIte, Nat.reduceEqDiff])
        refine hK10 _ _ ?_
        refine wp_seq_k (fun K12 hK12 => ?_)
        refine wp_region_lit ?_
        refine sqv hf (r_move rfl) rfl rfl rfl ?_; clear hf fa; intro fa hf
        refine sqv hf (r_move rfl) rfl rfl rfl ?_; clear hf fa; intro fa hf
        refine sqv hf (r_assign rfl) rfl rfl rfl ?_; clear hf fa; intro fa hf
        refine sqv hf (r_assign rfl) rfl rfl rfl ?_; clear hf fa; intro fa hf
        apply wpList_nil
        (try simp only [Exit.then, Exit.inBlock, ↓reduceIte, Nat.reduceEqDiff])
        refine hK12 _ _ ?_
        refine wp_ret ?_
        (try simp only [Exit.then, Exit.inBlock])
        refine ret2 hf rfl rfl rfl ?_
        exact ⟨_, rfl, qa1, qc1, ra3, rc3, (by first | (simp only [bitsK_length]; done) | (simp only [bitsK_length]; rfl)), Row.tol hr3 (congrArg (bitsK · 32) (by unfold sgnQ magN; simp [hqt14_1, hqt19_1])), Row.tol hr5 (congrArg (bitsK · 32) (by unfold sgnR magN; simp [hqt14_1, hqt19_1])), hb⟩
    · have hqt19_1b := hqt19_1
      replace hqt19_1 := Bool.eq_false_iff.1 hqt19_1
      try simp only [ne_eq, decide_eq_true_eq, Bool.and_eq_true, Bool.or_eq_true, Bool.not_eq_true', decide_eq_false_iff_not] at hqt19_1
      refine wp_skip ?_
      (try simp only [Exit.then, Exit.inBlock, ↓reduceIte, Nat.reduceEqDiff])
      refine hK5 _ _ ?_
      refine wp_seq_k (fun K13 hK13 => ?_)
      refine wp_region_lit ?_
      refine sqv hf (r_move rfl) rfl rfl rfl ?_; clear hf fa; intro fa hf
      refine sqv hf (r_move rfl) rfl rfl rfl ?_; clear hf fa; intro fa hf
      refine sqdt hf (d_callX (vs := [(.slice ra1 (((bitsK (negN A) 32)).length) rc1), (.slice (some ⟨ab2, aoff2, none⟩) n2 c2)]) rfl Try.func97 (by kernel_rfl) (by kernel_rfl) (rdivide_any (negN A) B _ _ _ _ _ _ _ (by omega) (by omega) (by omega) (Row.rd (by intros; rfl) hr1) (by first | rfl | assumption | simp) (RdS.ext h2 hb) (by first | rfl | assumption | simp))) rfl rfl rfl ?_; clear hf fa; rintro fa _ w6 ⟨qa2, qc2, da2, dc2, rfl, hr6, hr7, he6⟩ hf
      replace hr6 := Row.rebase hr6 hb.size
      replace hr7 := Row.rebase hr7 hb.size
      replace hr1 := Row.ext hr1 he6
      replace hb := hb.trans (Below.mono he6 hb.size)
      have hchr6 := Row.caps hr6
      have := bitsK_length ((negN A) / B) 32
      have hchr7 := Row.caps hr7
      have := bitsK_length ((negN A) % B) 32
      have := Nat.div_le_self (negN A) B; have := Nat.mod_le (negN A) B
      refine sqv hf (r_move rfl) rfl rfl rfl ?_; clear hf fa; intro fa hf
      refine sqv hf (r_extract rfl (i := 0) rfl) rfl rfl rfl ?_; clear hf fa; intro fa hf
      refine sqv hf (r_extract rfl (i := 1) rfl) rfl rfl rfl ?_; clear hf fa; intro fa hf
      refine sqv hf (r_assign rfl) rfl rfl rfl ?_; clear hf fa; intro fa hf
      refine sqv hf (r_assign rfl) rfl rfl rfl ?_; clear hf fa; intro fa hf
      apply wpList_nil
      (try simp only [Exit.then, Exit.inBlock, ↓reduceIte, Nat.reduceEqDiff])
      refine hK13 _ _ ?_
      refine wp_seq_k (fun K14 hK14 => ?_)
      refine wp_seq_k (fun K15 hK15 => ?_)
      refine wp_region_un (fun wq => Below w6.heap.size w6 wq) (fun w w' => Below w.heap.size w w')
        (fun V => [(fun x _ => x = (.slice (some ⟨ab1, aoff1, none⟩) n1 c1)), (fun x _ => x = (.pointer (some ⟨ab1, (aoff1 + 31 * 1), none⟩))), (fun x _ => x = (.bool ((A).testBit 31))), (fun x _ => x = (.slice (some ⟨ab2, aoff2, none⟩) n2 c2)), (fun x _ => x = (.pointer (some ⟨ab2, (aoff2 + 31 * 1), none⟩))), (fun x _ => x = (.bool ((B).testBit 31))), (fun x _ => x = (.bool (!(((A).testBit 31) == ((B).testBit 31)))))])
        []
        [[], [0], [1], [], [3], [4], [2, 5]]
        hf (by kernel_rfl) (by kernel_rfl) (fun _ => rfl) ((Below.refl _ _).drew) (fun a b h1 h2 => h1.trans (h2.mono h1.size)) (fun _ _ h => h.size) (fun V => ⟨kept_eq, kept_eq, kept_eq, kept_eq, kept_eq, kept_eq, kept_eq, trivial⟩) (fun _ _ _ _ _ => rfl) ?_ ?_
      · skip
        intro V
        refine ⟨fun wu0 hC hd => ?_, ?_⟩
        · clear hd
          replace hb := hb.trans (hC.mono hb.size)
          replace hr1 := Row.ext hr1 hC
          replace hr6 := Row.ext hr6 hC
          replace hr7 := Row.ext hr7 hC
          exact Runs.does (r_move rfl) ⟨Below.refl _ _, rfl, nofr rfl⟩
        refine ⟨fun wu1 hC hd => ?_, ?_⟩
        · obtain ⟨h0, _⟩ := hd
          skip
          replace h0 : V 0 = (.slice (some ⟨ab1, aoff1, none⟩) n1 c1) := h0
          replace hb := hb.trans (hC.mono hb.size)
          replace hr1 := Row.ext hr1 hC
          replace hr6 := Row.ext hr6 hC
          replace hr7 := Row.ext hr7 hC
          exact Runs.does (r_ixa (sz := 1) (j := 31) (congrArg some h0) rfl Try.underlying162 (by kernel_rfl) rfl (by omega) rfl) ⟨Below.refl _ _, rfl, nofr rfl⟩
        refine ⟨fun wu2 hC hd => ?_, ?_⟩
        · obtain ⟨h1, _⟩ := hd
          skip
          replace h1 : V 1 = (.pointer (some ⟨ab1, (aoff1 + 31 * 1), none⟩)) := h1
          replace hb := hb.trans (hC.mono hb.size)
          replace hr1 := Row.ext hr1 hC
          replace hr6 := Row.ext hr6 hC
          replace hr7 := Row.ext hr7 hC
          exact Runs.does (r_load (v := (.bool ((A).testBit 31))) (congrArg some h1) Try.underlying4 rfl (cellsAt_cell (cellsAt_below hel1 hb hlb1) (i := 0) rfl rfl)) ⟨Below.refl _ _, rfl, nofr rfl⟩
        refine ⟨fun wu3 hC hd => ?_, ?_⟩
        · clear hd
          replace hb := hb.trans (hC.mono hb.size)
          replace hr1 := Row.ext hr1 hC
          replace hr6 := Row.ext hr6 hC
          replace hr7 := Row.ext hr7 hC
          exact Runs.does (r_move rfl) ⟨Below.refl _ _, rfl, nofr rfl⟩
        refine ⟨fun wu4 hC hd => ?_, ?_⟩
        · obtain ⟨h3, _⟩ := hd
          skip
          replace h3 : V 3 = (.slice (some ⟨ab2, aoff2, none⟩) n2 c2) := h3
          replace hb := hb.trans (hC.mono hb.size)
          replace hr1 := Row.ext hr1 hC
          replace hr6 := Row.ext hr6 hC
          replace hr7 := Row.ext hr7 hC
          exact Runs.does (r_ixa (sz := 1) (j := 31) (congrArg some h3) rfl Try.underlying162 (by kernel_rfl) rfl (by omega) rfl) ⟨Below.refl _ _, rfl, nofr rfl⟩
        refine ⟨fun wu5 hC hd => ?_, ?_⟩
        · obtain ⟨h4, _⟩ := hd
          skip
          replace h4 : V 4 = (.pointer (some ⟨ab2, (aoff2 + 31 * 1), none⟩)) := h4
          replace hb := hb.trans (hC.mono hb.size)
          replace hr1 := Row.ext hr1 hC
          replace hr6 := Row.ext hr6 hC
          replace hr7 := Row.ext hr7 hC
          exact Runs.does (r_load (v := (.bool ((B).testBit 31))) (congrArg some h4) Try.underlying4 rfl (cellsAt_cell (cellsAt_below hel2 hb hlb2) (i := 0) rfl rfl)) ⟨Below.refl _ _, rfl, nofr rfl⟩
        refine ⟨fun wu6 hC hd => ?_, ?_⟩
        · obtain ⟨h2, h5, _⟩ := hd
          skip
          skip
          replace h2 : V 2 = (.bool ((A).testBit 31)) := h2
          replace h5 : V 5 = (.bool ((B).testBit 31)) := h5
          replace hb := hb.trans (hC.mono hb.size)
          replace hr1 := Row.ext hr1 hC
          replace hr6 := Row.ext hr6 hC
          replace hr7 := Row.ext hr7 hC
          exact Runs.does (r_bne Try.underlying4 (congrArg some h2) (congrArg some h5)) ⟨Below.refl _ _, rfl, nofr rfl⟩
        trivial
      · skip
        clear hf fa; intro V w7 fa he7 hp hnb hf
        have hv0 : V 0 = (.slice (some ⟨ab1, aoff1, none⟩) n1 c1) := postsHold_at hp 0 rfl
        have hv1 : V 1 = (.pointer (some ⟨ab1, (aoff1 + 31 * 1), none⟩)) := postsHold_at hp 1 rfl
        have hv2 : V 2 = (.bool ((A).testBit 31)) := postsHold_at hp 2 rfl
        have hv3 : V 3 = (.slice (some ⟨ab2, aoff2, none⟩) n2 c2) := postsHold_at hp 3 rfl
        have hv4 : V 4 = (.pointer (some ⟨ab2, (aoff2 + 31 * 1), none⟩)) := postsHold_at hp 4 rfl
        have hv5 : V 5 = (.bool ((B).testBit 31)) := postsHold_at hp 5 rfl
        have hv6 : V 6 = (.bool (!(((A).testBit 31) == ((B).testBit 31)))) := postsHold_at hp 6 rfl
        simp only [List.take_succ_cons, List.take_zero, insAll, ins, hv0, hv1, hv2, hv3, hv4, hv5, hv6] at hf
        clear hp hnb hv0 hv1 hv2 hv3 hv4 hv5 hv6
        replace hr1 := Row.ext hr1 he7
        replace hr6 := Row.ext hr6 he7
        replace hr7 := Row.ext hr7 he7
        replace hb := hb.trans (Below.mono he7 hb.size)
        (try simp only [Exit.then, Exit.inBlock, ↓reduceIte, Nat.reduceEqDiff])
        refine hK15 _ _ ?_
        refine wp_cond_true ((hf.ev rfl).trans (congrArg Value.bool (show (!(((A).testBit 31) == ((B).testBit 31))) = true from (by simp [hqt14_1, hqt19_1])))) ?_
        refine wp_region_lit ?_
        refine sqv hf (r_move rfl) rfl rfl rfl ?_; clear hf fa; intro fa hf
        refine sqdt hf (d_callX (vs := [(.slice qa2 ((bitsK ((negN A) / B) 32).length) qc2)]) rfl Try.func100 (by kernel_rfl) (by kernel_rfl) (rturned_any ((negN A) / B) _ _ _ _ (by omega) (Row.rd (by intros; rfl) hr6) (by first | rfl | assumption | simp))) rfl rfl rfl ?_; clear hf fa; rintro fa v w8 ⟨hr8, he8⟩ hf; obtain ⟨ra4, rc4, rfl, hcrc4, hmrc4⟩ := Row.slice hr8
        replace hr8 := Row.rebase hr8 hb.size
        replace hr1 := Row.ext hr1 he8
        replace hr6 := Row.ext hr6 he8
        replace hr7 := Row.ext hr7 he8
        replace hb := hb.trans (Below.mono he8 hb.size)
        have := bitsK_length (negN ((negN A) / B)) 32
        refine sqv hf (r_assign rfl) rfl rfl rfl ?_; clear hf fa; intro fa hf
        apply wpList_nil
        (try simp only [Exit.then, Exit.inBlock, ↓reduceIte, Nat.reduceEqDiff])
        refine hK14 _ _ ?_
        refine wp_seq_k (fun K16 hK16 => ?_)
        refine wp_seq_k (fun K17 hK17 => ?_)
        refine wp_region_lit ?_
        refine sqv hf (r_move rfl) rfl rfl rfl ?_; clear hf fa; intro fa hf
        refine sqv hf (r_ixa (sz := 1) (j := 31) rfl rfl Try.underlying162 (by kernel_rfl) rfl (by omega) rfl) rfl rfl rfl ?_; clear hf fa; intro fa hf
        refine sqv hf (r_load (v := (.bool ((A).testBit 31))) rfl Try.underlying4 rfl (cellsAt_cell (cellsAt_below hel1 hb hlb1) (i := 0) rfl rfl)) rfl rfl rfl ?_; clear hf fa; intro fa hf
        apply wpList_nil
        (try simp only [Exit.then, Exit.inBlock, ↓reduceIte, Nat.reduceEqDiff])
        refine hK17 _ _ ?_
        refine wp_cond_true ((hf.ev rfl).trans (congrArg Value.bool (show ((A).testBit 31) = true from hqt14_1b))) ?_
        refine wp_region_lit ?_
        refine sqv hf (r_move rfl) rfl rfl rfl ?_; clear hf fa; intro fa hf
        refine sqdt hf (d_callX (vs := [(.slice da2 ((bitsK ((negN A) % B) 32).length) dc2)]) rfl Try.func100 (by kernel_rfl) (by kernel_rfl) (rturned_any ((negN A) % B) _ _ _ _ (by omega) (Row.rd (by intros; rfl) hr7) (by first | rfl | assumption | simp))) rfl rfl rfl ?_; clear hf fa; rintro fa v w9 ⟨hr9, he9⟩ hf; obtain ⟨ra5, rc5, rfl, hcrc5, hmrc5⟩ := Row.slice hr9
        replace hr9 := Row.rebase hr9 hb.size
        replace hr1 := Row.ext hr1 he9
        replace hr6 := Row.ext hr6 he9
        replace hr7 := Row.ext hr7 he9
        replace hr8 := Row.ext hr8 he9
        replace hb := hb.trans (Below.mono he9 hb.size)
        have := bitsK_length (negN ((negN A) % B)) 32
        refine sqv hf (r_assign rfl) rfl rfl rfl ?_; clear hf fa; intro fa hf
        apply wpList_nil
        (try simp only [Exit.then, Exit.inBlock, ↓reduceIte, Nat.reduceEqDiff])
        refine hK16 _ _ ?_
        refine wp_seq_k (fun K18 hK18 => ?_)
        refine wp_region_lit ?_
        refine sqv hf (r_move rfl) rfl rfl rfl ?_; clear hf fa; intro fa hf
        refine sqv hf (r_move rfl) rfl rfl rfl ?_; clear hf fa; intro fa hf
        refine sqv hf (r_assign rfl) rfl rfl rfl ?_; clear hf fa; intro fa hf
        refine sqv hf (r_assign rfl) rfl rfl rfl ?_; clear hf fa; intro fa hf
        apply wpList_nil
        (try simp only [Exit.then, Exit.inBlock, ↓reduceIte, Nat.reduceEqDiff])
        refine hK18 _ _ ?_
        refine wp_ret ?_
        (try simp only [Exit.then, Exit.inBlock])
        refine ret2 hf rfl rfl rfl ?_
        exact ⟨_, rfl, ra4, rc4, ra5, rc5, (by first | (simp only [bitsK_length]; done) | (simp only [bitsK_length]; rfl)), Row.tol hr8 (congrArg (bitsK · 32) (by unfold sgnQ magN; simp [hqt14_1, hqt19_1])), Row.tol hr9 (congrArg (bitsK · 32) (by unfold sgnR magN; simp [hqt14_1, hqt19_1])), hb⟩
  · have hqt14_1b := hqt14_1
    replace hqt14_1 := Bool.eq_false_iff.1 hqt14_1
    try simp only [ne_eq, decide_eq_true_eq, Bool.and_eq_true, Bool.or_eq_true, Bool.not_eq_true', decide_eq_false_iff_not] at hqt14_1
    refine wp_skip ?_
    (try simp only [Exit.then, Exit.inBlock, ↓reduceIte, Nat.reduceEqDiff])
    refine hK3 _ _ ?_
    refine wp_seq_k (fun K19 hK19 => ?_)
    refine wp_seq_k (fun K20 hK20 => ?_)
    refine wp_region_lit ?_
    refine sqv hf (r_move rfl) rfl rfl rfl ?_; clear hf fa; intro fa hf
    have hy3 : ((bitsK B 32))[31]? = some ((B).testBit 31) := (bitsK_get (n := B) (k := 32) (i := 31) (by omega))
    obtain ⟨ab3, aoff3, rfl, hlb3, hel3⟩ := RdS.at h2 hy3
    refine sqv hf (r_ixa (sz := 1) (j := 31) rfl rfl Try.underlying162 (by kernel_rfl) rfl (by omega) rfl) rfl rfl rfl ?_; clear hf fa; intro fa hf
    refine sqv hf (r_load (v := (.bool ((B).testBit 31))) rfl Try.underlying4 rfl (cellsAt_cell (cellsAt_below hel3 hb hlb3) (i := 0) rfl rfl)) rfl rfl rfl ?_; clear hf fa; intro fa hf
    apply wpList_nil
    (try simp only [Exit.then, Exit.inBlock, ↓reduceIte, Nat.reduceEqDiff])
    refine hK20 _ _ ?_
    refine wp_cond_split (t := ((B).testBit 31)) (hf.ev rfl) (fun hqt19_2 => ?_) (fun hqt19_2 => ?_)
    · have hqt19_2b := hqt19_2
      try simp only [decide_eq_true_eq, Bool.and_eq_true, Bool.or_eq_true, Bool.not_eq_true', decide_eq_false_iff_not, ne_eq, Bool.not_eq_true] at hqt19_2
      refine wp_region_lit ?_
      refine sqv hf (r_move rfl) rfl rfl rfl ?_; clear hf fa; intro fa hf
      refine sqdt hf (d_callX (vs := [(.slice (some ⟨ab3, aoff3, none⟩) n2 c2)]) rfl Try.func100 (by kernel_rfl) (by kernel_rfl) (rturned_any B _ _ _ _ (by omega) (RdS.ext h2 hb) (by first | rfl | assumption | simp))) rfl rfl rfl ?_; clear hf fa; rintro fa v w10 ⟨hr10, he10⟩ hf; obtain ⟨ra6, rc6, rfl, hcrc6, hmrc6⟩ := Row.slice hr10
      replace hr10 := Row.rebase hr10 hb.size
      replace hb := hb.trans (Below.mono he10 hb.size)
      have := bitsK_length (negN B) 32
      refine sqv hf (r_assign rfl) rfl rfl rfl ?_; clear hf fa; intro fa hf
      apply wpList_nil
      (try simp only [Exit.then, Exit.inBlock, ↓reduceIte, Nat.reduceEqDiff])
      refine hK19 _ _ ?_
      refine wp_seq_k (fun K21 hK21 => ?_)
      refine wp_region_lit ?_
      refine sqv hf (r_move rfl) rfl rfl rfl ?_; clear hf fa; intro fa hf
      refine sqv hf (r_move rfl) rfl rfl rfl ?_; clear hf fa; intro fa hf
      refine sqdt hf (d_callX (vs := [(.slice (some ⟨ab1, aoff1, none⟩) n1 c1), (.slice ra6 (((bitsK (negN B) 32)).length) rc6)]) rfl Try.func97 (by kernel_rfl) (by kernel_rfl) (rdivide_any A (negN B) _ _ _ _ _ _ _ (by omega) (by omega) (by omega) (RdS.ext h1 hb) (by first | rfl | assumption | simp) (Row.rd (by intros; rfl) hr10) (by first | rfl | assumption | simp))) rfl rfl rfl ?_; clear hf fa; rintro fa _ w11 ⟨qa3, qc3, da3, dc3, rfl, hr11, hr12, he11⟩ hf
      replace hr11 := Row.rebase hr11 hb.size
      replace hr12 := Row.rebase hr12 hb.size
      replace hr10 := Row.ext hr10 he11
      replace hb := hb.trans (Below.mono he11 hb.size)
      have hchr11 := Row.caps hr11
      have := bitsK_length (A / (negN B)) 32
      have hchr12 := Row.caps hr12
      have := bitsK_length (A % (negN B)) 32
      have := Nat.div_le_self A (negN B); have := Nat.mod_le A (negN B)
      refine sqv hf (r_move rfl) rfl rfl rfl ?_; clear hf fa; intro fa hf
      refine sqv hf (r_extract rfl (i := 0) rfl) rfl rfl rfl ?_; clear hf fa; intro fa hf
      refine sqv hf (r_extract rfl (i := 1) rfl) rfl rfl rfl ?_; clear hf fa; intro fa hf
      refine sqv hf (r_assign rfl) rfl rfl rfl ?_; clear hf fa; intro fa hf
      refine sqv hf (r_assign rfl) rfl rfl rfl ?_; clear hf fa; intro fa hf
      apply wpList_nil
      (try simp only [Exit.then, Exit.inBlock, ↓reduceIte, Nat.reduceEqDiff])
      refine hK21 _ _ ?_
      refine wp_seq_k (fun K22 hK22 => ?_)
      refine wp_seq_k (fun K23 hK23 => ?_)
      refine wp_region_un (fun wq => Below w11.heap.size w11 wq) (fun w w' => Below w.heap.size w w')
        (fun V => [(fun x _ => x = (.slice (some ⟨ab1, aoff1, none⟩) n1 c1)), (fun x _ => x = (.pointer (some ⟨ab1, (aoff1 + 31 * 1), none⟩))), (fun x _ => x = (.bool ((A).testBit 31))), (fun x _ => x = (.slice (some ⟨ab3, aoff3, none⟩) n2 c2)), (fun x _ => x = (.pointer (some ⟨ab3, (aoff3 + 31 * 1), none⟩))), (fun x _ => x = (.bool ((B).testBit 31))), (fun x _ => x = (.bool (!(((A).testBit 31) == ((B).testBit 31)))))])
        []
        [[], [0], [1], [], [3], [4], [2, 5]]
        hf (by kernel_rfl) (by kernel_rfl) (fun _ => rfl) ((Below.refl _ _).drew) (fun a b h1 h2 => h1.trans (h2.mono h1.size)) (fun _ _ h => h.size) (fun V => ⟨kept_eq, kept_eq, kept_eq, kept_eq, kept_eq, kept_eq, kept_eq, trivial⟩) (fun _ _ _ _ _ => rfl) ?_ ?_
      · skip
        intro V
        refine ⟨fun wu0 hC hd => ?_, ?_⟩
        · clear hd
          replace hb := hb.trans (hC.mono hb.size)
          replace hr10 := Row.ext hr10 hC
          replace hr11 := Row.ext hr11 hC
          replace hr12 := Row.ext hr12 hC
          exact Runs.does (r_move rfl) ⟨Below.refl _ _, rfl, nofr rfl⟩
        refine ⟨fun wu1 hC hd => ?_, ?_⟩
        · obtain ⟨h0, _⟩ := hd
          skip
          replace h0 : V 0 = (.slice (some ⟨ab1, aoff1, none⟩) n1 c1) := h0
          replace hb := hb.trans (hC.mono hb.size)
          replace hr10 := Row.ext hr10 hC
          replace hr11 := Row.ext hr11 hC
          replace hr12 := Row.ext hr12 hC
          exact Runs.does (r_ixa (sz := 1) (j := 31) (congrArg some h0) rfl Try.underlying162 (by kernel_rfl) rfl (by omega) rfl) ⟨Below.refl _ _, rfl, nofr rfl⟩
        refine ⟨fun wu2 hC hd => ?_, ?_⟩
        · obtain ⟨h1, _⟩ := hd
          skip
          replace h1 : V 1 = (.pointer (some ⟨ab1, (aoff1 + 31 * 1), none⟩)) := h1
          replace hb := hb.trans (hC.mono hb.size)
          replace hr10 := Row.ext hr10 hC
          replace hr11 := Row.ext hr11 hC
          replace hr12 := Row.ext hr12 hC
          exact Runs.does (r_load (v := (.bool ((A).testBit 31))) (congrArg some h1) Try.underlying4 rfl (cellsAt_cell (cellsAt_below hel1 hb hlb1) (i := 0) rfl rfl)) ⟨Below.refl _ _, rfl, nofr rfl⟩
        refine ⟨fun wu3 hC hd => ?_, ?_⟩
        · clear hd
          replace hb := hb.trans (hC.mono hb.size)
          replace hr10 := Row.ext hr10 hC
          replace hr11 := Row.ext hr11 hC
          replace hr12 := Row.ext hr12 hC
          exact Runs.does (r_move rfl) ⟨Below.refl _ _, rfl, nofr rfl⟩
        refine ⟨fun wu4 hC hd => ?_, ?_⟩
        · obtain ⟨h3, _⟩ := hd
          skip
          replace h3 : V 3 = (.slice (some ⟨ab3, aoff3, none⟩) n2 c2) := h3
          replace hb := hb.trans (hC.mono hb.size)
          replace hr10 := Row.ext hr10 hC
          replace hr11 := Row.ext hr11 hC
          replace hr12 := Row.ext hr12 hC
          exact Runs.does (r_ixa (sz := 1) (j := 31) (congrArg some h3) rfl Try.underlying162 (by kernel_rfl) rfl (by omega) rfl) ⟨Below.refl _ _, rfl, nofr rfl⟩
        refine ⟨fun wu5 hC hd => ?_, ?_⟩
        · obtain ⟨h4, _⟩ := hd
          skip
          replace h4 : V 4 = (.pointer (some ⟨ab3, (aoff3 + 31 * 1), none⟩)) := h4
          replace hb := hb.trans (hC.mono hb.size)
          replace hr10 := Row.ext hr10 hC
          replace hr11 := Row.ext hr11 hC
          replace hr12 := Row.ext hr12 hC
          exact Runs.does (r_load (v := (.bool ((B).testBit 31))) (congrArg some h4) Try.underlying4 rfl (cellsAt_cell (cellsAt_below hel3 hb hlb3) (i := 0) rfl rfl)) ⟨Below.refl _ _, rfl, nofr rfl⟩
        refine ⟨fun wu6 hC hd => ?_, ?_⟩
        · obtain ⟨h2, h5, _⟩ := hd
          skip
          skip
          replace h2 : V 2 = (.bool ((A).testBit 31)) := h2
          replace h5 : V 5 = (.bool ((B).testBit 31)) := h5
          replace hb := hb.trans (hC.mono hb.size)
          replace hr10 := Row.ext hr10 hC
          replace hr11 := Row.ext hr11 hC
          replace hr12 := Row.ext hr12 hC
          exact Runs.does (r_bne Try.underlying4 (congrArg some h2) (congrArg some h5)) ⟨Below.refl _ _, rfl, nofr rfl⟩
        trivial
      · skip
        clear hf fa; intro V w12 fa he12 hp hnb hf
        have hv0 : V 0 = (.slice (some ⟨ab1, aoff1, none⟩) n1 c1) := postsHold_at hp 0 rfl
        have hv1 : V 1 = (.pointer (some ⟨ab1, (aoff1 + 31 * 1), none⟩)) := postsHold_at hp 1 rfl
        have hv2 : V 2 = (.bool ((A).testBit 31)) := postsHold_at hp 2 rfl
        have hv3 : V 3 = (.slice (some ⟨ab3, aoff3, none⟩) n2 c2) := postsHold_at hp 3 rfl
        have hv4 : V 4 = (.pointer (some ⟨ab3, (aoff3 + 31 * 1), none⟩)) := postsHold_at hp 4 rfl
        have hv5 : V 5 = (.bool ((B).testBit 31)) := postsHold_at hp 5 rfl
        have hv6 : V 6 = (.bool (!(((A).testBit 31) == ((B).testBit 31)))) := postsHold_at hp 6 rfl
        simp only [List.take_succ_cons, List.take_zero, insAll, ins, hv0, hv1, hv2, hv3, hv4, hv5, hv6] at hf
        clear hp hnb hv0 hv1 hv2 hv3 hv4 hv5 hv6
        replace hr10 := Row.ext hr10 he12
        replace hr11 := Row.ext hr11 he12
        replace hr12 := Row.ext hr12 he12
        replace hb := hb.trans (Below.mono he12 hb.size)
        (try simp only [Exit.then, Exit.inBlock, ↓reduceIte, Nat.reduceEqDiff])
        refine hK23 _ _ ?_
        refine wp_cond_true ((hf.ev rfl).trans (congrArg Value.bool (show (!(((A).testBit 31) == ((B).testBit 31))) = true from (by simp [hqt14_1, hqt19_2])))) ?_
        refine wp_region_lit ?_
        refine sqv hf (r_move rfl) rfl rfl rfl ?_; clear hf fa; intro fa hf
        refine sqdt hf (d_callX (vs := [(.slice qa3 ((bitsK (A / (negN B)) 32).length) qc3)]) rfl Try.func100 (by kernel_rfl) (by kernel_rfl) (rturned_any (A / (negN B)) _ _ _ _ (by omega) (Row.rd (by intros; rfl) hr11) (by first | rfl | assumption | simp))) rfl rfl rfl ?_; clear hf fa; rintro fa v w13 ⟨hr13, he13⟩ hf; obtain ⟨ra7, rc7, rfl, hcrc7, hmrc7⟩ := Row.slice hr13
        replace hr13 := Row.rebase hr13 hb.size
        replace hr10 := Row.ext hr10 he13
        replace hr11 := Row.ext hr11 he13
        replace hr12 := Row.ext hr12 he13
        replace hb := hb.trans (Below.mono he13 hb.size)
        have := bitsK_length (negN (A / (negN B))) 32
        refine sqv hf (r_assign rfl) rfl rfl rfl ?_; clear hf fa; intro fa hf
        apply wpList_nil
        (try simp only [Exit.then, Exit.inBlock, ↓reduceIte, Nat.reduceEqDiff])
        refine hK22 _ _ ?_
        refine wp_seq_k (fun K24 hK24 => ?_)
        refine wp_seq_k (fun K25 hK25 => ?_)
        refine wp_region_lit ?_
        refine sqv hf (r_move rfl) rfl rfl rfl ?_; clear hf fa; intro fa hf
        refine sqv hf (r_ixa (sz := 1) (j := 31) rfl rfl Try.underlying162 (by kernel_rfl) rfl (by omega) rfl) rfl rfl rfl ?_; clear hf fa; intro fa hf
        refine sqv hf (r_load (v := (.bool ((A).testBit 31))) rfl Try.underlying4 rfl (cellsAt_cell (cellsAt_below hel1 hb hlb1) (i := 0) rfl rfl)) rfl rfl rfl ?_; clear hf fa; intro fa hf
        apply wpList_nil
        (try simp only [Exit.then, Exit.inBlock, ↓reduceIte, Nat.reduceEqDiff])
        refine hK25 _ _ ?_
        refine wp_cond_false ((hf.ev rfl).trans (congrArg Value.bool (show ((A).testBit 31) = false from hqt14_1b))) ?_
        refine wp_skip ?_
        (try simp only [Exit.then, Exit.inBlock, ↓reduceIte, Nat.reduceEqDiff])
        refine hK24 _ _ ?_
        refine wp_seq_k (fun K26 hK26 => ?_)
        refine wp_region_lit ?_
        refine sqv hf (r_move rfl) rfl rfl rfl ?_; clear hf fa; intro fa hf
        refine sqv hf (r_move rfl) rfl rfl rfl ?_; clear hf fa; intro fa hf
        refine sqv hf (r_assign rfl) rfl rfl rfl ?_; clear hf fa; intro fa hf
        refine sqv hf (r_assign rfl) rfl rfl rfl ?_; clear hf fa; intro fa hf
        apply wpList_nil
        (try simp only [Exit.then, Exit.inBlock, ↓reduceIte, Nat.reduceEqDiff])
        refine hK26 _ _ ?_
        refine wp_ret ?_
        (try simp only [Exit.then, Exit.inBlock])
        refine ret2 hf rfl rfl rfl ?_
        exact ⟨_, rfl, ra7, rc7, da3, dc3, (by first | (simp only [bitsK_length]; done) | (simp only [bitsK_length]; rfl)), Row.tol hr13 (congrArg (bitsK · 32) (by unfold sgnQ magN; simp [hqt14_1, hqt19_2])), Row.tol hr12 (congrArg (bitsK · 32) (by unfold sgnR magN; simp [hqt14_1, hqt19_2])), hb⟩
    · have hqt19_2b := hqt19_2
      replace hqt19_2 := Bool.eq_false_iff.1 hqt19_2
      try simp only [ne_eq, decide_eq_true_eq, Bool.and_eq_true, Bool.or_eq_true, Bool.not_eq_true', decide_eq_false_iff_not] at hqt19_2
      refine wp_skip ?_
      (try simp only [Exit.then, Exit.inBlock, ↓reduceIte, Nat.reduceEqDiff])
      refine hK19 _ _ ?_
      refine wp_seq_k (fun K27 hK27 => ?_)
      refine wp_region_lit ?_
      refine sqv hf (r_move rfl) rfl rfl rfl ?_; clear hf fa; intro fa hf
      refine sqv hf (r_move rfl) rfl rfl rfl ?_; clear hf fa; intro fa hf
      refine sqdt hf (d_callX (vs := [(.slice (some ⟨ab1, aoff1, none⟩) n1 c1), (.slice (some ⟨ab3, aoff3, none⟩) n2 c2)]) rfl Try.func97 (by kernel_rfl) (by kernel_rfl) (rdivide_any A B _ _ _ _ _ _ _ (by omega) (by omega) (by omega) (RdS.ext h1 hb) (by first | rfl | assumption | simp) (RdS.ext h2 hb) (by first | rfl | assumption | simp))) rfl rfl rfl ?_; clear hf fa; rintro fa _ w14 ⟨qa4, qc4, da4, dc4, rfl, hr14, hr15, he14⟩ hf
      replace hr14 := Row.rebase hr14 hb.size
      replace hr15 := Row.rebase hr15 hb.size
      replace hb := hb.trans (Below.mono he14 hb.size)
      have hchr14 := Row.caps hr14
      have := bitsK_length (A / B) 32
      have hchr15 := Row.caps hr15
      have := bitsK_length (A % B) 32
      have := Nat.div_le_self A B; have := Nat.mod_le A B
      refine sqv hf (r_move rfl) rfl rfl rfl ?_; clear hf fa; intro fa hf
      refine sqv hf (r_extract rfl (i := 0) rfl) rfl rfl rfl ?_; clear hf fa; intro fa hf
      refine sqv hf (r_extract rfl (i := 1) rfl) rfl rfl rfl ?_; clear hf fa; intro fa hf
      refine sqv hf (r_assign rfl) rfl rfl rfl ?_; clear hf fa; intro fa hf
      refine sqv hf (r_assign rfl) rfl rfl rfl ?_; clear hf fa; intro fa hf
      apply wpList_nil
      (try simp only [Exit.then, Exit.inBlock, ↓reduceIte, Nat.reduceEqDiff])
      refine hK27 _ _ ?_
      refine wp_seq_k (fun K28 hK28 => ?_)
      refine wp_seq_k (fun K29 hK29 => ?_)
      refine wp_region_un (fun wq => Below w14.heap.size w14 wq) (fun w w' => Below w.heap.size w w')
        (fun V => [(fun x _ => x = (.slice (some ⟨ab1, aoff1, none⟩) n1 c1)), (fun x _ => x = (.pointer (some ⟨ab1, (aoff1 + 31 * 1), none⟩))), (fun x _ => x = (.bool ((A).testBit 31))), (fun x _ => x = (.slice (some ⟨ab3, aoff3, none⟩) n2 c2)), (fun x _ => x = (.pointer (some ⟨ab3, (aoff3 + 31 * 1), none⟩))), (fun x _ => x = (.bool ((B).testBit 31))), (fun x _ => x = (.bool (!(((A).testBit 31) == ((B).testBit 31)))))])
        []
        [[], [0], [1], [], [3], [4], [2, 5]]
        hf (by kernel_rfl) (by kernel_rfl) (fun _ => rfl) ((Below.refl _ _).drew) (fun a b h1 h2 => h1.trans (h2.mono h1.size)) (fun _ _ h => h.size) (fun V => ⟨kept_eq, kept_eq, kept_eq, kept_eq, kept_eq, kept_eq, kept_eq, trivial⟩) (fun _ _ _ _ _ => rfl) ?_ ?_
      · skip
        intro V
        refine ⟨fun wu0 hC hd => ?_, ?_⟩
        · clear hd
          replace hb := hb.trans (hC.mono hb.size)
          replace hr14 := Row.ext hr14 hC
          replace hr15 := Row.ext hr15 hC
          exact Runs.does (r_move rfl) ⟨Below.refl _ _, rfl, nofr rfl⟩
        refine ⟨fun wu1 hC hd => ?_, ?_⟩
        · obtain ⟨h0, _⟩ := hd
          skip
          replace h0 : V 0 = (.slice (some ⟨ab1, aoff1, none⟩) n1 c1) := h0
          replace hb := hb.trans (hC.mono hb.size)
          replace hr14 := Row.ext hr14 hC
          replace hr15 := Row.ext hr15 hC
          exact Runs.does (r_ixa (sz := 1) (j := 31) (congrArg some h0) rfl Try.underlying162 (by kernel_rfl) rfl (by omega) rfl) ⟨Below.refl _ _, rfl, nofr rfl⟩
        refine ⟨fun wu2 hC hd => ?_, ?_⟩
        · obtain ⟨h1, _⟩ := hd
          skip
          replace h1 : V 1 = (.pointer (some ⟨ab1, (aoff1 + 31 * 1), none⟩)) := h1
          replace hb := hb.trans (hC.mono hb.size)
          replace hr14 := Row.ext hr14 hC
          replace hr15 := Row.ext hr15 hC
          exact Runs.does (r_load (v := (.bool ((A).testBit 31))) (congrArg some h1) Try.underlying4 rfl (cellsAt_cell (cellsAt_below hel1 hb hlb1) (i := 0) rfl rfl)) ⟨Below.refl _ _, rfl, nofr rfl⟩
        refine ⟨fun wu3 hC hd => ?_, ?_⟩
        · clear hd
          replace hb := hb.trans (hC.mono hb.size)
          replace hr14 := Row.ext hr14 hC
          replace hr15 := Row.ext hr15 hC
          exact Runs.does (r_move rfl) ⟨Below.refl _ _, rfl, nofr rfl⟩
        refine ⟨fun wu4 hC hd => ?_, ?_⟩
        · obtain ⟨h3, _⟩ := hd
          skip
          replace h3 : V 3 = (.slice (some ⟨ab3, aoff3, none⟩) n2 c2) := h3
          replace hb := hb.trans (hC.mono hb.size)
          replace hr14 := Row.ext hr14 hC
          replace hr15 := Row.ext hr15 hC
          exact Runs.does (r_ixa (sz := 1) (j := 31) (congrArg some h3) rfl Try.underlying162 (by kernel_rfl) rfl (by omega) rfl) ⟨Below.refl _ _, rfl, nofr rfl⟩
        refine ⟨fun wu5 hC hd => ?_, ?_⟩
        · obtain ⟨h4, _⟩ := hd
          skip
          replace h4 : V 4 = (.pointer (some ⟨ab3, (aoff3 + 31 * 1), none⟩)) := h4
          replace hb := hb.trans (hC.mono hb.size)
          replace hr14 := Row.ext hr14 hC
          replace hr15 := Row.ext hr15 hC
          exact Runs.does (r_load (v := (.bool ((B).testBit 31))) (congrArg some h4) Try.underlying4 rfl (cellsAt_cell (cellsAt_below hel3 hb hlb3) (i := 0) rfl rfl)) ⟨Below.refl _ _, rfl, nofr rfl⟩
        refine ⟨fun wu6 hC hd => ?_, ?_⟩
        · obtain ⟨h2, h5, _⟩ := hd
          skip
          skip
          replace h2 : V 2 = (.bool ((A).testBit 31)) := h2
          replace h5 : V 5 = (.bool ((B).testBit 31)) := h5
          replace hb := hb.trans (hC.mono hb.size)
          replace hr14 := Row.ext hr14 hC
          replace hr15 := Row.ext hr15 hC
          exact Runs.does (r_bne Try.underlying4 (congrArg some h2) (congrArg some h5)) ⟨Below.refl _ _, rfl, nofr rfl⟩
        trivial
      · skip
        clear hf fa; intro V w15 fa he15 hp hnb hf
        have hv0 : V 0 = (.slice (some ⟨ab1, aoff1, none⟩) n1 c1) := postsHold_at hp 0 rfl
        have hv1 : V 1 = (.pointer (some ⟨ab1, (aoff1 + 31 * 1), none⟩)) := postsHold_at hp 1 rfl
        have hv2 : V 2 = (.bool ((A).testBit 31)) := postsHold_at hp 2 rfl
        have hv3 : V 3 = (.slice (some ⟨ab3, aoff3, none⟩) n2 c2) := postsHold_at hp 3 rfl
        have hv4 : V 4 = (.pointer (some ⟨ab3, (aoff3 + 31 * 1), none⟩)) := postsHold_at hp 4 rfl
        have hv5 : V 5 = (.bool ((B).testBit 31)) := postsHold_at hp 5 rfl
        have hv6 : V 6 = (.bool (!(((A).testBit 31) == ((B).testBit 31)))) := postsHold_at hp 6 rfl
        simp only [List.take_succ_cons, List.take_zero, insAll, ins, hv0, hv1, hv2, hv3, hv4, hv5, hv6] at hf
        clear hp hnb hv0 hv1 hv2 hv3 hv4 hv5 hv6
        replace hr14 := Row.ext hr14 he15
        replace hr15 := Row.ext hr15 he15
        replace hb := hb.trans (Below.mono he15 hb.size)
        (try simp only [Exit.then, Exit.inBlock, ↓reduceIte, Nat.reduceEqDiff])
        refine hK29 _ _ ?_
        refine wp_cond_false ((hf.ev rfl).trans (congrArg Value.bool (show (!(((A).testBit 31) == ((B).testBit 31))) = false from (by simp [hqt14_1, hqt19_2])))) ?_
        refine wp_skip ?_
        (try simp only [Exit.then, Exit.inBlock, ↓reduceIte, Nat.reduceEqDiff])
        refine hK28 _ _ ?_
        refine wp_seq_k (fun K30 hK30 => ?_)
        refine wp_seq_k (fun K31 hK31 => ?_)
        refine wp_region_lit ?_
        refine sqv hf (r_move rfl) rfl rfl rfl ?_; clear hf fa; intro fa hf
        refine sqv hf (r_ixa (sz := 1) (j := 31) rfl rfl Try.underlying162 (by kernel_rfl) rfl (by omega) rfl) rfl rfl rfl ?_; clear hf fa; intro fa hf
        refine sqv hf (r_load (v := (.bool ((A).testBit 31))) rfl Try.underlying4 rfl (cellsAt_cell (cellsAt_below hel1 hb hlb1) (i := 0) rfl rfl)) rfl rfl rfl ?_; clear hf fa; intro fa hf
        apply wpList_nil
        (try simp only [Exit.then, Exit.inBlock, ↓reduceIte, Nat.reduceEqDiff])
        refine hK31 _ _ ?_
        refine wp_cond_false ((hf.ev rfl).trans (congrArg Value.bool (show ((A).testBit 31) = false from hqt14_1b))) ?_
        refine wp_skip ?_
        (try simp only [Exit.then, Exit.inBlock, ↓reduceIte, Nat.reduceEqDiff])
        refine hK30 _ _ ?_
        refine wp_seq_k (fun K32 hK32 => ?_)
        refine wp_region_lit ?_
        refine sqv hf (r_move rfl) rfl rfl rfl ?_; clear hf fa; intro fa hf
        refine sqv hf (r_move rfl) rfl rfl rfl ?_; clear hf fa; intro fa hf
        refine sqv hf (r_assign rfl) rfl rfl rfl ?_; clear hf fa; intro fa hf
        refine sqv hf (r_assign rfl) rfl rfl rfl ?_; clear hf fa; intro fa hf
        apply wpList_nil
        (try simp only [Exit.then, Exit.inBlock, ↓reduceIte, Nat.reduceEqDiff])
        refine hK32 _ _ ?_
        refine wp_ret ?_
        (try simp only [Exit.then, Exit.inBlock])
        refine ret2 hf rfl rfl rfl ?_
        exact ⟨_, rfl, qa4, qc4, da4, dc4, (by first | (simp only [bitsK_length]; done) | (simp only [bitsK_length]; rfl)), Row.tol hr14 (congrArg (bitsK · 32) (by unfold sgnQ magN; simp [hqt14_1, hqt19_2])), Row.tol hr15 (congrArg (bitsK · 32) (by unfold sgnR magN; simp [hqt14_1, hqt19_2])), hb⟩

set_option maxHeartbeats 1000000 in
set_option maxRecDepth 100000 in
theorem rquotient_any (k : Int) (A B : Nat) (a1 : Option Addr) (n1 c1 : Nat) (a2 : Option Addr) (n2 c2 : Nat) (w : World) (hk : 0 ≤ k) (hA : A < 4294967296) (hB : B < 4294967296) (h1 : RdS 1 vBool w a1 (bitsK A 32)) (e1 : n1 = 32) (h2 : RdS 1 vBool w a2 (bitsK B 32)) (e2 : n2 = 32) : Calls Try.prog 86 #[(.int .i64 k), (.slice a1 n1 c1), (.slice a2 n2 c2)] w fun e w' => e = .returned (.tuple #[.int .u64 ((quoZ k A B).1 : Nat), .int .i64 (quoZ k A B).2]) ∧ Below w.heap.size w w' := by
  have hsq := sgnQ_lt (B := B) hA; have hsr := sgnR_lt (B := B) hA
  refine sx_enter (L := [(0, (.int .i64 k)), (1, (.slice a1 n1 c1)), (2, (.slice a2 n2 c2))]) Try.func86 rfl rfl rfl rfl (fun fa hf => ?_)
  have hb : Below w.heap.size w w := Below.refl _ _
  refine wp_seq_k (fun K1 hK1 => ?_)
  refine wp_region_lit ?_
  refine sqv hf (r_assign rfl) rfl rfl rfl ?_; clear hf fa; intro fa hf
  refine sqv hf (r_assign rfl) rfl rfl rfl ?_; clear hf fa; intro fa hf
  apply wpList_nil
  (try simp only [Exit.then, Exit.inBlock, ↓reduceIte, Nat.reduceEqDiff])
  refine hK1 _ _ ?_
  refine wp_seq_k (fun K2 hK2 => ?_)
  refine wp_seq_k (fun K3 hK3 => ?_)
  refine wp_region_lit ?_
  refine sqv hf (r_move rfl) rfl rfl rfl ?_; clear hf fa; intro fa hf
  refine sqdt hf (d_callB (vs := [(.slice a2 n2 c2)]) rfl Try.func82 (by kernel_rfl) (by kernel_rfl) (number_any B _ _ _ _ (by omega) (RdS.ext h2 hb) (by first | rfl | assumption | simp))) rfl rfl rfl ?_; clear hf fa; rintro fa _ w1 ⟨rfl, he1⟩ hf
  replace hb := hb.trans (Below.mono he1 hb.size)
  refine sqv hf (r_eq rfl rfl) rfl rfl rfl ?_; clear hf fa; intro fa hf
  apply wpList_nil
  (try simp only [Exit.then, Exit.inBlock, ↓reduceIte, Nat.reduceEqDiff])
  refine hK3 _ _ ?_
  refine wp_cond_split (t := (decide (((B : Nat) : Int) = (0 : Int)))) (hf.ev rfl) (fun hqt12_1 => ?_) (fun hqt12_1 => ?_)
  · have hqt12_1b := hqt12_1
    try simp only [decide_eq_true_eq, Bool.and_eq_true, Bool.or_eq_true, Bool.not_eq_true', decide_eq_false_iff_not, ne_eq, Bool.not_eq_true] at hqt12_1
    refine wp_seq_k (fun K4 hK4 => ?_)
    refine wp_region_lit ?_
    refine sqv hf (r_assign rfl) rfl rfl rfl ?_; clear hf fa; intro fa hf
    refine sqv hf (r_assign rfl) rfl rfl rfl ?_; clear hf fa; intro fa hf
    apply wpList_nil
    (try simp only [Exit.then, Exit.inBlock, ↓reduceIte, Nat.reduceEqDiff])
    refine hK4 _ _ ?_
    refine wp_ret ?_
    (try simp only [Exit.then, Exit.inBlock])
    refine ret2 hf rfl rfl rfl ?_
    refine ⟨?_, hb⟩; unfold quoZ; rw [if_pos hqt12_1]; (try rfl)
  · have hqt12_1b := hqt12_1
    replace hqt12_1 := Bool.eq_false_iff.1 hqt12_1
    try simp only [ne_eq, decide_eq_true_eq, Bool.and_eq_true, Bool.or_eq_true, Bool.not_eq_true', decide_eq_false_iff_not] at hqt12_1
    refine wp_skip ?_
    (try simp only [Exit.then, Exit.inBlock, ↓reduceIte, Nat.reduceEqDiff])
    refine hK2 _ _ ?_
    refine wp_seq_k (fun K5 hK5 => ?_)
    refine wp_region_lit ?_
    refine sqv hf (r_move rfl) rfl rfl rfl ?_; clear hf fa; intro fa hf
    refine sqv hf (r_move rfl) rfl rfl rfl ?_; clear hf fa; intro fa hf
    refine sqdt hf (d_callX (vs := [(.slice a1 n1 c1), (.slice a2 n2 c2)]) rfl Try.func97 (by kernel_rfl) (by kernel_rfl) (rdivide_any A B _ _ _ _ _ _ _ (by omega) (by omega) (by omega) (RdS.ext h1 hb) (by first | rfl | assumption | simp) (RdS.ext h2 hb) (by first | rfl | assumption | simp))) rfl rfl rfl ?_; clear hf fa; rintro fa _ w2 ⟨qa1, qc1, da1, dc1, rfl, hr1, hr2, he2⟩ hf
    replace hr1 := Row.rebase hr1 hb.size
    replace hr2 := Row.rebase hr2 hb.size
    replace hb := hb.trans (Below.mono he2 hb.size)
    have hchr1 := Row.caps hr1
    have := bitsK_length (A / B) 32
    have hchr2 := Row.caps hr2
    have := bitsK_length (A % B) 32
    have := Nat.div_le_self A B; have := Nat.mod_le A B
    refine sqv hf (r_move rfl) rfl rfl rfl ?_; clear hf fa; intro fa hf
    refine sqv hf (r_extract rfl (i := 0) rfl) rfl rfl rfl ?_; clear hf fa; intro fa hf
    refine sqv hf (r_extract rfl (i := 1) rfl) rfl rfl rfl ?_; clear hf fa; intro fa hf
    refine sqv hf (r_assign rfl) rfl rfl rfl ?_; clear hf fa; intro fa hf
    refine sqv hf (r_assign rfl) rfl rfl rfl ?_; clear hf fa; intro fa hf
    apply wpList_nil
    (try simp only [Exit.then, Exit.inBlock, ↓reduceIte, Nat.reduceEqDiff])
    refine hK5 _ _ ?_
    refine wp_seq_k (fun K6 hK6 => ?_)
    refine wp_seq_k (fun K7 hK7 => ?_)
    refine wp_region_lit ?_
    refine sqv hf (r_move rfl) rfl rfl rfl ?_; clear hf fa; intro fa hf
    refine sqv hf (r_rem (C := (k % (2 : Int))) rfl rfl (by omega) (Int.tmod_eq_emod_of_nonneg (by omega))) rfl rfl rfl ?_; clear hf fa; intro fa hf
    refine sqv hf (r_eq rfl rfl) rfl rfl rfl ?_; clear hf fa; intro fa hf
    apply wpList_nil
    (try simp only [Exit.then, Exit.inBlock, ↓reduceIte, Nat.reduceEqDiff])
    refine hK7 _ _ ?_
    refine wp_cond_split (t := (decide ((k % (2 : Int)) = (0 : Int)))) (hf.ev rfl) (fun hqt21_1 => ?_) (fun hqt21_1 => ?_)
    · have hqt21_1b := hqt21_1
      try simp only [decide_eq_true_eq, Bool.and_eq_true, Bool.or_eq_true, Bool.not_eq_true', decide_eq_false_iff_not, ne_eq, Bool.not_eq_true] at hqt21_1
      refine wp_region_lit ?_
      refine sqv hf (r_move rfl) rfl rfl rfl ?_; clear hf fa; intro fa hf
      refine sqv hf (r_move rfl) rfl rfl rfl ?_; clear hf fa; intro fa hf
      refine sqdt hf (d_callX (vs := [(.slice a1 n1 c1), (.slice a2 n2 c2)]) rfl Try.func98 (by kernel_rfl) (by kernel_rfl) (rsigned_any A B _ _ _ _ _ _ _ (by omega) (by omega) (by omega) (RdS.ext h1 hb) (by first | rfl | assumption | simp) (RdS.ext h2 hb) (by first | rfl | assumption | simp))) rfl rfl rfl ?_; clear hf fa; rintro fa _ w3 ⟨qa2, qc2, da2, dc2, rfl, hr3, hr4, he3⟩ hf
      replace hr3 := Row.rebase hr3 hb.size
      replace hr4 := Row.rebase hr4 hb.size
      replace hr1 := Row.ext hr1 he3
      replace hr2 := Row.ext hr2 he3
      replace hb := hb.trans (Below.mono he3 hb.size)
      have hchr3 := Row.caps hr3
      have := bitsK_length (sgnQ A B) 32
      have hchr4 := Row.caps hr4
      have := bitsK_length (sgnR A B) 32
      refine sqv hf (r_move rfl) rfl rfl rfl ?_; clear hf fa; intro fa hf
      refine sqv hf (r_extract rfl (i := 0) rfl) rfl rfl rfl ?_; clear hf fa; intro fa hf
      refine sqv hf (r_extract rfl (i := 1) rfl) rfl rfl rfl ?_; clear hf fa; intro fa hf
      refine sqv hf (r_assign rfl) rfl rfl rfl ?_; clear hf fa; intro fa hf
      refine sqv hf (r_assign rfl) rfl rfl rfl ?_; clear hf fa; intro fa hf
      apply wpList_nil
      (try simp only [Exit.then, Exit.inBlock, ↓reduceIte, Nat.reduceEqDiff])
      refine hK6 _ _ ?_
      refine wp_seq_k (fun K8 hK8 => ?_)
      refine wp_seq_k (fun K9 hK9 => ?_)
      refine wp_region_lit ?_
      refine sqv hf (r_move rfl) rfl rfl rfl ?_; clear hf fa; intro fa hf
      refine sqv hf (r_eq rfl rfl) rfl rfl rfl ?_; clear hf fa; intro fa hf
      refine sqv hf (r_move rfl) rfl rfl rfl ?_; clear hf fa; intro fa hf
      refine sqgT (act := (decide (k = (0 : Int)))) (ag := true) (c := (decide (k = (0 : Int)))) (v := (.slice a1 n1 c1)) hf rfl rfl rfl (fun hact => (r_move rfl)) rfl rfl ?_; clear hf fa; intro fa hf
      have hy1 : ((bitsK A 32))[31]? = some ((A).testBit 31) := (bitsK_get (n := A) (k := 32) (i := 31) (by omega))
      obtain ⟨ab1, aoff1, rfl, hlb1, hel1⟩ := RdS.at h1 hy1
      refine sqgT (act := (decide (k = (0 : Int)))) (ag := true) (c := (decide (k = (0 : Int)))) (v := (.pointer (some ⟨ab1, (aoff1 + 31 * 1), none⟩))) hf rfl rfl rfl (fun hact => (by have hact0 := hact; (try simp only [Bool.and_eq_true, Bool.not_eq_true', Bool.or_eq_false_iff, Bool.or_eq_true, Bool.and_eq_false_iff, ne_eq, decide_eq_true_eq, decide_eq_false_iff_not] at hact0); exact (r_ixa (sz := 1) (j := 31) (gb_ev hact rfl) rfl Try.underlying162 (by kernel_rfl) rfl (by omega) rfl))) rfl rfl ?_; clear hf fa; intro fa hf
      refine sqgT (act := (decide (k = (0 : Int)))) (ag := true) (c := (decide (k = (0 : Int)))) (v := (.bool ((A).testBit 31))) hf rfl rfl rfl (fun hact => (r_load (v := (.bool ((A).testBit 31))) (gb_ev hact rfl) Try.underlying4 rfl (cellsAt_cell (cellsAt_below hel1 hb hlb1) (i := 0) rfl rfl))) rfl rfl ?_; clear hf fa; intro fa hf
      refine sqv hf (r_pickA (b := (decide (k = (0 : Int)))) (e := ((A).testBit 31)) rfl rfl rfl) rfl rfl rfl ?_; clear hf fa; intro fa hf
      refine sqv hf (r_move rfl) rfl rfl rfl ?_; clear hf fa; intro fa hf
      refine sqgT (act := ((decide (k = (0 : Int))) && ((A).testBit 31))) (ag := true) (c := ((decide (k = (0 : Int))) && ((A).testBit 31))) (v := (.slice a2 n2 c2)) hf rfl rfl rfl (fun hact => (r_move rfl)) rfl rfl ?_; clear hf fa; intro fa hf
      have hy2 : ((bitsK B 32))[31]? = some ((B).testBit 31) := (bitsK_get (n := B) (k := 32) (i := 31) (by omega))
      obtain ⟨ab2, aoff2, rfl, hlb2, hel2⟩ := RdS.at h2 hy2
      refine sqgT (act := ((decide (k = (0 : Int))) && ((A).testBit 31))) (ag := true) (c := ((decide (k = (0 : Int))) && ((A).testBit 31))) (v := (.pointer (some ⟨ab2, (aoff2 + 31 * 1), none⟩))) hf rfl rfl rfl (fun hact => (by have hact0 := hact; (try simp only [Bool.and_eq_true, Bool.not_eq_true', Bool.or_eq_false_iff, Bool.or_eq_true, Bool.and_eq_false_iff, ne_eq, decide_eq_true_eq, decide_eq_false_iff_not] at hact0); exact (r_ixa (sz := 1) (j := 31) (gb_ev hact rfl) rfl Try.underlying162 (by kernel_rfl) rfl (by omega) rfl))) rfl rfl ?_; clear hf fa; intro fa hf
      refine sqgT (act := ((decide (k = (0 : Int))) && ((A).testBit 31))) (ag := true) (c := ((decide (k = (0 : Int))) && ((A).testBit 31))) (v := (.bool ((B).testBit 31))) hf rfl rfl rfl (fun hact => (r_load (v := (.bool ((B).testBit 31))) (gb_ev hact rfl) Try.underlying4 rfl (cellsAt_cell (cellsAt_below hel2 hb hlb2) (i := 0) rfl rfl))) rfl rfl ?_; clear hf fa; intro fa hf
      refine sqv hf (r_pickA (b := ((decide (k = (0 : Int))) && ((A).testBit 31))) (e := ((B).testBit 31)) rfl rfl rfl) rfl rfl rfl ?_; clear hf fa; intro fa hf
      refine sqv hf (r_move rfl) rfl rfl rfl ?_; clear hf fa; intro fa hf
      refine sqgT (act := (((decide (k = (0 : Int))) && ((A).testBit 31)) && ((B).testBit 31))) (ag := true) (c := (((decide (k = (0 : Int))) && ((A).testBit 31)) && ((B).testBit 31))) (v := (.slice qa2 ((bitsK (sgnQ A B) 32).length) qc2)) hf rfl rfl rfl (fun hact => (r_move rfl)) rfl rfl ?_; clear hf fa; intro fa hf
      obtain ⟨rb1, rfl, hbbrb1, hlbrb1⟩ := Row.some hr3 (by first | omega | (simp only [bitsK_length, List.length_set, List.length_take, List.length_append, List.length_replicate, List.length_cons, List.length_nil]; omega))
      have hy3 : ((bitsK (sgnQ A B) 32))[31]? = some (((sgnQ A B)).testBit 31) := (bitsK_get (n := (sgnQ A B)) (k := 32) (i := 31) (by omega))
      have hel3 := RdS.at (Row.rd (by intros; rfl) hr3) hy3
      obtain ⟨_, _, hab, hlr1, hel3⟩ := hel3
      cases hab
      refine sqgT (act := (((decide (k = (0 : Int))) && ((A).testBit 31)) && ((B).testBit 31))) (ag := true) (c := (((decide (k = (0 : Int))) && ((A).testBit 31)) && ((B).testBit 31))) (v := (.pointer (some ⟨rb1, (0 + 31 * 1), none⟩))) hf rfl rfl rfl (fun hact => (by have hact0 := hact; (try simp only [Bool.and_eq_true, Bool.not_eq_true', Bool.or_eq_false_iff, Bool.or_eq_true, Bool.and_eq_false_iff, ne_eq, decide_eq_true_eq, decide_eq_false_iff_not] at hact0); exact (r_ixa (sz := 1) (j := 31) (gb_ev hact rfl) rfl Try.underlying162 (by kernel_rfl) rfl (by omega) rfl))) rfl rfl ?_; clear hf fa; intro fa hf
      refine sqgT (act := (((decide (k = (0 : Int))) && ((A).testBit 31)) && ((B).testBit 31))) (ag := true) (c := (((decide (k = (0 : Int))) && ((A).testBit 31)) && ((B).testBit 31))) (v := (.bool (((sgnQ A B)).testBit 31))) hf rfl rfl rfl (fun hact => (r_load (v := (.bool (((sgnQ A B)).testBit 31))) (gb_ev hact rfl) Try.underlying4 rfl (cellsAt_cell hel3 (i := 0) rfl rfl))) rfl rfl ?_; clear hf fa; intro fa hf
      refine sqv hf (r_pickA (b := (((decide (k = (0 : Int))) && ((A).testBit 31)) && ((B).testBit 31))) (e := (((sgnQ A B)).testBit 31)) rfl rfl rfl) rfl rfl rfl ?_; clear hf fa; intro fa hf
      apply wpList_nil
      (try simp only [Exit.then, Exit.inBlock, ↓reduceIte, Nat.reduceEqDiff])
      refine hK9 _ _ ?_
      refine wp_cond_split (t := ((((decide (k = (0 : Int))) && ((A).testBit 31)) && ((B).testBit 31)) && (((sgnQ A B)).testBit 31))) (hf.ev rfl) (fun hqt44_1 => ?_) (fun hqt44_1 => ?_)
      · have hqt44_1b := hqt44_1
        try simp only [decide_eq_true_eq, Bool.and_eq_true, Bool.or_eq_true, Bool.not_eq_true', decide_eq_false_iff_not, ne_eq, Bool.not_eq_true] at hqt44_1
        refine wp_seq_k (fun K10 hK10 => ?_)
        refine wp_region_lit ?_
        refine sqv hf (r_assign rfl) rfl rfl rfl ?_; clear hf fa; intro fa hf
        refine sqv hf (r_assign rfl) rfl rfl rfl ?_; clear hf fa; intro fa hf
        apply wpList_nil
        (try simp only [Exit.then, Exit.inBlock, ↓reduceIte, Nat.reduceEqDiff])
        refine hK10 _ _ ?_
        refine wp_ret ?_
        (try simp only [Exit.then, Exit.inBlock])
        refine ret2 hf rfl rfl rfl ?_
        refine ⟨?_, hb⟩; unfold quoZ quoZ2; rw [if_neg hqt12_1, if_pos hqt21_1, if_pos hqt44_1]; (try rfl)
      · have hqt44_1b := hqt44_1
        replace hqt44_1 := Bool.eq_false_iff.1 hqt44_1
        try simp only [ne_eq, decide_eq_true_eq, Bool.and_eq_true, Bool.or_eq_true, Bool.not_eq_true', decide_eq_false_iff_not] at hqt44_1
        refine wp_skip ?_
        (try simp only [Exit.then, Exit.inBlock, ↓reduceIte, Nat.reduceEqDiff])
        refine hK8 _ _ ?_
        refine wp_seq_k (fun K11 hK11 => ?_)
        refine wp_seq_k (fun K12 hK12 => ?_)
        refine wp_region_lit ?_
        refine sqv hf (r_move rfl) rfl rfl rfl ?_; clear hf fa; intro fa hf
        refine sqv hf (r_lt rfl rfl) rfl rfl rfl ?_; clear hf fa; intro fa hf
        apply wpList_nil
        (try simp only [Exit.then, Exit.inBlock, ↓reduceIte, Nat.reduceEqDiff])
        refine hK12 _ _ ?_
        refine wp_cond_split (t := (decide (k < (2 : Int)))) (hf.ev rfl) (fun hqt46_1 => ?_) (fun hqt46_1 => ?_)
        · have hqt46_1b := hqt46_1
          try simp only [decide_eq_true_eq, Bool.and_eq_true, Bool.or_eq_true, Bool.not_eq_true', decide_eq_false_iff_not, ne_eq, Bool.not_eq_true] at hqt46_1
          refine wp_seq_k (fun K13 hK13 => ?_)
          refine wp_region_lit ?_
          refine sqv hf (r_move rfl) rfl rfl rfl ?_; clear hf fa; intro fa hf
          refine sqdt hf (d_callB (vs := [(.slice (some ⟨rb1, 0, none⟩) ((bitsK (sgnQ A B) 32).length) qc2)]) rfl Try.func82 (by kernel_rfl) (by kernel_rfl) (number_any (sgnQ A B) _ _ _ _ (by omega) (Row.rd (by intros; rfl) hr3) (by first | rfl | assumption | simp))) rfl rfl rfl ?_; clear hf fa; rintro fa _ w4 ⟨rfl, he4⟩ hf
          replace hr1 := Row.ext hr1 he4
          replace hr2 := Row.ext hr2 he4
          replace hr3 := Row.ext hr3 he4
          replace hr4 := Row.ext hr4 he4
          replace hb := hb.trans (Below.mono he4 hb.size)
          refine sqv hf (r_assign rfl) rfl rfl rfl ?_; clear hf fa; intro fa hf
          refine sqv hf (r_assign rfl) rfl rfl rfl ?_; clear hf fa; intro fa hf
          apply wpList_nil
          (try simp only [Exit.then, Exit.inBlock, ↓reduceIte, Nat.reduceEqDiff])
          refine hK13 _ _ ?_
          refine wp_ret ?_
          (try simp only [Exit.then, Exit.inBlock])
          refine ret2 hf rfl rfl rfl ?_
          refine ⟨?_, hb⟩; unfold quoZ quoZ2; rw [if_neg hqt12_1, if_pos hqt21_1, if_neg hqt44_1, if_pos hqt46_1]; (try rfl)
        · have hqt46_1b := hqt46_1
          replace hqt46_1 := Bool.eq_false_iff.1 hqt46_1
          try simp only [ne_eq, decide_eq_true_eq, Bool.and_eq_true, Bool.or_eq_true, Bool.not_eq_true', decide_eq_false_iff_not] at hqt46_1
          refine wp_skip ?_
          (try simp only [Exit.then, Exit.inBlock, ↓reduceIte, Nat.reduceEqDiff])
          refine hK11 _ _ ?_
          refine wp_seq_k (fun K14 hK14 => ?_)
          refine wp_region_lit ?_
          refine sqv hf (r_move rfl) rfl rfl rfl ?_; clear hf fa; intro fa hf
          refine sqdt hf (d_callB (vs := [(.slice da2 ((bitsK (sgnR A B) 32).length) dc2)]) rfl Try.func82 (by kernel_rfl) (by kernel_rfl) (number_any (sgnR A B) _ _ _ _ (by omega) (Row.rd (by intros; rfl) hr4) (by first | rfl | assumption | simp))) rfl rfl rfl ?_; clear hf fa; rintro fa _ w5 ⟨rfl, he5⟩ hf
          replace hr1 := Row.ext hr1 he5
          replace hr2 := Row.ext hr2 he5
          replace hr3 := Row.ext hr3 he5
          replace hr4 := Row.ext hr4 he5
          replace hb := hb.trans (Below.mono he5 hb.size)
          refine sqv hf (r_assign rfl) rfl rfl rfl ?_; clear hf fa; intro fa hf
          refine sqv hf (r_assign rfl) rfl rfl rfl ?_; clear hf fa; intro fa hf
          apply wpList_nil
          (try simp only [Exit.then, Exit.inBlock, ↓reduceIte, Nat.reduceEqDiff])
          refine hK14 _ _ ?_
          refine wp_ret ?_
          (try simp only [Exit.then, Exit.inBlock])
          refine ret2 hf rfl rfl rfl ?_
          refine ⟨?_, hb⟩; unfold quoZ quoZ2; rw [if_neg hqt12_1, if_pos hqt21_1, if_neg hqt44_1, if_neg hqt46_1]; (try rfl)
    · have hqt21_1b := hqt21_1
      replace hqt21_1 := Bool.eq_false_iff.1 hqt21_1
      try simp only [ne_eq, decide_eq_true_eq, Bool.and_eq_true, Bool.or_eq_true, Bool.not_eq_true', decide_eq_false_iff_not] at hqt21_1
      refine wp_skip ?_
      (try simp only [Exit.then, Exit.inBlock, ↓reduceIte, Nat.reduceEqDiff])
      refine hK6 _ _ ?_
      refine wp_seq_k (fun K15 hK15 => ?_)
      refine wp_seq_k (fun K16 hK16 => ?_)
      refine wp_region_lit ?_
      refine sqv hf (r_move rfl) rfl rfl rfl ?_; clear hf fa; intro fa hf
      refine sqv hf (r_eq rfl rfl) rfl rfl rfl ?_; clear hf fa; intro fa hf
      refine sqv hf (r_move rfl) rfl rfl rfl ?_; clear hf fa; intro fa hf
      refine sqgT (act := (decide (k = (0 : Int)))) (ag := true) (c := (decide (k = (0 : Int)))) (v := (.slice a1 n1 c1)) hf rfl rfl rfl (fun hact => (r_move rfl)) rfl rfl ?_; clear hf fa; intro fa hf
      have hy4 : ((bitsK A 32))[31]? = some ((A).testBit 31) := (bitsK_get (n := A) (k := 32) (i := 31) (by omega))
      obtain ⟨ab3, aoff3, rfl, hlb3, hel4⟩ := RdS.at h1 hy4
      refine sqgT (act := (decide (k = (0 : Int)))) (ag := true) (c := (decide (k = (0 : Int)))) (v := (.pointer (some ⟨ab3, (aoff3 + 31 * 1), none⟩))) hf rfl rfl rfl (fun hact => (by have hact0 := hact; (try simp only [Bool.and_eq_true, Bool.not_eq_true', Bool.or_eq_false_iff, Bool.or_eq_true, Bool.and_eq_false_iff, ne_eq, decide_eq_true_eq, decide_eq_false_iff_not] at hact0); exact (r_ixa (sz := 1) (j := 31) (gb_ev hact rfl) rfl Try.underlying162 (by kernel_rfl) rfl (by omega) rfl))) rfl rfl ?_; clear hf fa; intro fa hf
      refine sqgT (act := (decide (k = (0 : Int)))) (ag := true) (c := (decide (k = (0 : Int)))) (v := (.bool ((A).testBit 31))) hf rfl rfl rfl (fun hact => (r_load (v := (.bool ((A).testBit 31))) (gb_ev hact rfl) Try.underlying4 rfl (cellsAt_cell (cellsAt_below hel4 hb hlb3) (i := 0) rfl rfl))) rfl rfl ?_; clear hf fa; intro fa hf
      refine sqv hf (r_pickA (b := (decide (k = (0 : Int)))) (e := ((A).testBit 31)) rfl rfl rfl) rfl rfl rfl ?_; clear hf fa; intro fa hf
      refine sqv hf (r_move rfl) rfl rfl rfl ?_; clear hf fa; intro fa hf
      refine sqgT (act := ((decide (k = (0 : Int))) && ((A).testBit 31))) (ag := true) (c := ((decide (k = (0 : Int))) && ((A).testBit 31))) (v := (.slice a2 n2 c2)) hf rfl rfl rfl (fun hact => (r_move rfl)) rfl rfl ?_; clear hf fa; intro fa hf
      have hy5 : ((bitsK B 32))[31]? = some ((B).testBit 31) := (bitsK_get (n := B) (k := 32) (i := 31) (by omega))
      obtain ⟨ab4, aoff4, rfl, hlb4, hel5⟩ := RdS.at h2 hy5
      refine sqgT (act := ((decide (k = (0 : Int))) && ((A).testBit 31))) (ag := true) (c := ((decide (k = (0 : Int))) && ((A).testBit 31))) (v := (.pointer (some ⟨ab4, (aoff4 + 31 * 1), none⟩))) hf rfl rfl rfl (fun hact => (by have hact0 := hact; (try simp only [Bool.and_eq_true, Bool.not_eq_true', Bool.or_eq_false_iff, Bool.or_eq_true, Bool.and_eq_false_iff, ne_eq, decide_eq_true_eq, decide_eq_false_iff_not] at hact0); exact (r_ixa (sz := 1) (j := 31) (gb_ev hact rfl) rfl Try.underlying162 (by kernel_rfl) rfl (by omega) rfl))) rfl rfl ?_; clear hf fa; intro fa hf
      refine sqgT (act := ((decide (k = (0 : Int))) && ((A).testBit 31))) (ag := true) (c := ((decide (k = (0 : Int))) && ((A).testBit 31))) (v := (.bool ((B).testBit 31))) hf rfl rfl rfl (fun hact => (r_load (v := (.bool ((B).testBit 31))) (gb_ev hact rfl) Try.underlying4 rfl (cellsAt_cell (cellsAt_below hel5 hb hlb4) (i := 0) rfl rfl))) rfl rfl ?_; clear hf fa; intro fa hf
      refine sqv hf (r_pickA (b := ((decide (k = (0 : Int))) && ((A).testBit 31))) (e := ((B).testBit 31)) rfl rfl rfl) rfl rfl rfl ?_; clear hf fa; intro fa hf
      refine sqv hf (r_move rfl) rfl rfl rfl ?_; clear hf fa; intro fa hf
      refine sqgT (act := (((decide (k = (0 : Int))) && ((A).testBit 31)) && ((B).testBit 31))) (ag := true) (c := (((decide (k = (0 : Int))) && ((A).testBit 31)) && ((B).testBit 31))) (v := (.slice qa1 ((bitsK (A / B) 32).length) qc1)) hf rfl rfl rfl (fun hact => (r_move rfl)) rfl rfl ?_; clear hf fa; intro fa hf
      obtain ⟨rb2, rfl, hbbrb2, hlbrb2⟩ := Row.some hr1 (by first | omega | (simp only [bitsK_length, List.length_set, List.length_take, List.length_append, List.length_replicate, List.length_cons, List.length_nil]; omega))
      have hy6 : ((bitsK (A / B) 32))[31]? = some (((A / B)).testBit 31) := (bitsK_get (n := (A / B)) (k := 32) (i := 31) (by omega))
      have hel6 := RdS.at (Row.rd (by intros; rfl) hr1) hy6
      obtain ⟨_, _, hab, hlr2, hel6⟩ := hel6
      cases hab
      refine sqgT (act := (((decide (k = (0 : Int))) && ((A).testBit 31)) && ((B).testBit 31))) (ag := true) (c := (((decide (k = (0 : Int))) && ((A).testBit 31)) && ((B).testBit 31))) (v := (.pointer (some ⟨rb2, (0 + 31 * 1), none⟩))) hf rfl rfl rfl (fun hact => (by have hact0 := hact; (try simp only [Bool.and_eq_true, Bool.not_eq_true', Bool.or_eq_false_iff, Bool.or_eq_true, Bool.and_eq_false_iff, ne_eq, decide_eq_true_eq, decide_eq_false_iff_not] at hact0); exact (r_ixa (sz := 1) (j := 31) (gb_ev hact rfl) rfl Try.underlying162 (by kernel_rfl) rfl (by omega) rfl))) rfl rfl ?_; clear hf fa; intro fa hf
      refine sqgT (act := (((decide (k = (0 : Int))) && ((A).testBit 31)) && ((B).testBit 31))) (ag := true) (c := (((decide (k = (0 : Int))) && ((A).testBit 31)) && ((B).testBit 31))) (v := (.bool (((A / B)).testBit 31))) hf rfl rfl rfl (fun hact => (r_load (v := (.bool (((A / B)).testBit 31))) (gb_ev hact rfl) Try.underlying4 rfl (cellsAt_cell hel6 (i := 0) rfl rfl))) rfl rfl ?_; clear hf fa; intro fa hf
      refine sqv hf (r_pickA (b := (((decide (k = (0 : Int))) && ((A).testBit 31)) && ((B).testBit 31))) (e := (((A / B)).testBit 31)) rfl rfl rfl) rfl rfl rfl ?_; clear hf fa; intro fa hf
      apply wpList_nil
      (try simp only [Exit.then, Exit.inBlock, ↓reduceIte, Nat.reduceEqDiff])
      refine hK16 _ _ ?_
      refine wp_cond_split (t := ((((decide (k = (0 : Int))) && ((A).testBit 31)) && ((B).testBit 31)) && (((A / B)).testBit 31))) (hf.ev rfl) (fun hqt44_2 => ?_) (fun hqt44_2 => ?_)
      · have hqt44_2b := hqt44_2
        try simp only [decide_eq_true_eq, Bool.and_eq_true, Bool.or_eq_true, Bool.not_eq_true', decide_eq_false_iff_not, ne_eq, Bool.not_eq_true] at hqt44_2
        refine wp_seq_k (fun K17 hK17 => ?_)
        refine wp_region_lit ?_
        refine sqv hf (r_assign rfl) rfl rfl rfl ?_; clear hf fa; intro fa hf
        refine sqv hf (r_assign rfl) rfl rfl rfl ?_; clear hf fa; intro fa hf
        apply wpList_nil
        (try simp only [Exit.then, Exit.inBlock, ↓reduceIte, Nat.reduceEqDiff])
        refine hK17 _ _ ?_
        refine wp_ret ?_
        (try simp only [Exit.then, Exit.inBlock])
        refine ret2 hf rfl rfl rfl ?_
        refine ⟨?_, hb⟩; unfold quoZ quoZ2; rw [if_neg hqt12_1, if_neg hqt21_1, if_pos hqt44_2]; (try rfl)
      · have hqt44_2b := hqt44_2
        replace hqt44_2 := Bool.eq_false_iff.1 hqt44_2
        try simp only [ne_eq, decide_eq_true_eq, Bool.and_eq_true, Bool.or_eq_true, Bool.not_eq_true', decide_eq_false_iff_not] at hqt44_2
        refine wp_skip ?_
        (try simp only [Exit.then, Exit.inBlock, ↓reduceIte, Nat.reduceEqDiff])
        refine hK15 _ _ ?_
        refine wp_seq_k (fun K18 hK18 => ?_)
        refine wp_seq_k (fun K19 hK19 => ?_)
        refine wp_region_lit ?_
        refine sqv hf (r_move rfl) rfl rfl rfl ?_; clear hf fa; intro fa hf
        refine sqv hf (r_lt rfl rfl) rfl rfl rfl ?_; clear hf fa; intro fa hf
        apply wpList_nil
        (try simp only [Exit.then, Exit.inBlock, ↓reduceIte, Nat.reduceEqDiff])
        refine hK19 _ _ ?_
        refine wp_cond_split (t := (decide (k < (2 : Int)))) (hf.ev rfl) (fun hqt46_2 => ?_) (fun hqt46_2 => ?_)
        · have hqt46_2b := hqt46_2
          try simp only [decide_eq_true_eq, Bool.and_eq_true, Bool.or_eq_true, Bool.not_eq_true', decide_eq_false_iff_not, ne_eq, Bool.not_eq_true] at hqt46_2
          refine wp_seq_k (fun K20 hK20 => ?_)
          refine wp_region_lit ?_
          refine sqv hf (r_move rfl) rfl rfl rfl ?_; clear hf fa; intro fa hf
          refine sqdt hf (d_callB (vs := [(.slice (some ⟨rb2, 0, none⟩) ((bitsK (A / B) 32).length) qc1)]) rfl Try.func82 (by kernel_rfl) (by kernel_rfl) (number_any (A / B) _ _ _ _ (by omega) (Row.rd (by intros; rfl) hr1) (by first | rfl | assumption | simp))) rfl rfl rfl ?_; clear hf fa; rintro fa _ w6 ⟨rfl, he6⟩ hf
          replace hr1 := Row.ext hr1 he6
          replace hr2 := Row.ext hr2 he6
          replace hb := hb.trans (Below.mono he6 hb.size)
          refine sqv hf (r_assign rfl) rfl rfl rfl ?_; clear hf fa; intro fa hf
          refine sqv hf (r_assign rfl) rfl rfl rfl ?_; clear hf fa; intro fa hf
          apply wpList_nil
          (try simp only [Exit.then, Exit.inBlock, ↓reduceIte, Nat.reduceEqDiff])
          refine hK20 _ _ ?_
          refine wp_ret ?_
          (try simp only [Exit.then, Exit.inBlock])
          refine ret2 hf rfl rfl rfl ?_
          refine ⟨?_, hb⟩; unfold quoZ quoZ2; rw [if_neg hqt12_1, if_neg hqt21_1, if_neg hqt44_2, if_pos hqt46_2]; (try rfl)
        · have hqt46_2b := hqt46_2
          replace hqt46_2 := Bool.eq_false_iff.1 hqt46_2
          try simp only [ne_eq, decide_eq_true_eq, Bool.and_eq_true, Bool.or_eq_true, Bool.not_eq_true', decide_eq_false_iff_not] at hqt46_2
          refine wp_skip ?_
          (try simp only [Exit.then, Exit.inBlock, ↓reduceIte, Nat.reduceEqDiff])
          refine hK18 _ _ ?_
          refine wp_seq_k (fun K21 hK21 => ?_)
          refine wp_region_lit ?_
          refine sqv hf (r_move rfl) rfl rfl rfl ?_; clear hf fa; intro fa hf
          refine sqdt hf (d_callB (vs := [(.slice da1 ((bitsK (A % B) 32).length) dc1)]) rfl Try.func82 (by kernel_rfl) (by kernel_rfl) (number_any (A % B) _ _ _ _ (by omega) (Row.rd (by intros; rfl) hr2) (by first | rfl | assumption | simp))) rfl rfl rfl ?_; clear hf fa; rintro fa _ w7 ⟨rfl, he7⟩ hf
          replace hr1 := Row.ext hr1 he7
          replace hr2 := Row.ext hr2 he7
          replace hb := hb.trans (Below.mono he7 hb.size)
          refine sqv hf (r_assign rfl) rfl rfl rfl ?_; clear hf fa; intro fa hf
          refine sqv hf (r_assign rfl) rfl rfl rfl ?_; clear hf fa; intro fa hf
          apply wpList_nil
          (try simp only [Exit.then, Exit.inBlock, ↓reduceIte, Nat.reduceEqDiff])
          refine hK21 _ _ ?_
          refine wp_ret ?_
          (try simp only [Exit.then, Exit.inBlock])
          refine ret2 hf rfl rfl rfl ?_
          refine ⟨?_, hb⟩; unfold quoZ quoZ2; rw [if_neg hqt12_1, if_neg hqt21_1, if_neg hqt44_2, if_neg hqt46_2]; (try rfl)

set_option maxHeartbeats 1000000 in
set_option maxRecDepth 100000 in
theorem rbit_any (k : Int) (A B : Nat) (a1 : Option Addr) (n1 c1 : Nat) (a2 : Option Addr) (n2 c2 : Nat) (w : World) (hA : A < 4294967296) (hB : B < 4294967296) (h1 : RdS 1 vBool w a1 (bitsK A 32)) (e1 : n1 = 32) (h2 : RdS 1 vBool w a2 (bitsK B 32)) (e2 : n2 = 32) : Calls Try.prog 87 #[(.int .i64 k), (.slice a1 n1 c1), (.slice a2 n2 c2)] w fun e w' => e = .returned (.int .u64 (bitN k A B : Nat)) ∧ Below w.heap.size w w' := by
  refine sx_enter (L := [(0, (.int .i64 k)), (1, (.slice a1 n1 c1)), (2, (.slice a2 n2 c2))]) Try.func87 rfl rfl rfl rfl (fun fa hf => ?_)
  have hb : Below w.heap.size w w := Below.refl _ _
  refine wp_seq_k (fun K1 hK1 => ?_)
  refine wp_region_lit ?_
  refine sqv hf (r_assign rfl) rfl rfl rfl ?_; clear hf fa; intro fa hf
  apply wpList_nil
  (try simp only [Exit.then, Exit.inBlock, ↓reduceIte, Nat.reduceEqDiff])
  refine hK1 _ _ ?_
  refine wp_seq_k (fun K2 hK2 => ?_)
  refine wp_region_lit ?_
  refine sqv hf (r_assign rfl) rfl rfl rfl ?_; clear hf fa; intro fa hf
  apply wpList_nil
  (try simp only [Exit.then, Exit.inBlock, ↓reduceIte, Nat.reduceEqDiff])
  refine hK2 _ _ ?_
  refine wp_seq_k (fun K3 hK3 => ?_)
  refine wp_seq_k (fun K4 hK4 => ?_)
  refine wp_region_lit ?_
  refine sqv hf (r_assign rfl) rfl rfl rfl ?_; clear hf fa; intro fa hf
  apply wpList_nil
  (try simp only [Exit.then, Exit.inBlock, ↓reduceIte, Nat.reduceEqDiff])
  refine hK4 _ _ ?_
  refine wp_block ?_
  refine wp_loop_k (fun m fa wr => ∃ (i : Nat) (rwa : Option Addr) (rwc : Nat), m = 32 - i ∧ Fr 58 fa [(0, (.int .i64 k)), (1, (.slice a1 n1 c1)), (2, (.slice a2 n2 c2)), (8, (.int .i64 ((i : Nat) : Int))), (7, (.slice rwa (((bitsK (bitN k A B) i)).length) rwc))] ∧ Below w.heap.size w wr ∧ Row 1 vBool 4 (w.heap.size) wr (.slice rwa (((bitsK (bitN k A B) i)).length) rwc) (bitsK (bitN k A B) i) ∧ (i ≤ 32)) ?_ ?_
  · skip
    exact ⟨_, 0, none, 0, rfl, hf.sub ⟨rfl, rfl, rfl, (some_int (by first | rfl | omega)), (some_sl (by simp <;> omega) rfl), trivial⟩, hb, Row.nil, by omega⟩
  · skip
    clear hf fa; intro m1 fa w1 hI KL1 hKL1
    clear hb
    obtain ⟨i, rwa, rwc, hm1, hf, hb, hrw, hi⟩ := hI
    have hcrw := Row.caps hrw
    have hbl0 : (bitsK (bitN k A B) i).length = i := bitsK_length _ _
    refine wp_seq_k (fun K5 hK5 => ?_)
    refine wp_seq_k (fun K6 hK6 => ?_)
    refine wp_region_lit ?_
    refine sqv hf (r_move rfl) rfl rfl rfl ?_; clear hf fa; intro fa hf
    refine sqv hf (r_lt rfl rfl) rfl rfl rfl ?_; clear hf fa; intro fa hf
    apply wpList_nil
    (try simp only [Exit.then, Exit.inBlock, ↓reduceIte, Nat.reduceEqDiff])
    refine hK6 _ _ ?_
    refine wp_cond_split (t := (decide (((i : Nat) : Int) < (32 : Int)))) (hf.ev rfl) (fun hqt10_1 => ?_) (fun hqt10_1 => ?_)
    · have hqt10_1b := hqt10_1
      try simp only [decide_eq_true_eq, Bool.and_eq_true, Bool.or_eq_true, Bool.not_eq_true', decide_eq_false_iff_not, ne_eq, Bool.not_eq_true] at hqt10_1
      refine wp_skip ?_
      (try simp only [Exit.then, Exit.inBlock, ↓reduceIte, Nat.reduceEqDiff])
      refine hK5 _ _ ?_
      refine wp_seq_k (fun K7 hK7 => ?_)
      refine wp_block ?_
      refine wp_seq_k (fun K8 hK8 => ?_)
      refine wp_region_lit ?_
      refine sqv hf (r_move rfl) rfl rfl rfl ?_; clear hf fa; intro fa hf
      apply wpList_nil
      (try simp only [Exit.then, Exit.inBlock, ↓reduceIte, Nat.reduceEqDiff])
      refine hK8 _ _ ?_
      refine wp_block ?_
      refine wp_seq_k (fun K9 hK9 => ?_)
      refine wp_region_lit ?_
      refine sqv hf (r_eq rfl rfl) rfl rfl rfl ?_; clear hf fa; intro fa hf
      refine sqv hf (r_assign rfl) rfl rfl rfl ?_; clear hf fa; intro fa hf
      apply wpList_nil
      (try simp only [Exit.then, Exit.inBlock, ↓reduceIte, Nat.reduceEqDiff])
      refine hK9 _ _ ?_
      refine wp_cond_split (t := (decide (k = (0 : Int)))) (hf.ev rfl) (fun hqt26_1 => ?_) (fun hqt26_1 => ?_)
      · have hqt26_1b := hqt26_1
        try simp only [decide_eq_true_eq, Bool.and_eq_true, Bool.or_eq_true, Bool.not_eq_true', decide_eq_false_iff_not, ne_eq, Bool.not_eq_true] at hqt26_1
        refine wp_region_lit ?_
        refine sqv hf (r_move rfl) rfl rfl rfl ?_; clear hf fa; intro fa hf
        refine sqv hf (r_move rfl) rfl rfl rfl ?_; clear hf fa; intro fa hf
        refine sqv hf (r_move rfl) rfl rfl rfl ?_; clear hf fa; intro fa hf
        have hy1 : ((bitsK A 32))[i]? = some ((A).testBit i) := (bitsK_get (n := A) (k := 32) (i := i) (by omega))
        obtain ⟨ab1, aoff1, rfl, hlb1, hel1⟩ := RdS.at h1 hy1
        refine sqv hf (r_ixa (sz := 1) (j := i) rfl rfl Try.underlying162 (by kernel_rfl) rfl (by omega) rfl) rfl rfl rfl ?_; clear hf fa; intro fa hf
        refine sqv hf (r_load (v := (.bool ((A).testBit i))) rfl Try.underlying4 rfl (cellsAt_cell (cellsAt_below hel1 hb hlb1) (i := 0) rfl rfl)) rfl rfl rfl ?_; clear hf fa; intro fa hf
        refine sqv hf (r_move rfl) rfl rfl rfl ?_; clear hf fa; intro fa hf
        refine sqgT (act := ((A).testBit i)) (ag := true) (c := ((A).testBit i)) (v := (.slice a2 n2 c2)) hf rfl rfl rfl (fun hact => (r_move rfl)) rfl rfl ?_; clear hf fa; intro fa hf
        refine sqgT (act := ((A).testBit i)) (ag := true) (c := ((A).testBit i)) (v := (.int .i64 ((i : Nat) : Int))) hf rfl rfl rfl (fun hact => (r_move rfl)) rfl rfl ?_; clear hf fa; intro fa hf
        have hy2 : ((bitsK B 32))[i]? = some ((B).testBit i) := (bitsK_get (n := B) (k := 32) (i := i) (by omega))
        obtain ⟨ab2, aoff2, rfl, hlb2, hel2⟩ := RdS.at h2 hy2
        refine sqgT (act := ((A).testBit i)) (ag := true) (c := ((A).testBit i)) (v := (.pointer (some ⟨ab2, (aoff2 + i * 1), none⟩))) hf rfl rfl rfl (fun hact => (by have hact0 := hact; (try simp only [Bool.and_eq_true, Bool.not_eq_true', Bool.or_eq_false_iff, Bool.or_eq_true, Bool.and_eq_false_iff, ne_eq, decide_eq_true_eq, decide_eq_false_iff_not] at hact0); exact (r_ixa (sz := 1) (j := i) (gb_ev hact rfl) (gb_ev hact rfl) Try.underlying162 (by kernel_rfl) rfl (by omega) rfl))) rfl rfl ?_; clear hf fa; intro fa hf
        refine sqgT (act := ((A).testBit i)) (ag := true) (c := ((A).testBit i)) (v := (.bool ((B).testBit i))) hf rfl rfl rfl (fun hact => (r_load (v := (.bool ((B).testBit i))) (gb_ev hact rfl) Try.underlying4 rfl (cellsAt_cell (cellsAt_below hel2 hb hlb2) (i := 0) rfl rfl))) rfl rfl ?_; clear hf fa; intro fa hf
        refine sqv hf (r_pickA (b := ((A).testBit i)) (e := ((B).testBit i)) rfl rfl rfl) rfl rfl rfl ?_; clear hf fa; intro fa hf
        refine sqdt hf (d_bslice (z := (.bool false)) (sz := 1) (vs := [(0, (.bool (((A).testBit i) && ((B).testBit i))))]) (cs := #[(.bool (((A).testBit i) && ((B).testBit i)))]) rfl Try.underlying162 (by kernel_rfl) rfl (by kernel_rfl)) rfl rfl rfl ?_; clear hf fa; rintro fa _ w2 ⟨b1, rfl, hle1, hk1, he1⟩ hf
        have hBb1 : w.heap.size ≤ b1 := Nat.le_trans hb.size hle1
        replace hrw := Row.ext hrw he1
        replace hb := hb.trans (Below.mono he1 hb.size)
        have hs1 := Row.rd (by intros; rfl) (Row.of_new (k := 1) (V := vBool) (l := [(((A).testBit i) && ((B).testBit i))]) hk1 (Nat.le_refl _) rfl rfl (Nat.le_of_ble_eq_true rfl))
        refine sqdt hf (d_append (V := vBool) (k := 1) (e := 4) (bytes := 1) (z := (.bool false)) (news := [(((A).testBit i) && ((B).testBit i))]) (base := w.heap.size) (by intros; rfl) (by intro x u hu; simp only [vBool, List.mem_singleton] at hu; subst hu; rfl) rfl rfl Try.underlying162 (by kernel_rfl) rfl rfl rfl hrw hs1 rfl (fun h => by cases h) (by simp only [List.length_cons, List.length_nil, List.length_append]; omega) (by have := hb.size; omega)) rfl rfl rfl ?_; clear hf fa; rintro fa v w3 ⟨hr1, hg1⟩ hf; obtain ⟨ra1, rc1, rfl, hcrc1, hmrc1⟩ := Row.slice hr1
        replace hb := hb.trans (row_below hrw hg1 hb.size (by have := hb.size; omega))
        refine sqv hf (r_assign rfl) rfl rfl rfl ?_; clear hf fa; intro fa hf
        apply wpList_nil
        (try simp only [Exit.then, Exit.inBlock, ↓reduceIte, Nat.reduceEqDiff])
        refine hK7 _ _ ?_
        refine wp_region_lit ?_
        refine sqv hf (r_move rfl) rfl rfl rfl ?_; clear hf fa; intro fa hf
        refine sqv hf (r_add (C := (((i : Nat) : Int) + (1 : Int))) rfl rfl (by rw [IntKind.wrap_i64]; omega)) rfl rfl rfl ?_; clear hf fa; intro fa hf
        refine sqv hf (r_assign rfl) rfl rfl rfl ?_; clear hf fa; intro fa hf
        apply wpList_nil
        (try simp only [Exit.then, Exit.inBlock, ↓reduceIte, Nat.reduceEqDiff])
        refine hKL1 _ _ _ (by omega) ⟨(i + 1), ra1, rc1, rfl, hf.sub ⟨rfl, rfl, rfl, (some_int (by first | rfl | omega)), (some_sl (by simp <;> omega) rfl), trivial⟩, hb, (Row.tol hr1 (bits_snoc (by unfold bitN; rw [if_pos hqt26_1, Nat.testBit_and]))), by omega⟩
      · have hqt26_1b := hqt26_1
        replace hqt26_1 := Bool.eq_false_iff.1 hqt26_1
        try simp only [ne_eq, decide_eq_true_eq, Bool.and_eq_true, Bool.or_eq_true, Bool.not_eq_true', decide_eq_false_iff_not] at hqt26_1
        refine wp_seq_k (fun K10 hK10 => ?_)
        refine wp_region_lit ?_
        refine sqv hf (r_eq rfl rfl) rfl rfl rfl ?_; clear hf fa; intro fa hf
        refine sqv hf (r_assign rfl) rfl rfl rfl ?_; clear hf fa; intro fa hf
        apply wpList_nil
        (try simp only [Exit.then, Exit.inBlock, ↓reduceIte, Nat.reduceEqDiff])
        refine hK10 _ _ ?_
        refine wp_cond_split (t := (decide (k = (1 : Int)))) (hf.ev rfl) (fun hqt41_1 => ?_) (fun hqt41_1 => ?_)
        · have hqt41_1b := hqt41_1
          try simp only [decide_eq_true_eq, Bool.and_eq_true, Bool.or_eq_true, Bool.not_eq_true', decide_eq_false_iff_not, ne_eq, Bool.not_eq_true] at hqt41_1
          refine wp_region_lit ?_
          refine sqv hf (r_move rfl) rfl rfl rfl ?_; clear hf fa; intro fa hf
          refine sqv hf (r_move rfl) rfl rfl rfl ?_; clear hf fa; intro fa hf
          refine sqv hf (r_move rfl) rfl rfl rfl ?_; clear hf fa; intro fa hf
          have hy3 : ((bitsK A 32))[i]? = some ((A).testBit i) := (bitsK_get (n := A) (k := 32) (i := i) (by omega))
          obtain ⟨ab3, aoff3, rfl, hlb3, hel3⟩ := RdS.at h1 hy3
          refine sqv hf (r_ixa (sz := 1) (j := i) rfl rfl Try.underlying162 (by kernel_rfl) rfl (by omega) rfl) rfl rfl rfl ?_; clear hf fa; intro fa hf
          refine sqv hf (r_load (v := (.bool ((A).testBit i))) rfl Try.underlying4 rfl (cellsAt_cell (cellsAt_below hel3 hb hlb3) (i := 0) rfl rfl)) rfl rfl rfl ?_; clear hf fa; intro fa hf
          refine sqv hf (r_move rfl) rfl rfl rfl ?_; clear hf fa; intro fa hf
          refine sqgF (act := (!((A).testBit i))) (ag := true) (c := ((A).testBit i)) (v := (.slice a2 n2 c2)) hf rfl rfl rfl (fun hact => (r_move rfl)) rfl rfl ?_; clear hf fa; intro fa hf
          refine sqgF (act := (!((A).testBit i))) (ag := true) (c := ((A).testBit i)) (v := (.int .i64 ((i : Nat) : Int))) hf rfl rfl rfl (fun hact => (r_move rfl)) rfl rfl ?_; clear hf fa; intro fa hf
          have hy4 : ((bitsK B 32))[i]? = some ((B).testBit i) := (bitsK_get (n := B) (k := 32) (i := i) (by omega))
          obtain ⟨ab4, aoff4, rfl, hlb4, hel4⟩ := RdS.at h2 hy4
          refine sqgF (act := (!((A).testBit i))) (ag := true) (c := ((A).testBit i)) (v := (.pointer (some ⟨ab4, (aoff4 + i * 1), none⟩))) hf rfl rfl rfl (fun hact => (by have hact0 := hact; (try simp only [Bool.and_eq_true, Bool.not_eq_true', Bool.or_eq_false_iff, Bool.or_eq_true, Bool.and_eq_false_iff, ne_eq, decide_eq_true_eq, decide_eq_false_iff_not] at hact0); exact (r_ixa (sz := 1) (j := i) (gb_ev hact rfl) (gb_ev hact rfl) Try.underlying162 (by kernel_rfl) rfl (by omega) rfl))) rfl rfl ?_; clear hf fa; intro fa hf
          refine sqgF (act := (!((A).testBit i))) (ag := true) (c := ((A).testBit i)) (v := (.bool ((B).testBit i))) hf rfl rfl rfl (fun hact => (r_load (v := (.bool ((B).testBit i))) (gb_ev hact rfl) Try.underlying4 rfl (cellsAt_cell (cellsAt_below hel4 hb hlb4) (i := 0) rfl rfl))) rfl rfl ?_; clear hf fa; intro fa hf
          refine sqv hf (r_pickO (b := ((A).testBit i)) (e := ((B).testBit i)) rfl rfl rfl) rfl rfl rfl ?_; clear hf fa; intro fa hf
          refine sqdt hf (d_bslice (z := (.bool false)) (sz := 1) (vs := [(0, (.bool (((A).testBit i) || ((B).testBit i))))]) (cs := #[(.bool (((A).testBit i) || ((B).testBit i)))]) rfl Try.underlying162 (by kernel_rfl) rfl (by kernel_rfl)) rfl rfl rfl ?_; clear hf fa; rintro fa _ w4 ⟨b2, rfl, hle2, hk2, he2⟩ hf
          have hBb2 : w.heap.size ≤ b2 := Nat.le_trans hb.size hle2
          replace hrw := Row.ext hrw he2
          replace hb := hb.trans (Below.mono he2 hb.size)
          have hs2 := Row.rd (by intros; rfl) (Row.of_new (k := 1) (V := vBool) (l := [(((A).testBit i) || ((B).testBit i))]) hk2 (Nat.le_refl _) rfl rfl (Nat.le_of_ble_eq_true rfl))
          refine sqdt hf (d_append (V := vBool) (k := 1) (e := 4) (bytes := 1) (z := (.bool false)) (news := [(((A).testBit i) || ((B).testBit i))]) (base := w.heap.size) (by intros; rfl) (by intro x u hu; simp only [vBool, List.mem_singleton] at hu; subst hu; rfl) rfl rfl Try.underlying162 (by kernel_rfl) rfl rfl rfl hrw hs2 rfl (fun h => by cases h) (by simp only [List.length_cons, List.length_nil, List.length_append]; omega) (by have := hb.size; omega)) rfl rfl rfl ?_; clear hf fa; rintro fa v w5 ⟨hr2, hg2⟩ hf; obtain ⟨ra2, rc2, rfl, hcrc2, hmrc2⟩ := Row.slice hr2
          replace hb := hb.trans (row_below hrw hg2 hb.size (by have := hb.size; omega))
          refine sqv hf (r_assign rfl) rfl rfl rfl ?_; clear hf fa; intro fa hf
          apply wpList_nil
          (try simp only [Exit.then, Exit.inBlock, ↓reduceIte, Nat.reduceEqDiff])
          refine hK7 _ _ ?_
          refine wp_region_lit ?_
          refine sqv hf (r_move rfl) rfl rfl rfl ?_; clear hf fa; intro fa hf
          refine sqv hf (r_add (C := (((i : Nat) : Int) + (1 : Int))) rfl rfl (by rw [IntKind.wrap_i64]; omega)) rfl rfl rfl ?_; clear hf fa; intro fa hf
          refine sqv hf (r_assign rfl) rfl rfl rfl ?_; clear hf fa; intro fa hf
          apply wpList_nil
          (try simp only [Exit.then, Exit.inBlock, ↓reduceIte, Nat.reduceEqDiff])
          refine hKL1 _ _ _ (by omega) ⟨(i + 1), ra2, rc2, rfl, hf.sub ⟨rfl, rfl, rfl, (some_int (by first | rfl | omega)), (some_sl (by simp <;> omega) rfl), trivial⟩, hb, (Row.tol hr2 (bits_snoc (by unfold bitN; rw [if_neg hqt26_1, if_pos hqt41_1, Nat.testBit_or]))), by omega⟩
        · have hqt41_1b := hqt41_1
          replace hqt41_1 := Bool.eq_false_iff.1 hqt41_1
          try simp only [ne_eq, decide_eq_true_eq, Bool.and_eq_true, Bool.or_eq_true, Bool.not_eq_true', decide_eq_false_iff_not] at hqt41_1
          have hy5 : ((bitsK A 32))[i]? = some ((A).testBit i) := (bitsK_get (n := A) (k := 32) (i := i) (by omega))
          obtain ⟨ab5, aoff5, rfl, hlb5, hel5⟩ := RdS.at h1 hy5
          have hy6 : ((bitsK B 32))[i]? = some ((B).testBit i) := (bitsK_get (n := B) (k := 32) (i := i) (by omega))
          obtain ⟨ab6, aoff6, rfl, hlb6, hel6⟩ := RdS.at h2 hy6
          refine wp_region_unT 11 (fun wq => Below w1.heap.size w1 wq) (fun w w' => Below w.heap.size w w')
            (fun V => [(fun x _ => x = (.slice rwa (((bitsK (bitN k A B) i)).length) rwc)), (fun x _ => x = (.slice (some ⟨ab5, aoff5, none⟩) n1 c1)), (fun x _ => x = (.int .i64 ((i : Nat) : Int))), (fun x _ => x = (.pointer (some ⟨ab5, (aoff5 + i * 1), none⟩))), (fun x _ => x = (.bool ((A).testBit i))), (fun x _ => x = (.slice (some ⟨ab6, aoff6, none⟩) n2 c2)), (fun x _ => x = (.int .i64 ((i : Nat) : Int))), (fun x _ => x = (.pointer (some ⟨ab6, (aoff6 + i * 1), none⟩))), (fun x _ => x = (.bool ((B).testBit i))), (fun x _ => x = (.bool (!(((A).testBit i) == ((B).testBit i))))), (fun x wq => ∃ b, x = .slice (some ⟨b, 0, none⟩) 1 1 ∧ w1.heap.size ≤ b ∧ wq.heap[b]? = some (.cells #[(.bool (!(((A).testBit i) == ((B).testBit i))))] 4 (0, 0)))])
            [10]
            [[], [], [], [1, 2], [3], [], [], [5, 6], [7], [4, 8], [9], [], []]
            hf (by kernel_rfl) (by kernel_rfl) (by kernel_rfl) (fun _ => rfl) ((Below.refl _ _).drew) (fun a b h1 h2 => h1.trans (h2.mono h1.size)) (fun _ _ h => h.size) (fun V => ⟨kept_eq, kept_eq, kept_eq, kept_eq, kept_eq, kept_eq, kept_eq, kept_eq, kept_eq, kept_eq, keptB, trivial⟩) (fun _ _ _ _ _ => rfl) ?_ ?_
          · skip
            intro V
            refine ⟨fun wu0 hC hd => ?_, ?_⟩
            · clear hd
              replace hb := hb.trans (hC.mono hb.size)
              replace hrw := Row.ext hrw hC
              exact Runs.does (r_move rfl) ⟨Below.refl _ _, rfl, nofr rfl⟩
            refine ⟨fun wu1 hC hd => ?_, ?_⟩
            · clear hd
              replace hb := hb.trans (hC.mono hb.size)
              replace hrw := Row.ext hrw hC
              exact Runs.does (r_move rfl) ⟨Below.refl _ _, rfl, nofr rfl⟩
            refine ⟨fun wu2 hC hd => ?_, ?_⟩
            · clear hd
              replace hb := hb.trans (hC.mono hb.size)
              replace hrw := Row.ext hrw hC
              exact Runs.does (r_move rfl) ⟨Below.refl _ _, rfl, nofr rfl⟩
            refine ⟨fun wu3 hC hd => ?_, ?_⟩
            · obtain ⟨h1, h2, _⟩ := hd
              skip
              skip
              replace h1 : V 1 = (.slice (some ⟨ab5, aoff5, none⟩) n1 c1) := h1
              replace h2 : V 2 = (.int .i64 ((i : Nat) : Int)) := h2
              replace hb := hb.trans (hC.mono hb.size)
              replace hrw := Row.ext hrw hC
              exact Runs.does (r_ixa (sz := 1) (j := i) (congrArg some h1) (congrArg some h2) Try.underlying162 (by kernel_rfl) rfl (by omega) rfl) ⟨Below.refl _ _, rfl, nofr rfl⟩
            refine ⟨fun wu4 hC hd => ?_, ?_⟩
            · obtain ⟨h3, _⟩ := hd
              skip
              replace h3 : V 3 = (.pointer (some ⟨ab5, (aoff5 + i * 1), none⟩)) := h3
              replace hb := hb.trans (hC.mono hb.size)
              replace hrw := Row.ext hrw hC
              exact Runs.does (r_load (v := (.bool ((A).testBit i))) (congrArg some h3) Try.underlying4 rfl (cellsAt_cell (cellsAt_below hel5 hb hlb5) (i := 0) rfl rfl)) ⟨Below.refl _ _, rfl, nofr rfl⟩
            refine ⟨fun wu5 hC hd => ?_, ?_⟩
            · clear hd
              replace hb := hb.trans (hC.mono hb.size)
              replace hrw := Row.ext hrw hC
              exact Runs.does (r_move rfl) ⟨Below.refl _ _, rfl, nofr rfl⟩
            refine ⟨fun wu6 hC hd => ?_, ?_⟩
            · clear hd
              replace hb := hb.trans (hC.mono hb.size)
              replace hrw := Row.ext hrw hC
              exact Runs.does (r_move rfl) ⟨Below.refl _ _, rfl, nofr rfl⟩
            refine ⟨fun wu7 hC hd => ?_, ?_⟩
            · obtain ⟨h5, h6, _⟩ := hd
              skip
              skip
              replace h5 : V 5 = (.slice (some ⟨ab6, aoff6, none⟩) n2 c2) := h5
              replace h6 : V 6 = (.int .i64 ((i : Nat) : Int)) := h6
              replace hb := hb.trans (hC.mono hb.size)
              replace hrw := Row.ext hrw hC
              exact Runs.does (r_ixa (sz := 1) (j := i) (congrArg some h5) (congrArg some h6) Try.underlying162 (by kernel_rfl) rfl (by omega) rfl) ⟨Below.refl _ _, rfl, nofr rfl⟩
            refine ⟨fun wu8 hC hd => ?_, ?_⟩
            · obtain ⟨h7, _⟩ := hd
              skip
              replace h7 : V 7 = (.pointer (some ⟨ab6, (aoff6 + i * 1), none⟩)) := h7
              replace hb := hb.trans (hC.mono hb.size)
              replace hrw := Row.ext hrw hC
              exact Runs.does (r_load (v := (.bool ((B).testBit i))) (congrArg some h7) Try.underlying4 rfl (cellsAt_cell (cellsAt_below hel6 hb hlb6) (i := 0) rfl rfl)) ⟨Below.refl _ _, rfl, nofr rfl⟩
            refine ⟨fun wu9 hC hd => ?_, ?_⟩
            · obtain ⟨h4, h8, _⟩ := hd
              skip
              skip
              replace h4 : V 4 = (.bool ((A).testBit i)) := h4
              replace h8 : V 8 = (.bool ((B).testBit i)) := h8
              replace hb := hb.trans (hC.mono hb.size)
              replace hrw := Row.ext hrw hC
              exact Runs.does (r_bne Try.underlying4 (congrArg some h4) (congrArg some h8)) ⟨Below.refl _ _, rfl, nofr rfl⟩
            refine ⟨fun wu10 hC hd => ?_, ?_⟩
            · obtain ⟨h9, _⟩ := hd
              skip
              replace h9 : V 9 = (.bool (!(((A).testBit i) == ((B).testBit i)))) := h9
              replace hb := hb.trans (hC.mono hb.size)
              replace hrw := Row.ext hrw hC
              refine Does.mono (d_bslice (z := (.bool false)) (sz := 1) (vs := [(0, (.bool (!(((A).testBit i) == ((B).testBit i)))))]) (cs := #[(.bool (!(((A).testBit i) == ((B).testBit i))))]) (show [(0, some (V 9))] = [(0, some (.bool (!(((A).testBit i) == ((B).testBit i)))))] from by rw [h9]) Try.underlying162 (by kernel_rfl) rfl (by kernel_rfl)) ?_
              rintro _ w' ⟨b, rfl, hF⟩
              exact ⟨hF.2.2, ⟨b, rfl, Nat.le_trans hC.size hF.1, hF.2.1⟩, isfr rfl hF.1 (blk_lt hF.2.1)⟩
            trivial
          · skip
            clear hf fa; intro V w6 fa he3 hp hnb hf
            have hv0 : V 0 = (.slice rwa (((bitsK (bitN k A B) i)).length) rwc) := postsHold_at hp 0 rfl
            have hv1 : V 1 = (.slice (some ⟨ab5, aoff5, none⟩) n1 c1) := postsHold_at hp 1 rfl
            have hv2 : V 2 = (.int .i64 ((i : Nat) : Int)) := postsHold_at hp 2 rfl
            have hv3 : V 3 = (.pointer (some ⟨ab5, (aoff5 + i * 1), none⟩)) := postsHold_at hp 3 rfl
            have hv4 : V 4 = (.bool ((A).testBit i)) := postsHold_at hp 4 rfl
            have hv5 : V 5 = (.slice (some ⟨ab6, aoff6, none⟩) n2 c2) := postsHold_at hp 5 rfl
            have hv6 : V 6 = (.int .i64 ((i : Nat) : Int)) := postsHold_at hp 6 rfl
            have hv7 : V 7 = (.pointer (some ⟨ab6, (aoff6 + i * 1), none⟩)) := postsHold_at hp 7 rfl
            have hv8 : V 8 = (.bool ((B).testBit i)) := postsHold_at hp 8 rfl
            have hv9 : V 9 = (.bool (!(((A).testBit i) == ((B).testBit i)))) := postsHold_at hp 9 rfl
            have hv10 := postsHold_at hp 10 rfl
            obtain ⟨b3, hv10, hle3, hk3⟩ := hv10
            have hBb3 : w.heap.size ≤ b3 := Nat.le_trans hb.size hle3
            simp only [List.take_succ_cons, List.take_zero, insAll, ins, hv0, hv1, hv2, hv3, hv4, hv5, hv6, hv7, hv8, hv9, hv10] at hf
            clear hp hnb hv0 hv1 hv2 hv3 hv4 hv5 hv6 hv7 hv8 hv9 hv10
            replace hrw := Row.ext hrw he3
            replace hb := hb.trans (Below.mono he3 hb.size)
            simp only [List.drop_succ_cons, List.drop_zero]
            have hs3 := Row.rd (by intros; rfl) (Row.of_new (k := 1) (V := vBool) (l := [(!(((A).testBit i) == ((B).testBit i)))]) hk3 (Nat.le_refl _) rfl rfl (Nat.le_of_ble_eq_true rfl))
            refine sqdt hf (d_append (V := vBool) (k := 1) (e := 4) (bytes := 1) (z := (.bool false)) (news := [(!(((A).testBit i) == ((B).testBit i)))]) (base := w.heap.size) (by intros; rfl) (by intro x u hu; simp only [vBool, List.mem_singleton] at hu; subst hu; rfl) rfl rfl Try.underlying162 (by kernel_rfl) rfl rfl rfl hrw hs3 rfl (fun h => by cases h) (by simp only [List.length_cons, List.length_nil, List.length_append]; omega) (by have := hb.size; omega)) rfl rfl rfl ?_; clear hf fa; rintro fa v w7 ⟨hr3, hg3⟩ hf; obtain ⟨ra3, rc3, rfl, hcrc3, hmrc3⟩ := Row.slice hr3
            replace hb := hb.trans (row_below hrw hg3 hb.size (by have := hb.size; omega))
            refine sqv hf (r_assign rfl) rfl rfl rfl ?_; clear hf fa; intro fa hf
            apply wpList_nil
            (try simp only [Exit.then, Exit.inBlock, ↓reduceIte, Nat.reduceEqDiff])
            refine hK7 _ _ ?_
            refine wp_region_lit ?_
            refine sqv hf (r_move rfl) rfl rfl rfl ?_; clear hf fa; intro fa hf
            refine sqv hf (r_add (C := (((i : Nat) : Int) + (1 : Int))) rfl rfl (by rw [IntKind.wrap_i64]; omega)) rfl rfl rfl ?_; clear hf fa; intro fa hf
            refine sqv hf (r_assign rfl) rfl rfl rfl ?_; clear hf fa; intro fa hf
            apply wpList_nil
            (try simp only [Exit.then, Exit.inBlock, ↓reduceIte, Nat.reduceEqDiff])
            refine hKL1 _ _ _ (by omega) ⟨(i + 1), ra3, rc3, rfl, hf.sub ⟨rfl, rfl, rfl, (some_int (by first | rfl | omega)), (some_sl (by simp <;> omega) rfl), trivial⟩, hb, (Row.tol hr3 (bits_snoc (by unfold bitN; rw [if_neg hqt26_1, if_neg hqt41_1, Nat.testBit_xor]; cases A.testBit i <;> cases B.testBit i <;> rfl))), by omega⟩
    · have hqt10_1b := hqt10_1
      replace hqt10_1 := Bool.eq_false_iff.1 hqt10_1
      try simp only [ne_eq, decide_eq_true_eq, Bool.and_eq_true, Bool.or_eq_true, Bool.not_eq_true', decide_eq_false_iff_not] at hqt10_1
      refine wp_exit ?_
      (try simp only [Exit.then, Exit.inBlock, ↓reduceIte, Nat.reduceEqDiff])
      refine hK3 _ _ ?_
      refine wp_seq_k (fun K11 hK11 => ?_)
      obtain rfl : i = 32 := by omega
      refine wp_region_lit ?_
      refine sqv hf (r_move rfl) rfl rfl rfl ?_; clear hf fa; intro fa hf
      refine sqdt hf (d_callB (vs := [(.slice rwa ((bitsK (bitN k A B) 32).length) rwc)]) rfl Try.func82 (by kernel_rfl) (by kernel_rfl) (number_any (bitN k A B) _ _ _ _ (bitN_lt hA hB) (Row.rd (by intros; rfl) hrw) (by first | rfl | assumption | simp))) rfl rfl rfl ?_; clear hf fa; rintro fa _ w8 ⟨rfl, he4⟩ hf
      replace hrw := Row.ext hrw he4
      replace hb := hb.trans (Below.mono he4 hb.size)
      refine sqv hf (r_assign rfl) rfl rfl rfl ?_; clear hf fa; intro fa hf
      apply wpList_nil
      (try simp only [Exit.then, Exit.inBlock, ↓reduceIte, Nat.reduceEqDiff])
      refine hK11 _ _ ?_
      refine wp_ret ?_
      (try simp only [Exit.then, Exit.inBlock])
      refine ret1 hf rfl rfl ?_
      exact ⟨rfl, hb⟩

set_option maxHeartbeats 1000000 in
set_option maxRecDepth 100000 in
theorem rcompare_any (o : Int) (A B : Nat) (w : World) (ho : 0 ≤ o ∧ o < 256) (hA : A < 4294967296) (hB : B < 4294967296) : Calls Try.prog 80 #[(.int .i64 o), (.int .u64 ((A : Nat) : Int)), (.int .u64 ((B : Nat) : Int))] w fun e w' => e = .returned (.tuple #[.int .u64 (rcmpP (o - 69 - 1) A B).1, .bool (rcmpP (o - 69 - 1) A B).2]) ∧ Below w.heap.size w w' := by
  refine sx_enter (L := [(0, (.int .i64 o)), (1, (.int .u64 ((A : Nat) : Int))), (2, (.int .u64 ((B : Nat) : Int)))]) Try.func80 rfl rfl rfl rfl (fun fa hf => ?_)
  have hb : Below w.heap.size w w := Below.refl _ _
  refine wp_seq_k (fun K1 hK1 => ?_)
  refine wp_region_lit ?_
  refine sqv hf (r_assign rfl) rfl rfl rfl ?_; clear hf fa; intro fa hf
  refine sqv hf (r_assign rfl) rfl rfl rfl ?_; clear hf fa; intro fa hf
  apply wpList_nil
  (try simp only [Exit.then, Exit.inBlock, ↓reduceIte, Nat.reduceEqDiff])
  refine hK1 _ _ ?_
  refine wp_seq_k (fun K2 hK2 => ?_)
  refine wp_region_lit ?_
  refine sqv hf (r_move rfl) rfl rfl rfl ?_; clear hf fa; intro fa hf
  refine sqdt hf (d_callX (vs := [(.int .u64 ((A : Nat) : Int))]) rfl Try.func81 (by kernel_rfl) (by kernel_rfl) (bits_any A _ (by omega))) rfl rfl rfl ?_; clear hf fa; rintro fa v w1 ⟨hr1, he1⟩ hf; obtain ⟨ra1, rc1, rfl, hcrc1, hmrc1⟩ := Row.slice hr1
  replace hr1 := Row.rebase hr1 hb.size
  replace hb := hb.trans (Below.mono he1 hb.size)
  have := bitsK_length A 32
  refine sqv hf (r_move rfl) rfl rfl rfl ?_; clear hf fa; intro fa hf
  refine sqdt hf (d_callX (vs := [(.int .u64 ((B : Nat) : Int))]) rfl Try.func81 (by kernel_rfl) (by kernel_rfl) (bits_any B _ (by omega))) rfl rfl rfl ?_; clear hf fa; rintro fa v w2 ⟨hr2, he2⟩ hf; obtain ⟨ra2, rc2, rfl, hcrc2, hmrc2⟩ := Row.slice hr2
  replace hr2 := Row.rebase hr2 hb.size
  replace hr1 := Row.ext hr1 he2
  replace hb := hb.trans (Below.mono he2 hb.size)
  have := bitsK_length B 32
  refine sqv hf (r_assign rfl) rfl rfl rfl ?_; clear hf fa; intro fa hf
  refine sqv hf (r_assign rfl) rfl rfl rfl ?_; clear hf fa; intro fa hf
  apply wpList_nil
  (try simp only [Exit.then, Exit.inBlock, ↓reduceIte, Nat.reduceEqDiff])
  refine hK2 _ _ ?_
  refine wp_seq_k (fun K3 hK3 => ?_)
  refine wp_region_lit ?_
  refine sqv hf (r_move rfl) rfl rfl rfl ?_; clear hf fa; intro fa hf
  refine sqv hf (r_sub (C := (o - (69 : Int))) rfl rfl (by rw [IntKind.wrap_i64]; omega)) rfl rfl rfl ?_; clear hf fa; intro fa hf
  refine sqv hf (r_sub (C := ((o - 69 - 1))) rfl rfl (by rw [IntKind.wrap_i64]; omega)) rfl rfl rfl ?_; clear hf fa; intro fa hf
  refine sqv hf (r_assign rfl) rfl rfl rfl ?_; clear hf fa; intro fa hf
  apply wpList_nil
  (try simp only [Exit.then, Exit.inBlock, ↓reduceIte, Nat.reduceEqDiff])
  refine hK3 _ _ ?_
  refine wp_seq_k (fun K4 hK4 => ?_)
  refine wp_seq_k (fun K5 hK5 => ?_)
  refine wp_region_lit ?_
  refine sqv hf (r_move rfl) rfl rfl rfl ?_; clear hf fa; intro fa hf
  refine sqv hf (r_lt rfl rfl) rfl rfl rfl ?_; clear hf fa; intro fa hf
  refine sqv hf (r_move rfl) rfl rfl rfl ?_; clear hf fa; intro fa hf
  refine sqgF (act := (!(decide (((o - 69 - 1)) < (0 : Int))))) (ag := true) (c := (decide (((o - 69 - 1)) < (0 : Int)))) (v := (.int .i64 ((o - 69 - 1)))) hf rfl rfl rfl (fun hact => (r_move rfl)) rfl rfl ?_; clear hf fa; intro fa hf
  refine sqgF (act := (!(decide (((o - 69 - 1)) < (0 : Int))))) (ag := true) (c := (decide (((o - 69 - 1)) < (0 : Int)))) (v := (.bool (decide ((9 : Int) < ((o - 69 - 1)))))) hf rfl rfl rfl (fun hact => (r_gt (gb_ev hact rfl) rfl)) rfl rfl ?_; clear hf fa; intro fa hf
  refine sqv hf (r_pickO (b := (decide (((o - 69 - 1)) < (0 : Int)))) (e := (decide ((9 : Int) < ((o - 69 - 1))))) rfl rfl rfl) rfl rfl rfl ?_; clear hf fa; intro fa hf
  apply wpList_nil
  (try simp only [Exit.then, Exit.inBlock, ↓reduceIte, Nat.reduceEqDiff])
  refine hK5 _ _ ?_
  refine wp_cond_split (t := ((decide (((o - 69 - 1)) < (0 : Int))) || (decide ((9 : Int) < ((o - 69 - 1)))))) (hf.ev rfl) (fun hqt25_1 => ?_) (fun hqt25_1 => ?_)
  · have hqt25_1b := hqt25_1
    try simp only [decide_eq_true_eq, Bool.and_eq_true, Bool.or_eq_true, Bool.not_eq_true', decide_eq_false_iff_not, ne_eq, Bool.not_eq_true] at hqt25_1
    refine wp_seq_k (fun K6 hK6 => ?_)
    refine wp_region_lit ?_
    refine sqv hf (r_assign rfl) rfl rfl rfl ?_; clear hf fa; intro fa hf
    refine sqv hf (r_assign rfl) rfl rfl rfl ?_; clear hf fa; intro fa hf
    apply wpList_nil
    (try simp only [Exit.then, Exit.inBlock, ↓reduceIte, Nat.reduceEqDiff])
    refine hK6 _ _ ?_
    refine wp_ret ?_
    (try simp only [Exit.then, Exit.inBlock])
    refine ret2 hf rfl rfl rfl ?_
    refine ⟨?_, hb⟩; unfold rcmpP; rw [if_pos hqt25_1]
  · have hqt25_1b := hqt25_1
    replace hqt25_1 := Bool.eq_false_iff.1 hqt25_1
    try simp only [ne_eq, decide_eq_true_eq, Bool.and_eq_true, Bool.or_eq_true, Bool.not_eq_true', decide_eq_false_iff_not] at hqt25_1
    refine wp_skip ?_
    (try simp only [Exit.then, Exit.inBlock, ↓reduceIte, Nat.reduceEqDiff])
    refine hK4 _ _ ?_
    refine wp_seq_k (fun K7 hK7 => ?_)
    refine wp_region_lit ?_
    refine sqv hf (r_move rfl) rfl rfl rfl ?_; clear hf fa; intro fa hf
    refine sqdt hf (d_callB (vs := [(.slice ra1 (((bitsK A 32)).length) rc1)]) rfl Try.func82 (by kernel_rfl) (by kernel_rfl) (number_any A _ _ _ _ (by omega) (Row.rd (by intros; rfl) hr1) (by first | rfl | assumption | simp))) rfl rfl rfl ?_; clear hf fa; rintro fa _ w3 ⟨rfl, he3⟩ hf
    replace hr1 := Row.ext hr1 he3
    replace hr2 := Row.ext hr2 he3
    replace hb := hb.trans (Below.mono he3 hb.size)
    refine sqv hf (r_move rfl) rfl rfl rfl ?_; clear hf fa; intro fa hf
    refine sqdt hf (d_callB (vs := [(.slice ra2 (((bitsK B 32)).length) rc2)]) rfl Try.func82 (by kernel_rfl) (by kernel_rfl) (number_any B _ _ _ _ (by omega) (Row.rd (by intros; rfl) hr2) (by first | rfl | assumption | simp))) rfl rfl rfl ?_; clear hf fa; rintro fa _ w4 ⟨rfl, he4⟩ hf
    replace hr1 := Row.ext hr1 he4
    replace hr2 := Row.ext hr2 he4
    replace hb := hb.trans (Below.mono he4 hb.size)
    refine sqv hf (r_eq rfl rfl) rfl rfl rfl ?_; clear hf fa; intro fa hf
    refine sqv hf (r_assign rfl) rfl rfl rfl ?_; clear hf fa; intro fa hf
    apply wpList_nil
    (try simp only [Exit.then, Exit.inBlock, ↓reduceIte, Nat.reduceEqDiff])
    refine hK7 _ _ ?_
    refine wp_seq_k (fun K8 hK8 => ?_)
    refine wp_seq_k (fun K9 hK9 => ?_)
    refine wp_region_lit ?_
    refine sqv hf (r_move rfl) rfl rfl rfl ?_; clear hf fa; intro fa hf
    refine sqv hf (r_lt rfl rfl) rfl rfl rfl ?_; clear hf fa; intro fa hf
    apply wpList_nil
    (try simp only [Exit.then, Exit.inBlock, ↓reduceIte, Nat.reduceEqDiff])
    refine hK9 _ _ ?_
    refine wp_cond_split (t := (decide (((o - 69 - 1)) < (2 : Int)))) (hf.ev rfl) (fun hqt32_1 => ?_) (fun hqt32_1 => ?_)
    · have hqt32_1b := hqt32_1
      try simp only [decide_eq_true_eq, Bool.and_eq_true, Bool.or_eq_true, Bool.not_eq_true', decide_eq_false_iff_not, ne_eq, Bool.not_eq_true] at hqt32_1
      refine wp_seq_k (fun K10 hK10 => ?_)
      refine wp_region_lit ?_
      refine sqv hf (r_move rfl) rfl rfl rfl ?_; clear hf fa; intro fa hf
      refine sqv hf (r_move rfl) rfl rfl rfl ?_; clear hf fa; intro fa hf
      refine sqv hf (r_eq rfl rfl) rfl rfl rfl ?_; clear hf fa; intro fa hf
      refine sqv hf (r_beq Try.underlying4 rfl rfl) rfl rfl rfl ?_; clear hf fa; intro fa hf
      refine sqdt hf (d_callS (vs := [(.bool ((decide (((A : Nat) : Int) = ((B : Nat) : Int))) == (decide (((o - 69 - 1)) = (0 : Int)))))]) rfl Try.func95 (by kernel_rfl) (by kernel_rfl) (rtruth_any ((decide (((A : Nat) : Int) = ((B : Nat) : Int))) == (decide (((o - 69 - 1)) = (0 : Int)))) _)) rfl rfl rfl ?_; clear hf fa; rintro fa _ _ ⟨rfl, rfl⟩ hf
      refine sqv hf (r_assign rfl) rfl rfl rfl ?_; clear hf fa; intro fa hf
      refine sqv hf (r_assign rfl) rfl rfl rfl ?_; clear hf fa; intro fa hf
      apply wpList_nil
      (try simp only [Exit.then, Exit.inBlock, ↓reduceIte, Nat.reduceEqDiff])
      refine hK10 _ _ ?_
      refine wp_ret ?_
      (try simp only [Exit.then, Exit.inBlock])
      refine ret2 hf rfl rfl rfl ?_
      refine ⟨?_, hb⟩; unfold rcmpP; rw [if_neg hqt25_1, if_pos hqt32_1]
    · have hqt32_1b := hqt32_1
      replace hqt32_1 := Bool.eq_false_iff.1 hqt32_1
      try simp only [ne_eq, decide_eq_true_eq, Bool.and_eq_true, Bool.or_eq_true, Bool.not_eq_true', decide_eq_false_iff_not] at hqt32_1
      refine wp_skip ?_
      (try simp only [Exit.then, Exit.inBlock, ↓reduceIte, Nat.reduceEqDiff])
      refine hK8 _ _ ?_
      refine wp_seq_k (fun K11 hK11 => ?_)
      refine wp_region_lit ?_
      refine sqv hf (r_move rfl) rfl rfl rfl ?_; clear hf fa; intro fa hf
      refine sqv hf (r_move rfl) rfl rfl rfl ?_; clear hf fa; intro fa hf
      refine sqdt hf (d_callB (vs := [(.slice ra1 (((bitsK A 32)).length) rc1), (.slice ra2 (((bitsK B 32)).length) rc2)]) rfl Try.func96 (by kernel_rfl) (by kernel_rfl) (rless_any A B _ _ _ _ _ _ _ (by omega) (by omega) (Row.rd (by intros; rfl) hr1) (by first | rfl | assumption | simp) (Row.rd (by intros; rfl) hr2) (by first | rfl | assumption | simp))) rfl rfl rfl ?_; clear hf fa; rintro fa _ w5 ⟨rfl, he5⟩ hf
      replace hr1 := Row.ext hr1 he5
      replace hr2 := Row.ext hr2 he5
      replace hb := hb.trans (Below.mono he5 hb.size)
      refine sqv hf (r_assign rfl) rfl rfl rfl ?_; clear hf fa; intro fa hf
      apply wpList_nil
      (try simp only [Exit.then, Exit.inBlock, ↓reduceIte, Nat.reduceEqDiff])
      refine hK11 _ _ ?_
      refine wp_seq_k (fun K12 hK12 => ?_)
      refine wp_seq_k (fun K13 hK13 => ?_)
      obtain ⟨rb1, rfl, hbbrb1, hlbrb1⟩ := Row.some hr1 (by first | omega | (simp only [bitsK_length, List.length_set, List.length_take, List.length_append, List.length_replicate, List.length_cons, List.length_nil]; omega))
      have hy1 : ((bitsK A 32))[31]? = some ((A).testBit 31) := (bitsK_get (n := A) (k := 32) (i := 31) (by omega))
      have hel1 := RdS.at (Row.rd (by intros; rfl) hr1) hy1
      obtain ⟨_, _, hab, hlr1, hel1⟩ := hel1
      cases hab
      obtain ⟨rb2, rfl, hbbrb2, hlbrb2⟩ := Row.some hr2 (by first | omega | (simp only [bitsK_length, List.length_set, List.length_take, List.length_append, List.length_replicate, List.length_cons, List.length_nil]; omega))
      have hy2 : ((bitsK B 32))[31]? = some ((B).testBit 31) := (bitsK_get (n := B) (k := 32) (i := 31) (by omega))
      have hel2 := RdS.at (Row.rd (by intros; rfl) hr2) hy2
      obtain ⟨_, _, hab, hlr2, hel2⟩ := hel2
      cases hab
      refine wp_region_un (fun wq => Below w5.heap.size w5 wq) (fun w w' => Below w.heap.size w w')
        (fun V => [(fun x _ => x = (.int .i64 ((o - 69 - 1)))), (fun x _ => x = (.int .i64 (((o - 69 - 1)) % (2 : Int)))), (fun x _ => x = (.bool (decide ((((o - 69 - 1)) % (2 : Int)) = (0 : Int))))), (fun x _ => x = (.bool (decide ((((o - 69 - 1)) % (2 : Int)) = (0 : Int))))), (fun x _ => x = (gb (decide ((((o - 69 - 1)) % (2 : Int)) = (0 : Int))) (.slice (some ⟨rb1, 0, none⟩) (((bitsK A 32)).length) rc1))), (fun x _ => x = (gb (decide ((((o - 69 - 1)) % (2 : Int)) = (0 : Int))) (.pointer (some ⟨rb1, (0 + 31 * 1), none⟩)))), (fun x _ => x = (gb (decide ((((o - 69 - 1)) % (2 : Int)) = (0 : Int))) (.bool ((A).testBit 31)))), (fun x _ => x = (gb (decide ((((o - 69 - 1)) % (2 : Int)) = (0 : Int))) (.slice (some ⟨rb2, 0, none⟩) (((bitsK B 32)).length) rc2))), (fun x _ => x = (gb (decide ((((o - 69 - 1)) % (2 : Int)) = (0 : Int))) (.pointer (some ⟨rb2, (0 + 31 * 1), none⟩)))), (fun x _ => x = (gb (decide ((((o - 69 - 1)) % (2 : Int)) = (0 : Int))) (.bool ((B).testBit 31)))), (fun x _ => x = (gb (decide ((((o - 69 - 1)) % (2 : Int)) = (0 : Int))) (.bool (!(((A).testBit 31) == ((B).testBit 31)))))), (fun x _ => x = (.bool ((decide ((((o - 69 - 1)) % (2 : Int)) = (0 : Int))) && (!(((A).testBit 31) == ((B).testBit 31))))))])
        []
        [[], [0], [1], [2], [3], [3, 4], [3, 5], [3], [3, 7], [3, 8], [3, 6, 9], [3, 10]]
        hf (by kernel_rfl) (by kernel_rfl) (fun _ => rfl) ((Below.refl _ _).drew) (fun a b h1 h2 => h1.trans (h2.mono h1.size)) (fun _ _ h => h.size) (fun V => ⟨kept_eq, kept_eq, kept_eq, kept_eq, kept_eq, kept_eq, kept_eq, kept_eq, kept_eq, kept_eq, kept_eq, kept_eq, trivial⟩) (fun _ _ _ _ _ => rfl) ?_ ?_
      · skip
        intro V
        refine ⟨fun wu0 hC hd => ?_, ?_⟩
        · clear hd
          replace hb := hb.trans (hC.mono hb.size)
          replace hr1 := Row.ext hr1 hC
          replace hr2 := Row.ext hr2 hC
          exact Runs.does (r_move rfl) ⟨Below.refl _ _, rfl, nofr rfl⟩
        refine ⟨fun wu1 hC hd => ?_, ?_⟩
        · obtain ⟨h0, _⟩ := hd
          skip
          replace h0 : V 0 = (.int .i64 ((o - 69 - 1))) := h0
          replace hb := hb.trans (hC.mono hb.size)
          replace hr1 := Row.ext hr1 hC
          replace hr2 := Row.ext hr2 hC
          exact Runs.does (r_rem (C := (((o - 69 - 1)) % (2 : Int))) (congrArg some h0) rfl (by omega) (Int.tmod_eq_emod_of_nonneg (by omega))) ⟨Below.refl _ _, rfl, nofr rfl⟩
        refine ⟨fun wu2 hC hd => ?_, ?_⟩
        · obtain ⟨h1, _⟩ := hd
          skip
          replace h1 : V 1 = (.int .i64 (((o - 69 - 1)) % (2 : Int))) := h1
          replace hb := hb.trans (hC.mono hb.size)
          replace hr1 := Row.ext hr1 hC
          replace hr2 := Row.ext hr2 hC
          exact Runs.does (r_eq (congrArg some h1) rfl) ⟨Below.refl _ _, rfl, nofr rfl⟩
        refine ⟨fun wu3 hC hd => ?_, ?_⟩
        · obtain ⟨h2, _⟩ := hd
          skip
          replace h2 : V 2 = (.bool (decide ((((o - 69 - 1)) % (2 : Int)) = (0 : Int)))) := h2
          replace hb := hb.trans (hC.mono hb.size)
          replace hr1 := Row.ext hr1 hC
          replace hr2 := Row.ext hr2 hC
          exact Runs.does (r_move (congrArg some h2)) ⟨Below.refl _ _, rfl, nofr rfl⟩
        refine ⟨fun wu4 hC hd => ?_, ?_⟩
        · obtain ⟨h3, _⟩ := hd
          skip
          replace h3 : V 3 = (.bool (decide ((((o - 69 - 1)) % (2 : Int)) = (0 : Int)))) := h3
          replace hb := hb.trans (hC.mono hb.size)
          replace hr1 := Row.ext hr1 hC
          replace hr2 := Row.ext hr2 hC
          refine ⟨true, (decide ((((o - 69 - 1)) % (2 : Int)) = (0 : Int))), congrArg some h3, fun hact => ?_, fun hact => ?_⟩
          · replace hact : (decide ((((o - 69 - 1)) % (2 : Int)) = (0 : Int))) = true := by simpa using hact
            refine Runs.does (v := (.slice (some ⟨rb1, 0, none⟩) (((bitsK A 32)).length) rc1)) (r_move rfl) ⟨Below.refl _ _, ?_, nofr rfl⟩
            show _ = gb _ _; rw [hact]; rfl
          · replace hact : (decide ((((o - 69 - 1)) % (2 : Int)) = (0 : Int))) = false := by simpa using hact
            refine ⟨Below.refl _ _, ?_, nofr rfl⟩
            show _ = gb _ _; rw [hact]; rfl
        refine ⟨fun wu5 hC hd => ?_, ?_⟩
        · obtain ⟨h3, h4, _⟩ := hd
          skip
          skip
          replace h3 : V 3 = (.bool (decide ((((o - 69 - 1)) % (2 : Int)) = (0 : Int)))) := h3
          replace h4 : V 4 = (gb (decide ((((o - 69 - 1)) % (2 : Int)) = (0 : Int))) (.slice (some ⟨rb1, 0, none⟩) (((bitsK A 32)).length) rc1)) := h4
          replace hb := hb.trans (hC.mono hb.size)
          replace hr1 := Row.ext hr1 hC
          replace hr2 := Row.ext hr2 hC
          refine ⟨true, (decide ((((o - 69 - 1)) % (2 : Int)) = (0 : Int))), congrArg some h3, fun hact => ?_, fun hact => ?_⟩
          · replace hact : (decide ((((o - 69 - 1)) % (2 : Int)) = (0 : Int))) = true := by simpa using hact
            refine Runs.does (v := (.pointer (some ⟨rb1, (0 + 31 * 1), none⟩))) (by have hact0 := hact; (try simp only [Bool.and_eq_true, Bool.not_eq_true', Bool.or_eq_false_iff, Bool.or_eq_true, Bool.and_eq_false_iff, ne_eq, decide_eq_true_eq, decide_eq_false_iff_not] at hact0); exact (r_ixa (sz := 1) (j := 31) (gb_ev hact (congrArg some h4)) rfl Try.underlying162 (by kernel_rfl) rfl (by omega) rfl)) ⟨Below.refl _ _, ?_, nofr rfl⟩
            show _ = gb _ _; rw [hact]; rfl
          · replace hact : (decide ((((o - 69 - 1)) % (2 : Int)) = (0 : Int))) = false := by simpa using hact
            refine ⟨Below.refl _ _, ?_, nofr rfl⟩
            show _ = gb _ _; rw [hact]; rfl
        refine ⟨fun wu6 hC hd => ?_, ?_⟩
        · obtain ⟨h3, h5, _⟩ := hd
          skip
          skip
          replace h3 : V 3 = (.bool (decide ((((o - 69 - 1)) % (2 : Int)) = (0 : Int)))) := h3
          replace h5 : V 5 = (gb (decide ((((o - 69 - 1)) % (2 : Int)) = (0 : Int))) (.pointer (some ⟨rb1, (0 + 31 * 1), none⟩))) := h5
          replace hb := hb.trans (hC.mono hb.size)
          replace hr1 := Row.ext hr1 hC
          replace hr2 := Row.ext hr2 hC
          refine ⟨true, (decide ((((o - 69 - 1)) % (2 : Int)) = (0 : Int))), congrArg some h3, fun hact => ?_, fun hact => ?_⟩
          · replace hact : (decide ((((o - 69 - 1)) % (2 : Int)) = (0 : Int))) = true := by simpa using hact
            refine Runs.does (v := (.bool ((A).testBit 31))) (r_load (v := (.bool ((A).testBit 31))) (gb_ev hact (congrArg some h5)) Try.underlying4 rfl (cellsAt_cell (cellsAt_below hel1 hC hlr1) (i := 0) rfl rfl)) ⟨Below.refl _ _, ?_, nofr rfl⟩
            show _ = gb _ _; rw [hact]; rfl
          · replace hact : (decide ((((o - 69 - 1)) % (2 : Int)) = (0 : Int))) = false := by simpa using hact
            refine ⟨Below.refl _ _, ?_, nofr rfl⟩
            show _ = gb _ _; rw [hact]; rfl
        refine ⟨fun wu7 hC hd => ?_, ?_⟩
        · obtain ⟨h3, _⟩ := hd
          skip
          replace h3 : V 3 = (.bool (decide ((((o - 69 - 1)) % (2 : Int)) = (0 : Int)))) := h3
          replace hb := hb.trans (hC.mono hb.size)
          replace hr1 := Row.ext hr1 hC
          replace hr2 := Row.ext hr2 hC
          refine ⟨true, (decide ((((o - 69 - 1)) % (2 : Int)) = (0 : Int))), congrArg some h3, fun hact => ?_, fun hact => ?_⟩
          · replace hact : (decide ((((o - 69 - 1)) % (2 : Int)) = (0 : Int))) = true := by simpa using hact
            refine Runs.does (v := (.slice (some ⟨rb2, 0, none⟩) (((bitsK B 32)).length) rc2)) (r_move rfl) ⟨Below.refl _ _, ?_, nofr rfl⟩
            show _ = gb _ _; rw [hact]; rfl
          · replace hact : (decide ((((o - 69 - 1)) % (2 : Int)) = (0 : Int))) = false := by simpa using hact
            refine ⟨Below.refl _ _, ?_, nofr rfl⟩
            show _ = gb _ _; rw [hact]; rfl
        refine ⟨fun wu8 hC hd => ?_, ?_⟩
        · obtain ⟨h3, h7, _⟩ := hd
          skip
          skip
          replace h3 : V 3 = (.bool (decide ((((o - 69 - 1)) % (2 : Int)) = (0 : Int)))) := h3
          replace h7 : V 7 = (gb (decide ((((o - 69 - 1)) % (2 : Int)) = (0 : Int))) (.slice (some ⟨rb2, 0, none⟩) (((bitsK B 32)).length) rc2)) := h7
          replace hb := hb.trans (hC.mono hb.size)
          replace hr1 := Row.ext hr1 hC
          replace hr2 := Row.ext hr2 hC
          refine ⟨true, (decide ((((o - 69 - 1)) % (2 : Int)) = (0 : Int))), congrArg some h3, fun hact => ?_, fun hact => ?_⟩
          · replace hact : (decide ((((o - 69 - 1)) % (2 : Int)) = (0 : Int))) = true := by simpa using hact
            refine Runs.does (v := (.pointer (some ⟨rb2, (0 + 31 * 1), none⟩))) (by have hact0 := hact; (try simp only [Bool.and_eq_true, Bool.not_eq_true', Bool.or_eq_false_iff, Bool.or_eq_true, Bool.and_eq_false_iff, ne_eq, decide_eq_true_eq, decide_eq_false_iff_not] at hact0); exact (r_ixa (sz := 1) (j := 31) (gb_ev hact (congrArg some h7)) rfl Try.underlying162 (by kernel_rfl) rfl (by omega) rfl)) ⟨Below.refl _ _, ?_, nofr rfl⟩
            show _ = gb _ _; rw [hact]; rfl
          · replace hact : (decide ((((o - 69 - 1)) % (2 : Int)) = (0 : Int))) = false := by simpa using hact
            refine ⟨Below.refl _ _, ?_, nofr rfl⟩
            show _ = gb _ _; rw [hact]; rfl
        refine ⟨fun wu9 hC hd => ?_, ?_⟩
        · obtain ⟨h3, h8, _⟩ := hd
          skip
          skip
          replace h3 : V 3 = (.bool (decide ((((o - 69 - 1)) % (2 : Int)) = (0 : Int)))) := h3
          replace h8 : V 8 = (gb (decide ((((o - 69 - 1)) % (2 : Int)) = (0 : Int))) (.pointer (some ⟨rb2, (0 + 31 * 1), none⟩))) := h8
          replace hb := hb.trans (hC.mono hb.size)
          replace hr1 := Row.ext hr1 hC
          replace hr2 := Row.ext hr2 hC
          refine ⟨true, (decide ((((o - 69 - 1)) % (2 : Int)) = (0 : Int))), congrArg some h3, fun hact => ?_, fun hact => ?_⟩
          · replace hact : (decide ((((o - 69 - 1)) % (2 : Int)) = (0 : Int))) = true := by simpa using hact
            refine Runs.does (v := (.bool ((B).testBit 31))) (r_load (v := (.bool ((B).testBit 31))) (gb_ev hact (congrArg some h8)) Try.underlying4 rfl (cellsAt_cell (cellsAt_below hel2 hC hlr2) (i := 0) rfl rfl)) ⟨Below.refl _ _, ?_, nofr rfl⟩
            show _ = gb _ _; rw [hact]; rfl
          · replace hact : (decide ((((o - 69 - 1)) % (2 : Int)) = (0 : Int))) = false := by simpa using hact
            refine ⟨Below.refl _ _, ?_, nofr rfl⟩
            show _ = gb _ _; rw [hact]; rfl
        refine ⟨fun wu10 hC hd => ?_, ?_⟩
        · obtain ⟨h3, h6, h9, _⟩ := hd
          skip
          skip
          skip
          replace h3 : V 3 = (.bool (decide ((((o - 69 - 1)) % (2 : Int)) = (0 : Int)))) := h3
          replace h6 : V 6 = (gb (decide ((((o - 69 - 1)) % (2 : Int)) = (0 : Int))) (.bool ((A).testBit 31))) := h6
          replace h9 : V 9 = (gb (decide ((((o - 69 - 1)) % (2 : Int)) = (0 : Int))) (.bool ((B).testBit 31))) := h9
          replace hb := hb.trans (hC.mono hb.size)
          replace hr1 := Row.ext hr1 hC
          replace hr2 := Row.ext hr2 hC
          refine ⟨true, (decide ((((o - 69 - 1)) % (2 : Int)) = (0 : Int))), congrArg some h3, fun hact => ?_, fun hact => ?_⟩
          · replace hact : (decide ((((o - 69 - 1)) % (2 : Int)) = (0 : Int))) = true := by simpa using hact
            refine Runs.does (v := (.bool (!(((A).testBit 31) == ((B).testBit 31))))) (r_bne Try.underlying4 (gb_ev hact (congrArg some h6)) (gb_ev hact (congrArg some h9))) ⟨Below.refl _ _, ?_, nofr rfl⟩
            show _ = gb _ _; rw [hact]; rfl
          · replace hact : (decide ((((o - 69 - 1)) % (2 : Int)) = (0 : Int))) = false := by simpa using hact
            refine ⟨Below.refl _ _, ?_, nofr rfl⟩
            show _ = gb _ _; rw [hact]; rfl
        refine ⟨fun wu11 hC hd => ?_, ?_⟩
        · obtain ⟨h3, h10, _⟩ := hd
          skip
          skip
          replace h3 : V 3 = (.bool (decide ((((o - 69 - 1)) % (2 : Int)) = (0 : Int)))) := h3
          replace h10 : V 10 = (gb (decide ((((o - 69 - 1)) % (2 : Int)) = (0 : Int))) (.bool (!(((A).testBit 31) == ((B).testBit 31))))) := h10
          replace hb := hb.trans (hC.mono hb.size)
          replace hr1 := Row.ext hr1 hC
          replace hr2 := Row.ext hr2 hC
          exact Runs.does (r_pickA (b := (decide ((((o - 69 - 1)) % (2 : Int)) = (0 : Int)))) (e := (!(((A).testBit 31) == ((B).testBit 31)))) (congrArg some h3) (congrArg some h10) rfl) ⟨Below.refl _ _, rfl, nofr rfl⟩
        trivial
      · skip
        clear hf fa; intro V w6 fa he6 hp hnb hf
        have hv0 : V 0 = (.int .i64 ((o - 69 - 1))) := postsHold_at hp 0 rfl
        have hv1 : V 1 = (.int .i64 (((o - 69 - 1)) % (2 : Int))) := postsHold_at hp 1 rfl
        have hv2 : V 2 = (.bool (decide ((((o - 69 - 1)) % (2 : Int)) = (0 : Int)))) := postsHold_at hp 2 rfl
        have hv3 : V 3 = (.bool (decide ((((o - 69 - 1)) % (2 : Int)) = (0 : Int)))) := postsHold_at hp 3 rfl
        have hv4 : V 4 = (gb (decide ((((o - 69 - 1)) % (2 : Int)) = (0 : Int))) (.slice (some ⟨rb1, 0, none⟩) (((bitsK A 32)).length) rc1)) := postsHold_at hp 4 rfl
        have hv5 : V 5 = (gb (decide ((((o - 69 - 1)) % (2 : Int)) = (0 : Int))) (.pointer (some ⟨rb1, (0 + 31 * 1), none⟩))) := postsHold_at hp 5 rfl
        have hv6 : V 6 = (gb (decide ((((o - 69 - 1)) % (2 : Int)) = (0 : Int))) (.bool ((A).testBit 31))) := postsHold_at hp 6 rfl
        have hv7 : V 7 = (gb (decide ((((o - 69 - 1)) % (2 : Int)) = (0 : Int))) (.slice (some ⟨rb2, 0, none⟩) (((bitsK B 32)).length) rc2)) := postsHold_at hp 7 rfl
        have hv8 : V 8 = (gb (decide ((((o - 69 - 1)) % (2 : Int)) = (0 : Int))) (.pointer (some ⟨rb2, (0 + 31 * 1), none⟩))) := postsHold_at hp 8 rfl
        have hv9 : V 9 = (gb (decide ((((o - 69 - 1)) % (2 : Int)) = (0 : Int))) (.bool ((B).testBit 31))) := postsHold_at hp 9 rfl
        have hv10 : V 10 = (gb (decide ((((o - 69 - 1)) % (2 : Int)) = (0 : Int))) (.bool (!(((A).testBit 31) == ((B).testBit 31))))) := postsHold_at hp 10 rfl
        have hv11 : V 11 = (.bool ((decide ((((o - 69 - 1)) % (2 : Int)) = (0 : Int))) && (!(((A).testBit 31) == ((B).testBit 31))))) := postsHold_at hp 11 rfl
        simp only [List.take_succ_cons, List.take_zero, insAll, ins, hv0, hv1, hv2, hv3, hv4, hv5, hv6, hv7, hv8, hv9, hv10, hv11] at hf
        clear hp hnb hv0 hv1 hv2 hv3 hv4 hv5 hv6 hv7 hv8 hv9 hv10 hv11
        replace hr1 := Row.ext hr1 he6
        replace hr2 := Row.ext hr2 he6
        replace hb := hb.trans (Below.mono he6 hb.size)
        (try simp only [Exit.then, Exit.inBlock, ↓reduceIte, Nat.reduceEqDiff])
        refine hK13 _ _ ?_
        refine wp_cond_split (t := ((decide ((((o - 69 - 1)) % (2 : Int)) = (0 : Int))) && (!(((A).testBit 31) == ((B).testBit 31))))) (hf.ev rfl) (fun hqt52_1 => ?_) (fun hqt52_1 => ?_)
        · have hqt52_1b := hqt52_1
          try simp only [decide_eq_true_eq, Bool.and_eq_true, Bool.or_eq_true, Bool.not_eq_true', decide_eq_false_iff_not, ne_eq, Bool.not_eq_true] at hqt52_1
          refine wp_region_lit ?_
          refine sqv hf (r_move rfl) rfl rfl rfl ?_; clear hf fa; intro fa hf
          have hy3 : ((bitsK A 32))[31]? = some ((A).testBit 31) := (bitsK_get (n := A) (k := 32) (i := 31) (by omega))
          have hel3 := RdS.at (Row.rd (by intros; rfl) hr1) hy3
          obtain ⟨_, _, hab, hlr3, hel3⟩ := hel3
          cases hab
          refine sqv hf (r_ixa (sz := 1) (j := 31) rfl rfl Try.underlying162 (by kernel_rfl) rfl (by omega) rfl) rfl rfl rfl ?_; clear hf fa; intro fa hf
          refine sqv hf (r_load (v := (.bool ((A).testBit 31))) rfl Try.underlying4 rfl (cellsAt_cell hel3 (i := 0) rfl rfl)) rfl rfl rfl ?_; clear hf fa; intro fa hf
          refine sqv hf (r_assign rfl) rfl rfl rfl ?_; clear hf fa; intro fa hf
          apply wpList_nil
          (try simp only [Exit.then, Exit.inBlock, ↓reduceIte, Nat.reduceEqDiff])
          refine hK12 _ _ ?_
          refine wp_seq_k (fun K14 hK14 => ?_)
          refine wp_seq_k (fun K15 hK15 => ?_)
          refine wp_region_lit ?_
          refine sqv hf (r_move rfl) rfl rfl rfl ?_; clear hf fa; intro fa hf
          refine sqv hf (r_sub (C := (((o - 69 - 1)) - (2 : Int))) rfl rfl (by rw [IntKind.wrap_i64]; omega)) rfl rfl rfl ?_; clear hf fa; intro fa hf
          refine sqv hf (r_quo (C := ((((o - 69 - 1)) - (2 : Int)) / (2 : Int))) rfl rfl (by omega) (by rw [Int.tdiv_eq_ediv_of_nonneg (by omega), IntKind.wrap_i64]; omega)) rfl rfl rfl ?_; clear hf fa; intro fa hf
          apply wpList_nil
          (try simp only [Exit.then, Exit.inBlock, ↓reduceIte, Nat.reduceEqDiff])
          refine hK15 _ _ ?_
          refine wp_block ?_
          refine wp_seq_k (fun K16 hK16 => ?_)
          refine wp_region_lit ?_
          refine sqv hf (r_eq rfl rfl) rfl rfl rfl ?_; clear hf fa; intro fa hf
          refine sqv hf (r_assign rfl) rfl rfl rfl ?_; clear hf fa; intro fa hf
          apply wpList_nil
          (try simp only [Exit.then, Exit.inBlock, ↓reduceIte, Nat.reduceEqDiff])
          refine hK16 _ _ ?_
          refine wp_cond_split (t := (decide (((((o - 69 - 1)) - (2 : Int)) / (2 : Int)) = (0 : Int)))) (hf.ev rfl) (fun hqt59_1 => ?_) (fun hqt59_1 => ?_)
          · have hqt59_1b := hqt59_1
            try simp only [decide_eq_true_eq, Bool.and_eq_true, Bool.or_eq_true, Bool.not_eq_true', decide_eq_false_iff_not, ne_eq, Bool.not_eq_true] at hqt59_1
            refine wp_seq_k (fun K17 hK17 => ?_)
            refine wp_region_lit ?_
            refine sqv hf (r_move rfl) rfl rfl rfl ?_; clear hf fa; intro fa hf
            refine sqdt hf (d_callS (vs := [(.bool ((A).testBit 31))]) rfl Try.func95 (by kernel_rfl) (by kernel_rfl) (rtruth_any ((A).testBit 31) _)) rfl rfl rfl ?_; clear hf fa; rintro fa _ _ ⟨rfl, rfl⟩ hf
            refine sqv hf (r_assign rfl) rfl rfl rfl ?_; clear hf fa; intro fa hf
            refine sqv hf (r_assign rfl) rfl rfl rfl ?_; clear hf fa; intro fa hf
            apply wpList_nil
            (try simp only [Exit.then, Exit.inBlock, ↓reduceIte, Nat.reduceEqDiff])
            refine hK17 _ _ ?_
            refine wp_ret ?_
            (try simp only [Exit.then, Exit.inBlock])
            refine ret2 hf rfl rfl rfl ?_
            refine ⟨?_, hb⟩; unfold rcmpP rcmpB; rw [if_neg hqt25_1, if_neg hqt32_1, if_pos hqt52_1, if_pos hqt59_1]
          · have hqt59_1b := hqt59_1
            replace hqt59_1 := Bool.eq_false_iff.1 hqt59_1
            try simp only [ne_eq, decide_eq_true_eq, Bool.and_eq_true, Bool.or_eq_true, Bool.not_eq_true', decide_eq_false_iff_not] at hqt59_1
            refine wp_seq_k (fun K18 hK18 => ?_)
            refine wp_region_lit ?_
            refine sqv hf (r_eq rfl rfl) rfl rfl rfl ?_; clear hf fa; intro fa hf
            refine sqv hf (r_assign rfl) rfl rfl rfl ?_; clear hf fa; intro fa hf
            apply wpList_nil
            (try simp only [Exit.then, Exit.inBlock, ↓reduceIte, Nat.reduceEqDiff])
            refine hK18 _ _ ?_
            refine wp_cond_split (t := (decide (((((o - 69 - 1)) - (2 : Int)) / (2 : Int)) = (1 : Int)))) (hf.ev rfl) (fun hqt63_1 => ?_) (fun hqt63_1 => ?_)
            · have hqt63_1b := hqt63_1
              try simp only [decide_eq_true_eq, Bool.and_eq_true, Bool.or_eq_true, Bool.not_eq_true', decide_eq_false_iff_not, ne_eq, Bool.not_eq_true] at hqt63_1
              refine wp_seq_k (fun K19 hK19 => ?_)
              refine wp_region_lit ?_
              refine sqv hf (r_move rfl) rfl rfl rfl ?_; clear hf fa; intro fa hf
              refine sqv hf (r_not rfl) rfl rfl rfl ?_; clear hf fa; intro fa hf
              refine sqv hf (r_move rfl) rfl rfl rfl ?_; clear hf fa; intro fa hf
              refine sqgT (act := (!((A).testBit 31))) (ag := true) (c := (!((A).testBit 31))) (v := (.bool (decide (((A : Nat) : Int) = ((B : Nat) : Int))))) hf rfl rfl rfl (fun hact => (r_move rfl)) rfl rfl ?_; clear hf fa; intro fa hf
              refine sqgT (act := (!((A).testBit 31))) (ag := true) (c := (!((A).testBit 31))) (v := (.bool (!(decide (((A : Nat) : Int) = ((B : Nat) : Int)))))) hf rfl rfl rfl (fun hact => (r_not (gb_ev hact rfl))) rfl rfl ?_; clear hf fa; intro fa hf
              refine sqv hf (r_pickA (b := (!((A).testBit 31))) (e := (!(decide (((A : Nat) : Int) = ((B : Nat) : Int))))) rfl rfl rfl) rfl rfl rfl ?_; clear hf fa; intro fa hf
              refine sqdt hf (d_callS (vs := [(.bool ((!((A).testBit 31)) && (!(decide (((A : Nat) : Int) = ((B : Nat) : Int))))))]) rfl Try.func95 (by kernel_rfl) (by kernel_rfl) (rtruth_any ((!((A).testBit 31)) && (!(decide (((A : Nat) : Int) = ((B : Nat) : Int))))) _)) rfl rfl rfl ?_; clear hf fa; rintro fa _ _ ⟨rfl, rfl⟩ hf
              refine sqv hf (r_assign rfl) rfl rfl rfl ?_; clear hf fa; intro fa hf
              refine sqv hf (r_assign rfl) rfl rfl rfl ?_; clear hf fa; intro fa hf
              apply wpList_nil
              (try simp only [Exit.then, Exit.inBlock, ↓reduceIte, Nat.reduceEqDiff])
              refine hK19 _ _ ?_
              refine wp_ret ?_
              (try simp only [Exit.then, Exit.inBlock])
              refine ret2 hf rfl rfl rfl ?_
              refine ⟨?_, hb⟩; unfold rcmpP rcmpB; rw [if_neg hqt25_1, if_neg hqt32_1, if_pos hqt52_1, if_neg hqt59_1, if_pos hqt63_1]
            · have hqt63_1b := hqt63_1
              replace hqt63_1 := Bool.eq_false_iff.1 hqt63_1
              try simp only [ne_eq, decide_eq_true_eq, Bool.and_eq_true, Bool.or_eq_true, Bool.not_eq_true', decide_eq_false_iff_not] at hqt63_1
              refine wp_seq_k (fun K20 hK20 => ?_)
              refine wp_region_lit ?_
              refine sqv hf (r_eq rfl rfl) rfl rfl rfl ?_; clear hf fa; intro fa hf
              refine sqv hf (r_assign rfl) rfl rfl rfl ?_; clear hf fa; intro fa hf
              apply wpList_nil
              (try simp only [Exit.then, Exit.inBlock, ↓reduceIte, Nat.reduceEqDiff])
              refine hK20 _ _ ?_
              refine wp_cond_split (t := (decide (((((o - 69 - 1)) - (2 : Int)) / (2 : Int)) = (2 : Int)))) (hf.ev rfl) (fun hqt72_1 => ?_) (fun hqt72_1 => ?_)
              · have hqt72_1b := hqt72_1
                try simp only [decide_eq_true_eq, Bool.and_eq_true, Bool.or_eq_true, Bool.not_eq_true', decide_eq_false_iff_not, ne_eq, Bool.not_eq_true] at hqt72_1
                refine wp_seq_k (fun K21 hK21 => ?_)
                refine wp_region_lit ?_
                refine sqv hf (r_move rfl) rfl rfl rfl ?_; clear hf fa; intro fa hf
                refine sqv hf (r_move rfl) rfl rfl rfl ?_; clear hf fa; intro fa hf
                refine sqgF (act := (!((A).testBit 31))) (ag := true) (c := ((A).testBit 31)) (v := (.bool (decide (((A : Nat) : Int) = ((B : Nat) : Int))))) hf rfl rfl rfl (fun hact => (r_move rfl)) rfl rfl ?_; clear hf fa; intro fa hf
                refine sqv hf (r_pickO (b := ((A).testBit 31)) (e := (decide (((A : Nat) : Int) = ((B : Nat) : Int)))) rfl rfl rfl) rfl rfl rfl ?_; clear hf fa; intro fa hf
                refine sqdt hf (d_callS (vs := [(.bool (((A).testBit 31) || (decide (((A : Nat) : Int) = ((B : Nat) : Int)))))]) rfl Try.func95 (by kernel_rfl) (by kernel_rfl) (rtruth_any (((A).testBit 31) || (decide (((A : Nat) : Int) = ((B : Nat) : Int)))) _)) rfl rfl rfl ?_; clear hf fa; rintro fa _ _ ⟨rfl, rfl⟩ hf
                refine sqv hf (r_assign rfl) rfl rfl rfl ?_; clear hf fa; intro fa hf
                refine sqv hf (r_assign rfl) rfl rfl rfl ?_; clear hf fa; intro fa hf
                apply wpList_nil
                (try simp only [Exit.then, Exit.inBlock, ↓reduceIte, Nat.reduceEqDiff])
                refine hK21 _ _ ?_
                refine wp_ret ?_
                (try simp only [Exit.then, Exit.inBlock])
                refine ret2 hf rfl rfl rfl ?_
                refine ⟨?_, hb⟩; unfold rcmpP rcmpB; rw [if_neg hqt25_1, if_neg hqt32_1, if_pos hqt52_1, if_neg hqt59_1, if_neg hqt63_1, if_pos hqt72_1]
              · have hqt72_1b := hqt72_1
                replace hqt72_1 := Bool.eq_false_iff.1 hqt72_1
                try simp only [ne_eq, decide_eq_true_eq, Bool.and_eq_true, Bool.or_eq_true, Bool.not_eq_true', decide_eq_false_iff_not] at hqt72_1
                refine wp_skip ?_
                (try simp only [Exit.then, Exit.inBlock, ↓reduceIte, Nat.reduceEqDiff])
                refine hK14 _ _ ?_
                refine wp_seq_k (fun K22 hK22 => ?_)
                refine wp_region_lit ?_
                refine sqv hf (r_move rfl) rfl rfl rfl ?_; clear hf fa; intro fa hf
                refine sqv hf (r_not rfl) rfl rfl rfl ?_; clear hf fa; intro fa hf
                refine sqdt hf (d_callS (vs := [(.bool (!((A).testBit 31)))]) rfl Try.func95 (by kernel_rfl) (by kernel_rfl) (rtruth_any (!((A).testBit 31)) _)) rfl rfl rfl ?_; clear hf fa; rintro fa _ _ ⟨rfl, rfl⟩ hf
                refine sqv hf (r_assign rfl) rfl rfl rfl ?_; clear hf fa; intro fa hf
                refine sqv hf (r_assign rfl) rfl rfl rfl ?_; clear hf fa; intro fa hf
                apply wpList_nil
                (try simp only [Exit.then, Exit.inBlock, ↓reduceIte, Nat.reduceEqDiff])
                refine hK22 _ _ ?_
                refine wp_ret ?_
                (try simp only [Exit.then, Exit.inBlock])
                refine ret2 hf rfl rfl rfl ?_
                refine ⟨?_, hb⟩; unfold rcmpP rcmpB; rw [if_neg hqt25_1, if_neg hqt32_1, if_pos hqt52_1, if_neg hqt59_1, if_neg hqt63_1, if_neg hqt72_1]
        · have hqt52_1b := hqt52_1
          replace hqt52_1 := Bool.eq_false_iff.1 hqt52_1
          try simp only [ne_eq, decide_eq_true_eq, Bool.and_eq_true, Bool.or_eq_true, Bool.not_eq_true', decide_eq_false_iff_not] at hqt52_1
          refine wp_skip ?_
          (try simp only [Exit.then, Exit.inBlock, ↓reduceIte, Nat.reduceEqDiff])
          refine hK12 _ _ ?_
          refine wp_seq_k (fun K23 hK23 => ?_)
          refine wp_seq_k (fun K24 hK24 => ?_)
          refine wp_region_lit ?_
          refine sqv hf (r_move rfl) rfl rfl rfl ?_; clear hf fa; intro fa hf
          refine sqv hf (r_sub (C := (((o - 69 - 1)) - (2 : Int))) rfl rfl (by rw [IntKind.wrap_i64]; omega)) rfl rfl rfl ?_; clear hf fa; intro fa hf
          refine sqv hf (r_quo (C := ((((o - 69 - 1)) - (2 : Int)) / (2 : Int))) rfl rfl (by omega) (by rw [Int.tdiv_eq_ediv_of_nonneg (by omega), IntKind.wrap_i64]; omega)) rfl rfl rfl ?_; clear hf fa; intro fa hf
          apply wpList_nil
          (try simp only [Exit.then, Exit.inBlock, ↓reduceIte, Nat.reduceEqDiff])
          refine hK24 _ _ ?_
          refine wp_block ?_
          refine wp_seq_k (fun K25 hK25 => ?_)
          refine wp_region_lit ?_
          refine sqv hf (r_eq rfl rfl) rfl rfl rfl ?_; clear hf fa; intro fa hf
          refine sqv hf (r_assign rfl) rfl rfl rfl ?_; clear hf fa; intro fa hf
          apply wpList_nil
          (try simp only [Exit.then, Exit.inBlock, ↓reduceIte, Nat.reduceEqDiff])
          refine hK25 _ _ ?_
          refine wp_cond_split (t := (decide (((((o - 69 - 1)) - (2 : Int)) / (2 : Int)) = (0 : Int)))) (hf.ev rfl) (fun hqt59_2 => ?_) (fun hqt59_2 => ?_)
          · have hqt59_2b := hqt59_2
            try simp only [decide_eq_true_eq, Bool.and_eq_true, Bool.or_eq_true, Bool.not_eq_true', decide_eq_false_iff_not, ne_eq, Bool.not_eq_true] at hqt59_2
            refine wp_seq_k (fun K26 hK26 => ?_)
            refine wp_region_lit ?_
            refine sqv hf (r_move rfl) rfl rfl rfl ?_; clear hf fa; intro fa hf
            refine sqdt hf (d_callS (vs := [(.bool (decide (A < B)))]) rfl Try.func95 (by kernel_rfl) (by kernel_rfl) (rtruth_any (decide (A < B)) _)) rfl rfl rfl ?_; clear hf fa; rintro fa _ _ ⟨rfl, rfl⟩ hf
            refine sqv hf (r_assign rfl) rfl rfl rfl ?_; clear hf fa; intro fa hf
            refine sqv hf (r_assign rfl) rfl rfl rfl ?_; clear hf fa; intro fa hf
            apply wpList_nil
            (try simp only [Exit.then, Exit.inBlock, ↓reduceIte, Nat.reduceEqDiff])
            refine hK26 _ _ ?_
            refine wp_ret ?_
            (try simp only [Exit.then, Exit.inBlock])
            refine ret2 hf rfl rfl rfl ?_
            refine ⟨?_, hb⟩; unfold rcmpP rcmpB; rw [if_neg hqt25_1, if_neg hqt32_1, if_neg hqt52_1, if_pos hqt59_2]
          · have hqt59_2b := hqt59_2
            replace hqt59_2 := Bool.eq_false_iff.1 hqt59_2
            try simp only [ne_eq, decide_eq_true_eq, Bool.and_eq_true, Bool.or_eq_true, Bool.not_eq_true', decide_eq_false_iff_not] at hqt59_2
            refine wp_seq_k (fun K27 hK27 => ?_)
            refine wp_region_lit ?_
            refine sqv hf (r_eq rfl rfl) rfl rfl rfl ?_; clear hf fa; intro fa hf
            refine sqv hf (r_assign rfl) rfl rfl rfl ?_; clear hf fa; intro fa hf
            apply wpList_nil
            (try simp only [Exit.then, Exit.inBlock, ↓reduceIte, Nat.reduceEqDiff])
            refine hK27 _ _ ?_
            refine wp_cond_split (t := (decide (((((o - 69 - 1)) - (2 : Int)) / (2 : Int)) = (1 : Int)))) (hf.ev rfl) (fun hqt63_2 => ?_) (fun hqt63_2 => ?_)
            · have hqt63_2b := hqt63_2
              try simp only [decide_eq_true_eq, Bool.and_eq_true, Bool.or_eq_true, Bool.not_eq_true', decide_eq_false_iff_not, ne_eq, Bool.not_eq_true] at hqt63_2
              refine wp_seq_k (fun K28 hK28 => ?_)
              refine wp_region_lit ?_
              refine sqv hf (r_move rfl) rfl rfl rfl ?_; clear hf fa; intro fa hf
              refine sqv hf (r_not rfl) rfl rfl rfl ?_; clear hf fa; intro fa hf
              refine sqv hf (r_move rfl) rfl rfl rfl ?_; clear hf fa; intro fa hf
              refine sqgT (act := (!(decide (A < B)))) (ag := true) (c := (!(decide (A < B)))) (v := (.bool (decide (((A : Nat) : Int) = ((B : Nat) : Int))))) hf rfl rfl rfl (fun hact => (r_move rfl)) rfl rfl ?_; clear hf fa; intro fa hf
              refine sqgT (act := (!(decide (A < B)))) (ag := true) (c := (!(decide (A < B)))) (v := (.bool (!(decide (((A : Nat) : Int) = ((B : Nat) : Int)))))) hf rfl rfl rfl (fun hact => (r_not (gb_ev hact rfl))) rfl rfl ?_; clear hf fa; intro fa hf
              refine sqv hf (r_pickA (b := (!(decide (A < B)))) (e := (!(decide (((A : Nat) : Int) = ((B : Nat) : Int))))) rfl rfl rfl) rfl rfl rfl ?_; clear hf fa; intro fa hf
              refine sqdt hf (d_callS (vs := [(.bool ((!(decide (A < B))) && (!(decide (((A : Nat) : Int) = ((B : Nat) : Int))))))]) rfl Try.func95 (by kernel_rfl) (by kernel_rfl) (rtruth_any ((!(decide (A < B))) && (!(decide (((A : Nat) : Int) = ((B : Nat) : Int))))) _)) rfl rfl rfl ?_; clear hf fa; rintro fa _ _ ⟨rfl, rfl⟩ hf
              refine sqv hf (r_assign rfl) rfl rfl rfl ?_; clear hf fa; intro fa hf
              refine sqv hf (r_assign rfl) rfl rfl rfl ?_; clear hf fa; intro fa hf
              apply wpList_nil
              (try simp only [Exit.then, Exit.inBlock, ↓reduceIte, Nat.reduceEqDiff])
              refine hK28 _ _ ?_
              refine wp_ret ?_
              (try simp only [Exit.then, Exit.inBlock])
              refine ret2 hf rfl rfl rfl ?_
              refine ⟨?_, hb⟩; unfold rcmpP rcmpB; rw [if_neg hqt25_1, if_neg hqt32_1, if_neg hqt52_1, if_neg hqt59_2, if_pos hqt63_2]
            · have hqt63_2b := hqt63_2
              replace hqt63_2 := Bool.eq_false_iff.1 hqt63_2
              try simp only [ne_eq, decide_eq_true_eq, Bool.and_eq_true, Bool.or_eq_true, Bool.not_eq_true', decide_eq_false_iff_not] at hqt63_2
              refine wp_seq_k (fun K29 hK29 => ?_)
              refine wp_region_lit ?_
              refine sqv hf (r_eq rfl rfl) rfl rfl rfl ?_; clear hf fa; intro fa hf
              refine sqv hf (r_assign rfl) rfl rfl rfl ?_; clear hf fa; intro fa hf
              apply wpList_nil
              (try simp only [Exit.then, Exit.inBlock, ↓reduceIte, Nat.reduceEqDiff])
              refine hK29 _ _ ?_
              refine wp_cond_split (t := (decide (((((o - 69 - 1)) - (2 : Int)) / (2 : Int)) = (2 : Int)))) (hf.ev rfl) (fun hqt72_2 => ?_) (fun hqt72_2 => ?_)
              · have hqt72_2b := hqt72_2
                try simp only [decide_eq_true_eq, Bool.and_eq_true, Bool.or_eq_true, Bool.not_eq_true', decide_eq_false_iff_not, ne_eq, Bool.not_eq_true] at hqt72_2
                refine wp_seq_k (fun K30 hK30 => ?_)
                refine wp_region_lit ?_
                refine sqv hf (r_move rfl) rfl rfl rfl ?_; clear hf fa; intro fa hf
                refine sqv hf (r_move rfl) rfl rfl rfl ?_; clear hf fa; intro fa hf
                refine sqgF (act := (!(decide (A < B)))) (ag := true) (c := (decide (A < B))) (v := (.bool (decide (((A : Nat) : Int) = ((B : Nat) : Int))))) hf rfl rfl rfl (fun hact => (r_move rfl)) rfl rfl ?_; clear hf fa; intro fa hf
                refine sqv hf (r_pickO (b := (decide (A < B))) (e := (decide (((A : Nat) : Int) = ((B : Nat) : Int)))) rfl rfl rfl) rfl rfl rfl ?_; clear hf fa; intro fa hf
                refine sqdt hf (d_callS (vs := [(.bool ((decide (A < B)) || (decide (((A : Nat) : Int) = ((B : Nat) : Int)))))]) rfl Try.func95 (by kernel_rfl) (by kernel_rfl) (rtruth_any ((decide (A < B)) || (decide (((A : Nat) : Int) = ((B : Nat) : Int)))) _)) rfl rfl rfl ?_; clear hf fa; rintro fa _ _ ⟨rfl, rfl⟩ hf
                refine sqv hf (r_assign rfl) rfl rfl rfl ?_; clear hf fa; intro fa hf
                refine sqv hf (r_assign rfl) rfl rfl rfl ?_; clear hf fa; intro fa hf
                apply wpList_nil
                (try simp only [Exit.then, Exit.inBlock, ↓reduceIte, Nat.reduceEqDiff])
                refine hK30 _ _ ?_
                refine wp_ret ?_
                (try simp only [Exit.then, Exit.inBlock])
                refine ret2 hf rfl rfl rfl ?_
                refine ⟨?_, hb⟩; unfold rcmpP rcmpB; rw [if_neg hqt25_1, if_neg hqt32_1, if_neg hqt52_1, if_neg hqt59_2, if_neg hqt63_2, if_pos hqt72_2]
              · have hqt72_2b := hqt72_2
                replace hqt72_2 := Bool.eq_false_iff.1 hqt72_2
                try simp only [ne_eq, decide_eq_true_eq, Bool.and_eq_true, Bool.or_eq_true, Bool.not_eq_true', decide_eq_false_iff_not] at hqt72_2
                refine wp_skip ?_
                (try simp only [Exit.then, Exit.inBlock, ↓reduceIte, Nat.reduceEqDiff])
                refine hK23 _ _ ?_
                refine wp_seq_k (fun K31 hK31 => ?_)
                refine wp_region_lit ?_
                refine sqv hf (r_move rfl) rfl rfl rfl ?_; clear hf fa; intro fa hf
                refine sqv hf (r_not rfl) rfl rfl rfl ?_; clear hf fa; intro fa hf
                refine sqdt hf (d_callS (vs := [(.bool (!(decide (A < B))))]) rfl Try.func95 (by kernel_rfl) (by kernel_rfl) (rtruth_any (!(decide (A < B))) _)) rfl rfl rfl ?_; clear hf fa; rintro fa _ _ ⟨rfl, rfl⟩ hf
                refine sqv hf (r_assign rfl) rfl rfl rfl ?_; clear hf fa; intro fa hf
                refine sqv hf (r_assign rfl) rfl rfl rfl ?_; clear hf fa; intro fa hf
                apply wpList_nil
                (try simp only [Exit.then, Exit.inBlock, ↓reduceIte, Nat.reduceEqDiff])
                refine hK31 _ _ ?_
                refine wp_ret ?_
                (try simp only [Exit.then, Exit.inBlock])
                refine ret2 hf rfl rfl rfl ?_
                refine ⟨?_, hb⟩; unfold rcmpP rcmpB; rw [if_neg hqt25_1, if_neg hqt32_1, if_neg hqt52_1, if_neg hqt59_2, if_neg hqt63_2, if_neg hqt72_2]
end Go.Proofs.Ytahgkfekggkjnaa
