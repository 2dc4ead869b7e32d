/- What is proved here: the law ScopeFinds is true. -/
import Derived.Test.YtahgkfekggkjnaaSfM
namespace Go.Proofs.Ytahgkfekggkjnaa
open Go.RowKit
set_option linter.unusedVariables false
set_option linter.unusedSimpArgs false
theorem func_law (d : Sl MMd) (nm : ByteArray) (t : MFt) : True := trivial

set_option maxHeartbeats 1000000 in
set_option maxRecDepth 100000 in
theorem scopeFinds_any (d : Sl MMd) (nm : ByteArray) (t : MFt) (w : World) (g : fSlW 17 296 vMMd fMMd w d) : Calls Try.prog 13 #[(.slice d.at' d.len d.cap), (.string nm), (.agg #[(.string t.1), (.string t.2.1)])] w fun e w' => e = .returned (.bool true) ∧ Below w.heap.size w w' := by
  refine sx_enter (L := [(0, (.slice d.at' d.len d.cap)), (1, (.string nm)), (2, (.agg #[(.string t.1), (.string t.2.1)]))]) Try.func13 rfl rfl rfl rfl (fun fa hf => ?_)
  have hb : Below w.heap.size w w := Below.refl _ _
  refine wp_seq_k (fun K1 hK1 => ?_)
  refine wp_region_lit ?_
  refine sqdt hf (d_box (cs := #[(.string t.1), (.string t.2.1)]) rfl rfl) rfl rfl rfl ?_; clear hf fa; rintro fa _ w1 ⟨b1, rfl, hle1, hk1, he1⟩ hf
  have hBb1 : w.heap.size ≤ b1 := Nat.le_trans hb.size hle1
  replace hb := hb.trans (Below.mono he1 hb.size)
  refine sqv hf (r_assign rfl) rfl rfl rfl ?_; clear hf fa; intro fa hf
  apply wpList_nil
  (try simp only [Exit.then, Exit.inBlock, ↓reduceIte, Nat.reduceEqDiff])
  refine hK1 _ _ ?_
  refine wp_seq_k (fun K2 hK2 => ?_)
  refine wp_seq_k (fun K3 hK3 => ?_)
  refine wp_region_lit ?_
  refine sqdt hf (d_callB (vs := []) rfl Try.func44 (by kernel_rfl) (by kernel_rfl) (awake37_any _)) rfl rfl rfl ?_; clear hf fa; rintro fa _ w2 ⟨rfl, he2⟩ hf
  replace hk1 := blk_ext hk1 he2
  replace hb := hb.trans (Below.mono he2 hb.size)
  refine sqv hf (Runs.veq (v' := (.bool false)) (r_not rfl) rfl) rfl rfl rfl ?_; clear hf fa; intro fa hf
  apply wpList_nil
  (try simp only [Exit.then, Exit.inBlock, ↓reduceIte, Nat.reduceEqDiff])
  refine hK3 _ _ ?_
  refine wp_cond_false (hf.ev rfl) ?_
  refine wp_skip ?_
  (try simp only [Exit.then, Exit.inBlock, ↓reduceIte, Nat.reduceEqDiff])
  refine hK2 _ _ ?_
  refine wp_seq_k (fun K4 hK4 => ?_)
  refine wp_region_lit ?_
  refine sqv hf (r_move rfl) rfl rfl rfl ?_; clear hf fa; intro fa hf
  refine sqdt hf (d_callX (vs := [(.slice d.at' d.len d.cap)]) rfl Try.func27 (by kernel_rfl) (by kernel_rfl) (units_any d _ (by exact ⟨g.1, (fSl_kept g.2 hb)⟩))) rfl rfl rfl ?_; clear hf fa; rintro fa _ w3 ⟨ua, uc, ub, ul, rfl, hU0, hr1, he3⟩ hf
  replace hr1 := Row.rebase hr1 hb.size
  replace hk1 := blk_ext hk1 he3
  replace hb := hb.trans (Below.mono he3 hb.size)
  have hcu := Row.caps hr1
  refine sqv hf (r_move rfl) rfl rfl rfl ?_; clear hf fa; intro fa hf
  refine sqv hf (r_extract rfl (i := 0) rfl) rfl rfl rfl ?_; clear hf fa; intro fa hf
  refine sqv hf (r_extract rfl (i := 1) rfl) rfl rfl rfl ?_; clear hf fa; intro fa hf
  refine sqv hf (r_assign rfl) rfl rfl rfl ?_; clear hf fa; intro fa hf
  refine sqv hf (r_assign rfl) rfl rfl rfl ?_; clear hf fa; intro fa hf
  apply wpList_nil
  (try simp only [Exit.then, Exit.inBlock, ↓reduceIte, Nat.reduceEqDiff])
  refine hK4 _ _ ?_
  refine wp_seq_k (fun K5 hK5 => ?_)
  refine wp_seq_k (fun K6 hK6 => ?_)
  refine wp_region_lit ?_
  refine sqv hf (r_move rfl) rfl rfl rfl ?_; clear hf fa; intro fa hf
  refine sqv hf (r_not rfl) rfl rfl rfl ?_; clear hf fa; intro fa hf
  refine sqv hf (r_move rfl) rfl rfl rfl ?_; clear hf fa; intro fa hf
  refine sqgF (act := (!(!ub))) (ag := true) (c := (!ub)) (v := (.string nm)) hf rfl rfl rfl (fun hact => (r_move rfl)) rfl rfl ?_; clear hf fa; intro fa hf
  refine sqgF (act := (!(!ub))) (ag := true) (c := (!ub)) (v := (.int .i64 ((nm.size : Nat) : Int))) hf rfl rfl rfl (fun hact => (r_lens (gb_ev hact rfl) Try.underlying9)) rfl rfl ?_; clear hf fa; intro fa hf
  refine sqgF (act := (!(!ub))) (ag := true) (c := (!ub)) (v := (.bool (decide ((300 : Int) < ((nm.size : Nat) : Int))))) hf rfl rfl rfl (fun hact => (r_gt (gb_ev hact rfl) rfl)) rfl rfl ?_; clear hf fa; intro fa hf
  refine sqv hf (r_pickO (b := (!ub)) (e := (decide ((300 : Int) < ((nm.size : Nat) : Int)))) rfl rfl rfl) rfl rfl rfl ?_; clear hf fa; intro fa hf
  apply wpList_nil
  (try simp only [Exit.then, Exit.inBlock, ↓reduceIte, Nat.reduceEqDiff])
  refine hK6 _ _ ?_
  refine wp_cond_split (t := ((!ub) || (decide ((300 : Int) < ((nm.size : Nat) : Int))))) (hf.ev rfl) (fun hqt43_1 => ?_) (fun hqt43_1 => ?_)
  · have hqt43_1b := hqt43_1
    try simp only [decide_eq_true_eq, Bool.and_eq_true, Bool.or_eq_true, Bool.not_eq_true', decide_eq_false_iff_not, ne_eq, Bool.not_eq_true] at hqt43_1
    refine wp_seq_k (fun K7 hK7 => ?_)
    refine wp_region_lit ?_
    refine sqv hf (r_assign rfl) rfl rfl rfl ?_; clear hf fa; intro fa hf
    apply wpList_nil
    (try simp only [Exit.then, Exit.inBlock, ↓reduceIte, Nat.reduceEqDiff])
    refine hK7 _ _ ?_
    refine wp_ret ?_
    (try simp only [Exit.then, Exit.inBlock])
    refine ret1 hf rfl rfl ?_
    exact ⟨rfl, hb⟩
  · have hqt43_1b := hqt43_1
    replace hqt43_1 := Bool.eq_false_iff.1 hqt43_1
    try simp only [ne_eq, decide_eq_true_eq, Bool.and_eq_true, Bool.or_eq_true, Bool.not_eq_true', decide_eq_false_iff_not] at hqt43_1
    refine wp_skip ?_
    (try simp only [Exit.then, Exit.inBlock, ↓reduceIte, Nat.reduceEqDiff])
    refine hK5 _ _ ?_
    refine wp_seq_k (fun K8 hK8 => ?_)
    have hub : ub = true := by have h := hqt43_1; revert h; cases ub <;> simp
    have hU := hU0 hub
    have hum : ul.map modU = d.list := units_map (by rw [Sl.list_length]; exact hU.1) hU.2.2.1
    have hUM := fun (w2 : World) (hb : Below w.heap.size w w2) (u : MUn) (hu : u ∈ ul) => And.intro (rdMMd.kept _ _ _ hb (units_M g hU.2.2.2 hum u hu).1) (units_M g hU.2.2.2 hum u hu).2
    obtain ⟨hA, hB⟩ := find_rel nm ul 0
    rw [hum] at hA hB
    by_cases hsp1 : (findU nm ul 0).2.2 = true
    · have hsp1b : decide ((findU nm ul 0).2.2 = true) = true := decide_eq_true hsp1
      obtain ⟨j, k, u, e1, e2, e3, hx⟩ := hA hsp1
      obtain ⟨ex, hxe⟩ : ∃ ex, (findU nm ul 0).2.1 = ex := ⟨_, rfl⟩
      rw [hxe] at e1 hx
      rw [Nat.zero_add] at e1 e2
      obtain ⟨m, hme⟩ : ∃ m, modU u = m := ⟨_, rfl⟩
      have hm : d.list[j]? = some m := by rw [← hum, List.getElem?_map, e3, ← hme]; rfl
      replace hx : m.2.2.2.2.2.2.1.list[k]? = some ex := by rw [← hme]; exact hx
      have gm := fSl_el g.2 hm
      have hjl : j < d.len := by have := (List.getElem?_eq_some_iff.1 hm).1; rwa [Sl.list_length] at this
      have hkl : k < m.2.2.2.2.2.2.1.len := by have := (List.getElem?_eq_some_iff.1 hx).1; rwa [Sl.list_length] at this
      refine wp_region_lit ?_
      refine sqv hf (r_move rfl) rfl rfl rfl ?_; clear hf fa; intro fa hf
      refine sqv hf (r_move rfl) rfl rfl rfl ?_; clear hf fa; intro fa hf
      refine sqdt hf (d_callB (v := (.tuple #[(.int .i64 ((j : Nat) : Int)), (.agg #[(.string ex.1), (.int .u8 ex.2.1), (.int .u32 ex.2.2.1)]), (.bool true)])) (vs := [(.slice ua ul.length uc), (.string nm)]) rfl Try.func45 (by kernel_rfl) (by kernel_rfl) (by have h := (findU_any ul nm ua ul.length uc _ (Row.rd (by intros; rfl) hr1) rfl (by omega) (fun u hu => exps_of (hUM _ (Below.refl _ _) u hu).1 hb)); rw [e1] at h; exact h)) rfl rfl rfl ?_; clear hf fa; rintro fa _ w4 ⟨rfl, he4⟩ hf
      replace hk1 := blk_ext hk1 he4
      replace hr1 := Row.ext hr1 he4
      replace hb := hb.trans (Below.mono he4 hb.size)
      refine sqv hf (r_move rfl) rfl rfl rfl ?_; clear hf fa; intro fa hf
      refine sqv hf (r_extract rfl (i := 0) rfl) rfl rfl rfl ?_; clear hf fa; intro fa hf
      refine sqv hf (r_extract rfl (i := 1) rfl) rfl rfl rfl ?_; clear hf fa; intro fa hf
      refine sqv hf (r_extract rfl (i := 2) rfl) rfl rfl rfl ?_; clear hf fa; intro fa hf
      refine sqdt hf (d_alloc (z := (.agg #[(.string ⟨#[]⟩), (.int .u8 (0 : Int)), (.int .u32 (0 : Int))])) (cs := #[(.string ⟨#[]⟩), (.int .u8 (0 : Int)), (.int .u32 (0 : Int))]) (by kernel_rfl) rfl) rfl rfl rfl ?_; clear hf fa; rintro fa _ w5 ⟨b2, rfl, hle2, hk2, he5⟩ hf
      have hBb2 : w.heap.size ≤ b2 := Nat.le_trans hb.size hle2
      have : b1 < b2 := Nat.lt_of_lt_of_le (blk_lt hk1) hle2
      replace hk1 := blk_ext hk1 he5
      replace hr1 := Row.ext hr1 he5
      replace hb := hb.trans (Below.mono he5 hb.size)
      refine sqv hf (r_assign rfl) rfl rfl rfl ?_; clear hf fa; intro fa hf
      refine sqn hf (d_storeK (T := 94) (v := (.agg #[(.string ex.1), (.int .u8 ex.2.1), (.int .u32 ex.2.2.1)])) (cs := #[(.string ⟨#[]⟩), (.int .u8 (0 : Int)), (.int .u32 (0 : Int))]) (cs' := #[(.string ex.1), (.int .u8 ex.2.1), (.int .u32 ex.2.2.1)]) rfl rfl (by kernel_rfl) (by kernel_rfl) hk2 (by kernel_rfl) (by kernel_rfl)) rfl rfl ?_; clear hf fa; rintro fa _ w6 ⟨hk3, hg1⟩ hf
      replace hk1 := blk_grown hk1 hg1 (by omega)
      replace hr1 := Row.grown hr1 hg1 (Row.ne_type hr1 hk2 rfl)
      replace hb := hb.trans (grown_below hg1 hb.size hBb2)
      refine sqv hf (r_assign rfl) rfl rfl rfl ?_; clear hf fa; intro fa hf
      apply wpList_nil
      (try simp only [Exit.then, Exit.inBlock, ↓reduceIte, Nat.reduceEqDiff])
      refine hK8 _ _ ?_
      refine wp_seq_k (fun K9 hK9 => ?_)
      refine wp_region_lit ?_
      refine sqv hf (r_move rfl) rfl rfl rfl ?_; clear hf fa; intro fa hf
      refine sqv hf (r_move rfl) rfl rfl rfl ?_; clear hf fa; intro fa hf
      refine sqdt hf (d_callB (v := (.tuple #[(.int .i64 ((j : Nat) : Int)), (.int .i64 ((k : Nat) : Int))])) (vs := [(.slice d.at' d.len d.cap), (.string nm)]) rfl Try.func50 (by kernel_rfl) (by kernel_rfl) (by have h := findRM_any d nm _ ⟨g.1, fSl_kept g.2 hb⟩; rw [e2] at h; exact h)) rfl rfl rfl ?_; clear hf fa; rintro fa _ w7 ⟨rfl, he6⟩ hf
      replace hk1 := blk_ext hk1 he6
      replace hk3 := blk_ext hk3 he6
      replace hr1 := Row.ext hr1 he6
      replace hb := hb.trans (Below.mono he6 hb.size)
      refine sqv hf (r_move rfl) rfl rfl rfl ?_; clear hf fa; intro fa hf
      refine sqv hf (r_extract rfl (i := 0) rfl) rfl rfl rfl ?_; clear hf fa; intro fa hf
      refine sqv hf (r_extract rfl (i := 1) rfl) rfl rfl rfl ?_; clear hf fa; intro fa hf
      refine sqv hf (r_assign rfl) rfl rfl rfl ?_; clear hf fa; intro fa hf
      refine sqv hf (r_assign rfl) rfl rfl rfl ?_; clear hf fa; intro fa hf
      apply wpList_nil
      (try simp only [Exit.then, Exit.inBlock, ↓reduceIte, Nat.reduceEqDiff])
      refine hK9 _ _ ?_
      refine wp_seq_k (fun K10 hK10 => ?_)
      refine wp_seq_k (fun K11 hK11 => ?_)
      have hy1 : (d.list)[j]? = some m := hm
      obtain ⟨ab1, aoff1, hat1, hlb1, hel1⟩ := RdS.at (RdS.of_arg g.2) hy1
      have hy2 : (m.2.2.2.2.2.2.1.list)[k]? = some ex := hx
      obtain ⟨ab2, aoff2, hat2, hlb2, hel2⟩ := RdS.at (RdS.of_arg gm.2.2.2.2.2.2.1.2) hy2
      refine wp_region_un (fun wq => Below w7.heap.size w7 wq) (fun w w' => Below w.heap.size w w')
        (fun V => [(fun x _ => x = (.bool true)), (fun x _ => x = (.int .i64 ((j : Nat) : Int))), (fun x _ => x = (.bool true)), (fun x _ => x = (.bool false)), (fun x _ => x = (.bool false)), (fun x _ => x = (.bool true)), (fun x _ => x = (.bool true)), (fun x _ => x = (.int .i64 ((j : Nat) : Int))), (fun x _ => x = (.int .i64 ((j : Nat) : Int))), (fun x _ => x = (.bool false)), (fun x _ => x = (.bool false)), (fun x _ => x = (.agg #[(.string ex.1), (.int .u8 ex.2.1), (.int .u32 ex.2.2.1)])), (fun x _ => x = (.slice d.at' d.len d.cap)), (fun x _ => x = (.int .i64 ((j : Nat) : Int))), (fun x _ => x = (.pointer (some ⟨ab1, (aoff1 + j * 17), none⟩))), (fun x _ => x = (.pointer (some ⟨ab1, ((aoff1 + j * 17) + 6), none⟩))), (fun x _ => x = (.slice m.2.2.2.2.2.2.1.at' m.2.2.2.2.2.2.1.len m.2.2.2.2.2.2.1.cap)), (fun x _ => x = (.int .i64 ((k : Nat) : Int))), (fun x _ => x = (.pointer (some ⟨ab2, (aoff2 + k * 3), none⟩))), (fun x _ => x = (.agg #[(.string ex.1), (.int .u8 ex.2.1), (.int .u32 ex.2.2.1)])), (fun x _ => x = (.bool false)), (fun x _ => x = (.bool false)), (fun x _ => x = (.bool false)), (fun x _ => x = (.bool false)), (fun x _ => x = (.bool false)), (fun x _ => x = (.bool true)), (fun x _ => x = (.bool false)), (fun x _ => x = (.bool false)), (fun x _ => x = gb false (.bool false)), (fun x _ => x = gb false (.bool false)), (fun x _ => x = gb false (.bool false)), (fun x _ => x = gb false (.bool false)), (fun x _ => x = gb false (.bool false)), (fun x _ => x = gb false (.bool false)), (fun x _ => x = gb false (.bool false)), (fun x _ => x = (.bool false)), (fun x _ => x = (.bool false))])
        []
        [[], [], [1], [0, 2], [3], [4], [4, 5], [6], [6], [6, 7, 8], [6, 9], [10], [10], [10], [10, 12, 13], [10, 14], [10, 15], [10], [10, 16, 17], [10, 18], [10, 11, 19], [6, 10, 20], [4, 6, 21], [4, 22], [10, 23], [24], [24, 25], [24, 26], [27], [27, 28], [27, 29], [30], [30], [30, 31, 32], [27, 30, 33], [24, 27, 34], [24, 35]]
        hf (by kernel_rfl) (by kernel_rfl) (fun _ => rfl) ((Below.refl _ _).drew) (fun a b h1 h2 => h1.trans (h2.mono h1.size)) (fun _ _ h => h.size) (fun V => ⟨kept_eq, kept_eq, kept_eq, kept_eq, kept_eq, kept_eq, kept_eq, kept_eq, kept_eq, kept_eq, kept_eq, kept_eq, kept_eq, kept_eq, kept_eq, kept_eq, kept_eq, kept_eq, kept_eq, kept_eq, kept_eq, kept_eq, kept_eq, kept_eq, kept_eq, kept_eq, kept_eq, kept_eq, kept_eq, kept_eq, kept_eq, kept_eq, kept_eq, kept_eq, kept_eq, kept_eq, kept_eq, trivial⟩) (fun _ _ _ _ _ => rfl) ?_ ?_
      · skip
        intro V
        refine ⟨fun wu0 hC hd => ?_, ?_⟩
        · clear hd
          replace hb := hb.trans (hC.mono hb.size)
          replace hk1 := blk_ext hk1 hC
          replace hk3 := blk_ext hk3 hC
          replace hr1 := Row.ext hr1 hC
          exact Runs.does (r_move rfl) ⟨Below.refl _ _, rfl, nofr rfl⟩
        refine ⟨fun wu1 hC hd => ?_, ?_⟩
        · clear hd
          replace hb := hb.trans (hC.mono hb.size)
          replace hk1 := blk_ext hk1 hC
          replace hk3 := blk_ext hk3 hC
          replace hr1 := Row.ext hr1 hC
          exact Runs.does (r_move rfl) ⟨Below.refl _ _, rfl, nofr rfl⟩
        refine ⟨fun wu2 hC hd => ?_, ?_⟩
        · obtain ⟨h1, _⟩ := hd
          skip
          replace h1 : V 1 = (.int .i64 ((j : Nat) : Int)) := h1
          replace hb := hb.trans (hC.mono hb.size)
          replace hk1 := blk_ext hk1 hC
          replace hk3 := blk_ext hk3 hC
          replace hr1 := Row.ext hr1 hC
          exact Runs.does (Runs.veq (r_ge (congrArg some h1) rfl) (congrArg Value.bool (show _ = true from (decide_eq_true (by omega))))) ⟨Below.refl _ _, rfl, nofr rfl⟩
        refine ⟨fun wu3 hC hd => ?_, ?_⟩
        · obtain ⟨h0, h2, _⟩ := hd
          skip
          skip
          replace h0 : V 0 = (.bool true) := h0
          replace h2 : V 2 = (.bool true) := h2
          replace hb := hb.trans (hC.mono hb.size)
          replace hk1 := blk_ext hk1 hC
          replace hk3 := blk_ext hk3 hC
          replace hr1 := Row.ext hr1 hC
          exact Runs.does (Runs.veq (v' := (.bool false)) (r_bne Try.underlying4 (congrArg some h0) (congrArg some h2)) rfl) ⟨Below.refl _ _, rfl, nofr rfl⟩
        refine ⟨fun wu4 hC hd => ?_, ?_⟩
        · obtain ⟨h3, _⟩ := hd
          skip
          replace h3 : V 3 = (.bool false) := h3
          replace hb := hb.trans (hC.mono hb.size)
          replace hk1 := blk_ext hk1 hC
          replace hk3 := blk_ext hk3 hC
          replace hr1 := Row.ext hr1 hC
          exact Runs.does (r_move (congrArg some h3)) ⟨Below.refl _ _, rfl, nofr rfl⟩
        refine ⟨fun wu5 hC hd => ?_, ?_⟩
        · obtain ⟨h4, _⟩ := hd
          skip
          replace h4 : V 4 = (.bool false) := h4
          replace hb := hb.trans (hC.mono hb.size)
          replace hk1 := blk_ext hk1 hC
          replace hk3 := blk_ext hk3 hC
          replace hr1 := Row.ext hr1 hC
          refine ⟨true, false, congrArg some h4, fun hact => ?_, fun hact => ?_⟩
          · exact Runs.does (r_move rfl) ⟨Below.refl _ _, rfl, nofr rfl⟩
          · exfalso; simp at hact
        refine ⟨fun wu6 hC hd => ?_, ?_⟩
        · obtain ⟨h4, h5, _⟩ := hd
          skip
          skip
          replace h4 : V 4 = (.bool false) := h4
          replace h5 : V 5 = (.bool true) := h5
          replace hb := hb.trans (hC.mono hb.size)
          replace hk1 := blk_ext hk1 hC
          replace hk3 := blk_ext hk3 hC
          replace hr1 := Row.ext hr1 hC
          refine ⟨true, false, congrArg some h4, fun hact => ?_, fun hact => ?_⟩
          · exact Runs.does (r_move (congrArg some h5)) ⟨Below.refl _ _, rfl, nofr rfl⟩
          · exfalso; simp at hact
        refine ⟨fun wu7 hC hd => ?_, ?_⟩
        · obtain ⟨h6, _⟩ := hd
          skip
          replace h6 : V 6 = (.bool true) := h6
          replace hb := hb.trans (hC.mono hb.size)
          replace hk1 := blk_ext hk1 hC
          replace hk3 := blk_ext hk3 hC
          replace hr1 := Row.ext hr1 hC
          refine ⟨true, true, congrArg some h6, fun hact => ?_, fun hact => ?_⟩
          · exact Runs.does (r_move rfl) ⟨Below.refl _ _, rfl, nofr rfl⟩
          · exfalso; simp at hact
        refine ⟨fun wu8 hC hd => ?_, ?_⟩
        · obtain ⟨h6, _⟩ := hd
          skip
          replace h6 : V 6 = (.bool true) := h6
          replace hb := hb.trans (hC.mono hb.size)
          replace hk1 := blk_ext hk1 hC
          replace hk3 := blk_ext hk3 hC
          replace hr1 := Row.ext hr1 hC
          refine ⟨true, true, congrArg some h6, fun hact => ?_, fun hact => ?_⟩
          · exact Runs.does (r_move rfl) ⟨Below.refl _ _, rfl, nofr rfl⟩
          · exfalso; simp at hact
        refine ⟨fun wu9 hC hd => ?_, ?_⟩
        · obtain ⟨h6, h7, h8, _⟩ := hd
          skip
          skip
          skip
          replace h6 : V 6 = (.bool true) := h6
          replace h7 : V 7 = (.int .i64 ((j : Nat) : Int)) := h7
          replace h8 : V 8 = (.int .i64 ((j : Nat) : Int)) := h8
          replace hb := hb.trans (hC.mono hb.size)
          replace hk1 := blk_ext hk1 hC
          replace hk3 := blk_ext hk3 hC
          replace hr1 := Row.ext hr1 hC
          refine ⟨true, true, congrArg some h6, fun hact => ?_, fun hact => ?_⟩
          · exact Runs.does (Runs.veq (r_ne (congrArg some h7) (congrArg some h8)) (congrArg Value.bool (show _ = false from (decide_eq_false (by simp))))) ⟨Below.refl _ _, rfl, nofr rfl⟩
          · exfalso; simp at hact
        refine ⟨fun wu10 hC hd => ?_, ?_⟩
        · obtain ⟨h6, h9, _⟩ := hd
          skip
          skip
          replace h6 : V 6 = (.bool true) := h6
          replace h9 : V 9 = (.bool false) := h9
          replace hb := hb.trans (hC.mono hb.size)
          replace hk1 := blk_ext hk1 hC
          replace hk3 := blk_ext hk3 hC
          replace hr1 := Row.ext hr1 hC
          refine ⟨true, true, congrArg some h6, fun hact => ?_, fun hact => ?_⟩
          · exact Runs.does (r_move (congrArg some h9)) ⟨Below.refl _ _, rfl, nofr rfl⟩
          · exfalso; simp at hact
        refine ⟨fun wu11 hC hd => ?_, ?_⟩
        · obtain ⟨h10, _⟩ := hd
          skip
          replace h10 : V 10 = (.bool false) := h10
          replace hb := hb.trans (hC.mono hb.size)
          replace hk1 := blk_ext hk1 hC
          replace hk3 := blk_ext hk3 hC
          replace hr1 := Row.ext hr1 hC
          refine ⟨true, false, congrArg some h10, fun hact => ?_, fun hact => ?_⟩
          · exact Runs.does (r_loadA (cs := [(.string ex.1), (.int .u8 ex.2.1), (.int .u32 ex.2.2.1)]) rfl Try.underlying94 rfl (by kernel_rfl) (cellsAt_blk hk3)) ⟨Below.refl _ _, rfl, nofr rfl⟩
          · exfalso; simp at hact
        refine ⟨fun wu12 hC hd => ?_, ?_⟩
        · obtain ⟨h10, _⟩ := hd
          skip
          replace h10 : V 10 = (.bool false) := h10
          replace hb := hb.trans (hC.mono hb.size)
          replace hk1 := blk_ext hk1 hC
          replace hk3 := blk_ext hk3 hC
          replace hr1 := Row.ext hr1 hC
          refine ⟨true, false, congrArg some h10, fun hact => ?_, fun hact => ?_⟩
          · exact Runs.does (r_move rfl) ⟨Below.refl _ _, rfl, nofr rfl⟩
          · exfalso; simp at hact
        refine ⟨fun wu13 hC hd => ?_, ?_⟩
        · obtain ⟨h10, _⟩ := hd
          skip
          replace h10 : V 10 = (.bool false) := h10
          replace hb := hb.trans (hC.mono hb.size)
          replace hk1 := blk_ext hk1 hC
          replace hk3 := blk_ext hk3 hC
          replace hr1 := Row.ext hr1 hC
          refine ⟨true, false, congrArg some h10, fun hact => ?_, fun hact => ?_⟩
          · exact Runs.does (r_move rfl) ⟨Below.refl _ _, rfl, nofr rfl⟩
          · exfalso; simp at hact
        refine ⟨fun wu14 hC hd => ?_, ?_⟩
        · obtain ⟨h10, h12, h13, _⟩ := hd
          skip
          skip
          skip
          replace h10 : V 10 = (.bool false) := h10
          replace h12 : V 12 = (.slice d.at' d.len d.cap) := h12
          replace h13 : V 13 = (.int .i64 ((j : Nat) : Int)) := h13
          replace hb := hb.trans (hC.mono hb.size)
          replace hk1 := blk_ext hk1 hC
          replace hk3 := blk_ext hk3 hC
          replace hr1 := Row.ext hr1 hC
          refine ⟨true, false, congrArg some h10, fun hact => ?_, fun hact => ?_⟩
          · exact Runs.does (r_ixa (sz := 17) (j := j) (evAt (congrArg some h12) hat1) (congrArg some h13) Try.underlying43 (by kernel_rfl) rfl (by omega) rfl) ⟨Below.refl _ _, rfl, nofr rfl⟩
          · exfalso; simp at hact
        refine ⟨fun wu15 hC hd => ?_, ?_⟩
        · obtain ⟨h10, h14, _⟩ := hd
          skip
          skip
          replace h10 : V 10 = (.bool false) := h10
          replace h14 : V 14 = (.pointer (some ⟨ab1, (aoff1 + j * 17), none⟩)) := h14
          replace hb := hb.trans (hC.mono hb.size)
          replace hk1 := blk_ext hk1 hC
          replace hk3 := blk_ext hk3 hC
          replace hr1 := Row.ext hr1 hC
          refine ⟨true, false, congrArg some h10, fun hact => ?_, fun hact => ?_⟩
          · exact Runs.does (r_fa (congrArg some h14) Try.underlying67 (f := 6) (q := ((aoff1 + j * 17) + 6)) rfl (by kernel_rfl) rfl) ⟨Below.refl _ _, rfl, nofr rfl⟩
          · exfalso; simp at hact
        refine ⟨fun wu16 hC hd => ?_, ?_⟩
        · obtain ⟨h10, h15, _⟩ := hd
          skip
          skip
          replace h10 : V 10 = (.bool false) := h10
          replace h15 : V 15 = (.pointer (some ⟨ab1, ((aoff1 + j * 17) + 6), none⟩)) := h15
          replace hb := hb.trans (hC.mono hb.size)
          replace hk1 := blk_ext hk1 hC
          replace hk3 := blk_ext hk3 hC
          replace hr1 := Row.ext hr1 hC
          refine ⟨true, false, congrArg some h10, fun hact => ?_, fun hact => ?_⟩
          · exact Runs.does (r_load (v := (.slice m.2.2.2.2.2.2.1.at' m.2.2.2.2.2.2.1.len m.2.2.2.2.2.2.1.cap)) (congrArg some h15) Try.underlying60 rfl (cellsAt_cell (cellsAt_below hel1 hb hlb1) (i := 6) rfl rfl)) ⟨Below.refl _ _, rfl, nofr rfl⟩
          · exfalso; simp at hact
        refine ⟨fun wu17 hC hd => ?_, ?_⟩
        · obtain ⟨h10, _⟩ := hd
          skip
          replace h10 : V 10 = (.bool false) := h10
          replace hb := hb.trans (hC.mono hb.size)
          replace hk1 := blk_ext hk1 hC
          replace hk3 := blk_ext hk3 hC
          replace hr1 := Row.ext hr1 hC
          refine ⟨true, false, congrArg some h10, fun hact => ?_, fun hact => ?_⟩
          · exact Runs.does (r_move rfl) ⟨Below.refl _ _, rfl, nofr rfl⟩
          · exfalso; simp at hact
        refine ⟨fun wu18 hC hd => ?_, ?_⟩
        · obtain ⟨h10, h16, h17, _⟩ := hd
          skip
          skip
          skip
          replace h10 : V 10 = (.bool false) := h10
          replace h16 : V 16 = (.slice m.2.2.2.2.2.2.1.at' m.2.2.2.2.2.2.1.len m.2.2.2.2.2.2.1.cap) := h16
          replace h17 : V 17 = (.int .i64 ((k : Nat) : Int)) := h17
          replace hb := hb.trans (hC.mono hb.size)
          replace hk1 := blk_ext hk1 hC
          replace hk3 := blk_ext hk3 hC
          replace hr1 := Row.ext hr1 hC
          refine ⟨true, false, congrArg some h10, fun hact => ?_, fun hact => ?_⟩
          · exact Runs.does (r_ixa (sz := 3) (j := k) (evAt (congrArg some h16) hat2) (congrArg some h17) Try.underlying60 (by kernel_rfl) rfl (by omega) rfl) ⟨Below.refl _ _, rfl, nofr rfl⟩
          · exfalso; simp at hact
        refine ⟨fun wu19 hC hd => ?_, ?_⟩
        · obtain ⟨h10, h18, _⟩ := hd
          skip
          skip
          replace h10 : V 10 = (.bool false) := h10
          replace h18 : V 18 = (.pointer (some ⟨ab2, (aoff2 + k * 3), none⟩)) := h18
          replace hb := hb.trans (hC.mono hb.size)
          replace hk1 := blk_ext hk1 hC
          replace hk3 := blk_ext hk3 hC
          replace hr1 := Row.ext hr1 hC
          refine ⟨true, false, congrArg some h10, fun hact => ?_, fun hact => ?_⟩
          · exact Runs.does (r_loadA (cs := [(.string ex.1), (.int .u8 ex.2.1), (.int .u32 ex.2.2.1)]) (congrArg some h18) Try.underlying94 rfl (by kernel_rfl) (cellsAt_below hel2 hb hlb2)) ⟨Below.refl _ _, rfl, nofr rfl⟩
          · exfalso; simp at hact
        refine ⟨fun wu20 hC hd => ?_, ?_⟩
        · obtain ⟨h10, h11, h19, _⟩ := hd
          skip
          skip
          skip
          replace h10 : V 10 = (.bool false) := h10
          replace h11 : V 11 = (.agg #[(.string ex.1), (.int .u8 ex.2.1), (.int .u32 ex.2.2.1)]) := h11
          replace h19 : V 19 = (.agg #[(.string ex.1), (.int .u8 ex.2.1), (.int .u32 ex.2.2.1)]) := h19
          replace hb := hb.trans (hC.mono hb.size)
          replace hk1 := blk_ext hk1 hC
          replace hk3 := blk_ext hk3 hC
          replace hr1 := Row.ext hr1 hC
          refine ⟨true, false, congrArg some h10, fun hact => ?_, fun hact => ?_⟩
          · exact Runs.does (Runs.veq (r_ane (k := 5) (congrArg some h11) (congrArg some h19) (by kernel_rfl) (eqt_struct (xs := #[(.string ex.1), (.int .u8 ex.2.1), (.int .u32 ex.2.2.1)]) (ys := #[(.string ex.1), (.int .u8 ex.2.1), (.int .u32 ex.2.2.1)]) Try.underlying94 (by kernel_rfl) (eqf_cons (by kernel_rfl) (fun _ => by kernel_rfl) (fun _ => by kernel_rfl) (eqt_str (a := ex.1) (b := ex.1) Try.underlying9) (eqf_cons (by kernel_rfl) (fun _ => by kernel_rfl) (fun _ => by kernel_rfl) (eqt_int (kk := .u8) (a := ex.2.1) (b := ex.2.1) Try.underlying5) (eqf_one (by kernel_rfl) (fun _ => by kernel_rfl) (fun _ => by kernel_rfl) (eqt_int (kk := .u32) (a := ex.2.2.1) (b := ex.2.2.1) Try.underlying44))))) rfl) (congrArg Value.bool (show _ = false from (by simp)))) ⟨Below.refl _ _, rfl, nofr rfl⟩
          · exfalso; simp at hact
        refine ⟨fun wu21 hC hd => ?_, ?_⟩
        · obtain ⟨h6, h10, h20, _⟩ := hd
          skip
          skip
          skip
          replace h6 : V 6 = (.bool true) := h6
          replace h10 : V 10 = (.bool false) := h10
          replace h20 : V 20 = (.bool false) := h20
          replace hb := hb.trans (hC.mono hb.size)
          replace hk1 := blk_ext hk1 hC
          replace hk3 := blk_ext hk3 hC
          replace hr1 := Row.ext hr1 hC
          refine ⟨true, true, congrArg some h6, fun hact => ?_, fun hact => ?_⟩
          · exact Runs.does (r_pick (b := false) (congrArg some h10) rfl (congrArg some h20) rfl) ⟨Below.refl _ _, rfl, nofr rfl⟩
          · exfalso; simp at hact
        refine ⟨fun wu22 hC hd => ?_, ?_⟩
        · obtain ⟨h4, h6, h21, _⟩ := hd
          skip
          skip
          skip
          replace h4 : V 4 = (.bool false) := h4
          replace h6 : V 6 = (.bool true) := h6
          replace h21 : V 21 = (.bool false) := h21
          replace hb := hb.trans (hC.mono hb.size)
          replace hk1 := blk_ext hk1 hC
          replace hk3 := blk_ext hk3 hC
          replace hr1 := Row.ext hr1 hC
          refine ⟨true, false, congrArg some h4, fun hact => ?_, fun hact => ?_⟩
          · exact Runs.does (r_pick (b := true) (congrArg some h6) (congrArg some h21) rfl rfl) ⟨Below.refl _ _, rfl, nofr rfl⟩
          · exfalso; simp at hact
        refine ⟨fun wu23 hC hd => ?_, ?_⟩
        · obtain ⟨h4, h22, _⟩ := hd
          skip
          skip
          replace h4 : V 4 = (.bool false) := h4
          replace h22 : V 22 = (.bool false) := h22
          replace hb := hb.trans (hC.mono hb.size)
          replace hk1 := blk_ext hk1 hC
          replace hk3 := blk_ext hk3 hC
          replace hr1 := Row.ext hr1 hC
          exact Runs.does (r_pick (b := false) (congrArg some h4) rfl (congrArg some h22) rfl) ⟨Below.refl _ _, rfl, nofr rfl⟩
        refine ⟨fun wu24 hC hd => ?_, ?_⟩
        · obtain ⟨h10, h23, _⟩ := hd
          skip
          skip
          replace h10 : V 10 = (.bool false) := h10
          replace h23 : V 23 = (.bool false) := h23
          replace hb := hb.trans (hC.mono hb.size)
          replace hk1 := blk_ext hk1 hC
          replace hk3 := blk_ext hk3 hC
          replace hr1 := Row.ext hr1 hC
          exact Runs.does (r_move (congrArg some h23)) ⟨Below.refl _ _, rfl, nofr rfl⟩
        refine ⟨fun wu25 hC hd => ?_, ?_⟩
        · obtain ⟨h24, _⟩ := hd
          skip
          replace h24 : V 24 = (.bool false) := h24
          replace hb := hb.trans (hC.mono hb.size)
          replace hk1 := blk_ext hk1 hC
          replace hk3 := blk_ext hk3 hC
          replace hr1 := Row.ext hr1 hC
          refine ⟨true, false, congrArg some h24, fun hact => ?_, fun hact => ?_⟩
          · exact Runs.does (r_move rfl) ⟨Below.refl _ _, rfl, nofr rfl⟩
          · exfalso; simp at hact
        refine ⟨fun wu26 hC hd => ?_, ?_⟩
        · obtain ⟨h24, h25, _⟩ := hd
          skip
          skip
          replace h24 : V 24 = (.bool false) := h24
          replace h25 : V 25 = (.bool true) := h25
          replace hb := hb.trans (hC.mono hb.size)
          replace hk1 := blk_ext hk1 hC
          replace hk3 := blk_ext hk3 hC
          replace hr1 := Row.ext hr1 hC
          refine ⟨true, false, congrArg some h24, fun hact => ?_, fun hact => ?_⟩
          · exact Runs.does (Runs.veq (v' := (.bool false)) (r_not (congrArg some h25)) rfl) ⟨Below.refl _ _, rfl, nofr rfl⟩
          · exfalso; simp at hact
        refine ⟨fun wu27 hC hd => ?_, ?_⟩
        · obtain ⟨h24, h26, _⟩ := hd
          skip
          skip
          replace h24 : V 24 = (.bool false) := h24
          replace h26 : V 26 = (.bool false) := h26
          replace hb := hb.trans (hC.mono hb.size)
          replace hk1 := blk_ext hk1 hC
          replace hk3 := blk_ext hk3 hC
          replace hr1 := Row.ext hr1 hC
          refine ⟨true, false, congrArg some h24, fun hact => ?_, fun hact => ?_⟩
          · exact Runs.does (r_move (congrArg some h26)) ⟨Below.refl _ _, rfl, nofr rfl⟩
          · exfalso; simp at hact
        refine ⟨fun wu28 hC hd => ?_, ?_⟩
        · obtain ⟨h27, _⟩ := hd
          skip
          replace h27 : V 27 = (.bool false) := h27
          replace hb := hb.trans (hC.mono hb.size)
          replace hk1 := blk_ext hk1 hC
          replace hk3 := blk_ext hk3 hC
          replace hr1 := Row.ext hr1 hC
          refine ⟨true, false, congrArg some h27, fun hact => ?_, fun hact => ?_⟩
          · exfalso; simp at hact
          · exact ⟨Below.refl _ _, rfl, nofr rfl⟩
        refine ⟨fun wu29 hC hd => ?_, ?_⟩
        · obtain ⟨h27, h28, _⟩ := hd
          skip
          skip
          replace h27 : V 27 = (.bool false) := h27
          replace h28 : V 28 = gb false (.bool false) := h28
          replace hb := hb.trans (hC.mono hb.size)
          replace hk1 := blk_ext hk1 hC
          replace hk3 := blk_ext hk3 hC
          replace hr1 := Row.ext hr1 hC
          refine ⟨true, false, congrArg some h27, fun hact => ?_, fun hact => ?_⟩
          · exfalso; simp at hact
          · exact ⟨Below.refl _ _, rfl, nofr rfl⟩
        refine ⟨fun wu30 hC hd => ?_, ?_⟩
        · obtain ⟨h27, h29, _⟩ := hd
          skip
          skip
          replace h27 : V 27 = (.bool false) := h27
          replace h29 : V 29 = gb false (.bool false) := h29
          replace hb := hb.trans (hC.mono hb.size)
          replace hk1 := blk_ext hk1 hC
          replace hk3 := blk_ext hk3 hC
          replace hr1 := Row.ext hr1 hC
          refine ⟨true, false, congrArg some h27, fun hact => ?_, fun hact => ?_⟩
          · exfalso; simp at hact
          · exact ⟨Below.refl _ _, rfl, nofr rfl⟩
        refine ⟨fun wu31 hC hd => ?_, ?_⟩
        · obtain ⟨h30, _⟩ := hd
          skip
          replace h30 : V 30 = gb false (.bool false) := h30
          replace hb := hb.trans (hC.mono hb.size)
          replace hk1 := blk_ext hk1 hC
          replace hk3 := blk_ext hk3 hC
          replace hr1 := Row.ext hr1 hC
          refine ⟨false, false, congrArg some h30, fun hact => ?_, fun hact => ?_⟩
          · exfalso; simp at hact
          · exact ⟨Below.refl _ _, rfl, nofr rfl⟩
        refine ⟨fun wu32 hC hd => ?_, ?_⟩
        · obtain ⟨h30, _⟩ := hd
          skip
          replace h30 : V 30 = gb false (.bool false) := h30
          replace hb := hb.trans (hC.mono hb.size)
          replace hk1 := blk_ext hk1 hC
          replace hk3 := blk_ext hk3 hC
          replace hr1 := Row.ext hr1 hC
          refine ⟨false, false, congrArg some h30, fun hact => ?_, fun hact => ?_⟩
          · exfalso; simp at hact
          · exact ⟨Below.refl _ _, rfl, nofr rfl⟩
        refine ⟨fun wu33 hC hd => ?_, ?_⟩
        · obtain ⟨h30, h31, h32, _⟩ := hd
          skip
          skip
          skip
          replace h30 : V 30 = gb false (.bool false) := h30
          replace h31 : V 31 = gb false (.bool false) := h31
          replace h32 : V 32 = gb false (.bool false) := h32
          replace hb := hb.trans (hC.mono hb.size)
          replace hk1 := blk_ext hk1 hC
          replace hk3 := blk_ext hk3 hC
          replace hr1 := Row.ext hr1 hC
          refine ⟨false, false, congrArg some h30, fun hact => ?_, fun hact => ?_⟩
          · exfalso; simp at hact
          · exact ⟨Below.refl _ _, rfl, nofr rfl⟩
        refine ⟨fun wu34 hC hd => ?_, ?_⟩
        · obtain ⟨h27, h30, h33, _⟩ := hd
          skip
          skip
          skip
          replace h27 : V 27 = (.bool false) := h27
          replace h30 : V 30 = gb false (.bool false) := h30
          replace h33 : V 33 = gb false (.bool false) := h33
          replace hb := hb.trans (hC.mono hb.size)
          replace hk1 := blk_ext hk1 hC
          replace hk3 := blk_ext hk3 hC
          replace hr1 := Row.ext hr1 hC
          refine ⟨true, false, congrArg some h27, fun hact => ?_, fun hact => ?_⟩
          · exfalso; simp at hact
          · exact ⟨Below.refl _ _, rfl, nofr rfl⟩
        refine ⟨fun wu35 hC hd => ?_, ?_⟩
        · obtain ⟨h24, h27, h34, _⟩ := hd
          skip
          skip
          skip
          replace h24 : V 24 = (.bool false) := h24
          replace h27 : V 27 = (.bool false) := h27
          replace h34 : V 34 = gb false (.bool false) := h34
          replace hb := hb.trans (hC.mono hb.size)
          replace hk1 := blk_ext hk1 hC
          replace hk3 := blk_ext hk3 hC
          replace hr1 := Row.ext hr1 hC
          refine ⟨true, false, congrArg some h24, fun hact => ?_, fun hact => ?_⟩
          · exact Runs.does (r_pick (b := false) (congrArg some h27) (congrArg some h34) rfl rfl) ⟨Below.refl _ _, rfl, nofr rfl⟩
          · exfalso; simp at hact
        refine ⟨fun wu36 hC hd => ?_, ?_⟩
        · obtain ⟨h24, h35, _⟩ := hd
          skip
          skip
          replace h24 : V 24 = (.bool false) := h24
          replace h35 : V 35 = (.bool false) := h35
          replace hb := hb.trans (hC.mono hb.size)
          replace hk1 := blk_ext hk1 hC
          replace hk3 := blk_ext hk3 hC
          replace hr1 := Row.ext hr1 hC
          exact Runs.does (r_pick (b := false) (congrArg some h24) rfl (congrArg some h35) rfl) ⟨Below.refl _ _, rfl, nofr rfl⟩
        trivial
      · skip
        clear hf fa; intro V w8 fa he7 hp hnb hf
        have hv0 : V 0 = (.bool true) := postsHold_at hp 0 rfl
        have hv1 : V 1 = (.int .i64 ((j : Nat) : Int)) := postsHold_at hp 1 rfl
        have hv2 : V 2 = (.bool true) := postsHold_at hp 2 rfl
        have hv3 : V 3 = (.bool false) := postsHold_at hp 3 rfl
        have hv4 : V 4 = (.bool false) := postsHold_at hp 4 rfl
        have hv5 : V 5 = (.bool true) := postsHold_at hp 5 rfl
        have hv6 : V 6 = (.bool true) := postsHold_at hp 6 rfl
        have hv7 : V 7 = (.int .i64 ((j : Nat) : Int)) := postsHold_at hp 7 rfl
        have hv8 : V 8 = (.int .i64 ((j : Nat) : Int)) := postsHold_at hp 8 rfl
        have hv9 : V 9 = (.bool false) := postsHold_at hp 9 rfl
        have hv10 : V 10 = (.bool false) := postsHold_at hp 10 rfl
        have hv11 : V 11 = (.agg #[(.string ex.1), (.int .u8 ex.2.1), (.int .u32 ex.2.2.1)]) := postsHold_at hp 11 rfl
        have hv12 : V 12 = (.slice d.at' d.len d.cap) := postsHold_at hp 12 rfl
        have hv13 : V 13 = (.int .i64 ((j : Nat) : Int)) := postsHold_at hp 13 rfl
        have hv14 : V 14 = (.pointer (some ⟨ab1, (aoff1 + j * 17), none⟩)) := postsHold_at hp 14 rfl
        have hv15 : V 15 = (.pointer (some ⟨ab1, ((aoff1 + j * 17) + 6), none⟩)) := postsHold_at hp 15 rfl
        have hv16 : V 16 = (.slice m.2.2.2.2.2.2.1.at' m.2.2.2.2.2.2.1.len m.2.2.2.2.2.2.1.cap) := postsHold_at hp 16 rfl
        have hv17 : V 17 = (.int .i64 ((k : Nat) : Int)) := postsHold_at hp 17 rfl
        have hv18 : V 18 = (.pointer (some ⟨ab2, (aoff2 + k * 3), none⟩)) := postsHold_at hp 18 rfl
        have hv19 : V 19 = (.agg #[(.string ex.1), (.int .u8 ex.2.1), (.int .u32 ex.2.2.1)]) := postsHold_at hp 19 rfl
        have hv20 : V 20 = (.bool false) := postsHold_at hp 20 rfl
        have hv21 : V 21 = (.bool false) := postsHold_at hp 21 rfl
        have hv22 : V 22 = (.bool false) := postsHold_at hp 22 rfl
        have hv23 : V 23 = (.bool false) := postsHold_at hp 23 rfl
        have hv24 : V 24 = (.bool false) := postsHold_at hp 24 rfl
        have hv25 : V 25 = (.bool true) := postsHold_at hp 25 rfl
        have hv26 : V 26 = (.bool false) := postsHold_at hp 26 rfl
        have hv27 : V 27 = (.bool false) := postsHold_at hp 27 rfl
        have hv28 : V 28 = gb false (.bool false) := postsHold_at hp 28 rfl
        have hv29 : V 29 = gb false (.bool false) := postsHold_at hp 29 rfl
        have hv30 : V 30 = gb false (.bool false) := postsHold_at hp 30 rfl
        have hv31 : V 31 = gb false (.bool false) := postsHold_at hp 31 rfl
        have hv32 : V 32 = gb false (.bool false) := postsHold_at hp 32 rfl
        have hv33 : V 33 = gb false (.bool false) := postsHold_at hp 33 rfl
        have hv34 : V 34 = gb false (.bool false) := postsHold_at hp 34 rfl
        have hv35 : V 35 = (.bool false) := postsHold_at hp 35 rfl
        have hv36 : V 36 = (.bool false) := postsHold_at hp 36 rfl
        simp only [List.take_succ_cons, List.take_zero, insAll, ins, hv0, hv1, hv2, hv3, hv4, hv5, hv6, hv7, hv8, hv9, hv10, hv11, hv12, hv13, hv14, hv15, hv16, hv17, hv18, hv19, hv20, hv21, hv22, hv23, hv24, hv25, hv26, hv27, hv28, hv29, hv30, hv31, hv32, hv33, hv34, hv35, hv36] at hf
        clear hp hnb hv0 hv1 hv2 hv3 hv4 hv5 hv6 hv7 hv8 hv9 hv10 hv11 hv12 hv13 hv14 hv15 hv16 hv17 hv18 hv19 hv20 hv21 hv22 hv23 hv24 hv25 hv26 hv27 hv28 hv29 hv30 hv31 hv32 hv33 hv34 hv35 hv36
        replace hk1 := blk_ext hk1 he7
        replace hk3 := blk_ext hk3 he7
        replace hr1 := Row.ext hr1 he7
        replace hb := hb.trans (Below.mono he7 hb.size)
        (try simp only [Exit.then, Exit.inBlock, ↓reduceIte, Nat.reduceEqDiff])
        refine hK11 _ _ ?_
        refine wp_cond_false (hf.ev rfl) ?_
        refine wp_skip ?_
        (try simp only [Exit.then, Exit.inBlock, ↓reduceIte, Nat.reduceEqDiff])
        refine hK10 _ _ ?_
        refine wp_seq_k (fun K12 hK12 => ?_)
        refine wp_region_lit ?_
        refine sqv hf (r_move rfl) rfl rfl rfl ?_; clear hf fa; intro fa hf
        refine sqv hf (r_move rfl) rfl rfl rfl ?_; clear hf fa; intro fa hf
        refine sqdt hf (d_callB (v := (.tuple #[(.agg #[(.int .i64 ((ranyP d nm).1)), (.int .u32 ((ranyP d nm).2.1))]), (.agg #[(.string (ranyP d nm).2.2.1.1), (.string (ranyP d nm).2.2.1.2.1)]), (.int .i64 ((ranyP d nm).2.2.2))])) (vs := [(.slice ua ul.length uc), (.string nm)]) rfl Try.func51 (by kernel_rfl) (by kernel_rfl) (by have h := any_any ul nm _ ua ul.length uc (Row.rd (by intros; rfl) hr1) rfl (by omega) (fun u hu => hUM _ hb u hu); rw [any_eq nm hum] at h; exact h)) rfl rfl rfl ?_; clear hf fa; rintro fa _ w9 ⟨rfl, he8⟩ hf
        replace hk1 := blk_ext hk1 he8
        replace hk3 := blk_ext hk3 he8
        replace hr1 := Row.ext hr1 he8
        replace hb := hb.trans (Below.mono he8 hb.size)
        refine sqv hf (r_move rfl) rfl rfl rfl ?_; clear hf fa; intro fa hf
        refine sqv hf (r_extract rfl (i := 0) rfl) rfl rfl rfl ?_; clear hf fa; intro fa hf
        refine sqv hf (r_extract rfl (i := 1) rfl) rfl rfl rfl ?_; clear hf fa; intro fa hf
        refine sqv hf (r_extract rfl (i := 2) rfl) rfl rfl rfl ?_; clear hf fa; intro fa hf
        refine sqdt hf (d_alloc (z := (.agg #[(.int .i64 (0 : Int)), (.int .u32 (0 : Int))])) (cs := #[(.int .i64 (0 : Int)), (.int .u32 (0 : Int))]) (by kernel_rfl) rfl) rfl rfl rfl ?_; clear hf fa; rintro fa _ w10 ⟨b3, rfl, hle3, hk4, he9⟩ hf
        have hBb3 : w.heap.size ≤ b3 := Nat.le_trans hb.size hle3
        have : b1 < b3 := Nat.lt_of_lt_of_le (blk_lt hk1) hle3
        have : b2 < b3 := Nat.lt_of_lt_of_le (blk_lt hk3) hle3
        replace hk1 := blk_ext hk1 he9
        replace hk3 := blk_ext hk3 he9
        replace hr1 := Row.ext hr1 he9
        replace hb := hb.trans (Below.mono he9 hb.size)
        refine sqdt hf (d_alloc (z := (.agg #[(.string ⟨#[]⟩), (.string ⟨#[]⟩)])) (cs := #[(.string ⟨#[]⟩), (.string ⟨#[]⟩)]) (by kernel_rfl) rfl) rfl rfl rfl ?_; clear hf fa; rintro fa _ w11 ⟨b4, rfl, hle4, hk5, he10⟩ hf
        have hBb4 : w.heap.size ≤ b4 := Nat.le_trans hb.size hle4
        have : b1 < b4 := Nat.lt_of_lt_of_le (blk_lt hk1) hle4
        have : b2 < b4 := Nat.lt_of_lt_of_le (blk_lt hk3) hle4
        have : b3 < b4 := Nat.lt_of_lt_of_le (blk_lt hk4) hle4
        replace hk1 := blk_ext hk1 he10
        replace hk3 := blk_ext hk3 he10
        replace hk4 := blk_ext hk4 he10
        replace hr1 := Row.ext hr1 he10
        replace hb := hb.trans (Below.mono he10 hb.size)
        refine sqn hf (d_storeK (T := 49) (v := (.agg #[(.int .i64 ((ranyP d nm).1)), (.int .u32 ((ranyP d nm).2.1))])) (cs := #[(.int .i64 (0 : Int)), (.int .u32 (0 : Int))]) (cs' := #[(.int .i64 ((ranyP d nm).1)), (.int .u32 ((ranyP d nm).2.1))]) rfl rfl (by kernel_rfl) (by kernel_rfl) hk4 (by kernel_rfl) (by kernel_rfl)) rfl rfl ?_; clear hf fa; rintro fa _ w12 ⟨hk6, hg2⟩ hf
        replace hk1 := blk_grown hk1 hg2 (by omega)
        replace hk3 := blk_grown hk3 hg2 (by omega)
        replace hk5 := blk_grown hk5 hg2 (by omega)
        replace hr1 := Row.grown hr1 hg2 (Row.ne_type hr1 hk4 rfl)
        replace hb := hb.trans (grown_below hg2 hb.size hBb3)
        refine sqn hf (d_storeK (T := 78) (v := (.agg #[(.string (ranyP d nm).2.2.1.1), (.string (ranyP d nm).2.2.1.2.1)])) (cs := #[(.string ⟨#[]⟩), (.string ⟨#[]⟩)]) (cs' := #[(.string (ranyP d nm).2.2.1.1), (.string (ranyP d nm).2.2.1.2.1)]) rfl rfl (by kernel_rfl) (by kernel_rfl) hk5 (by kernel_rfl) (by kernel_rfl)) rfl rfl ?_; clear hf fa; rintro fa _ w13 ⟨hk7, hg3⟩ hf
        replace hk1 := blk_grown hk1 hg3 (by omega)
        replace hk3 := blk_grown hk3 hg3 (by omega)
        replace hk6 := blk_grown hk6 hg3 (by omega)
        replace hr1 := Row.grown hr1 hg3 (Row.ne_type hr1 hk5 rfl)
        replace hb := hb.trans (grown_below hg3 hb.size hBb4)
        refine sqv hf (r_assign rfl) rfl rfl rfl ?_; clear hf fa; intro fa hf
        apply wpList_nil
        (try simp only [Exit.then, Exit.inBlock, ↓reduceIte, Nat.reduceEqDiff])
        refine hK12 _ _ ?_
        refine wp_seq_k (fun K13 hK13 => ?_)
        refine wp_region_lit ?_
        refine sqv hf (r_move rfl) rfl rfl rfl ?_; clear hf fa; intro fa hf
        refine sqv hf (r_move rfl) rfl rfl rfl ?_; clear hf fa; intro fa hf
        refine sqdt hf (d_callB (vs := [(.slice d.at' d.len d.cap), (.string nm)]) rfl Try.func52 (by kernel_rfl) (by kernel_rfl) (rany_any d nm _ ⟨g.1, fSl_kept g.2 hb⟩ hU.2.2.2)) rfl rfl rfl ?_; clear hf fa; rintro fa _ w14 ⟨rfl, he11⟩ hf
        replace hk1 := blk_ext hk1 he11
        replace hk3 := blk_ext hk3 he11
        replace hk6 := blk_ext hk6 he11
        replace hk7 := blk_ext hk7 he11
        replace hr1 := Row.ext hr1 he11
        replace hb := hb.trans (Below.mono he11 hb.size)
        refine sqv hf (r_move rfl) rfl rfl rfl ?_; clear hf fa; intro fa hf
        refine sqv hf (r_extract rfl (i := 0) rfl) rfl rfl rfl ?_; clear hf fa; intro fa hf
        refine sqv hf (r_extract rfl (i := 1) rfl) rfl rfl rfl ?_; clear hf fa; intro fa hf
        refine sqv hf (r_extract rfl (i := 2) rfl) rfl rfl rfl ?_; clear hf fa; intro fa hf
        refine sqv hf (r_extract rfl (i := 3) rfl) rfl rfl rfl ?_; clear hf fa; intro fa hf
        refine sqdt hf (d_alloc (z := (.agg #[(.string ⟨#[]⟩), (.string ⟨#[]⟩)])) (cs := #[(.string ⟨#[]⟩), (.string ⟨#[]⟩)]) (by kernel_rfl) rfl) rfl rfl rfl ?_; clear hf fa; rintro fa _ w15 ⟨b5, rfl, hle5, hk8, he12⟩ hf
        have hBb5 : w.heap.size ≤ b5 := Nat.le_trans hb.size hle5
        have : b1 < b5 := Nat.lt_of_lt_of_le (blk_lt hk1) hle5
        have : b2 < b5 := Nat.lt_of_lt_of_le (blk_lt hk3) hle5
        have : b3 < b5 := Nat.lt_of_lt_of_le (blk_lt hk6) hle5
        have : b4 < b5 := Nat.lt_of_lt_of_le (blk_lt hk7) hle5
        replace hk1 := blk_ext hk1 he12
        replace hk3 := blk_ext hk3 he12
        replace hk6 := blk_ext hk6 he12
        replace hk7 := blk_ext hk7 he12
        replace hr1 := Row.ext hr1 he12
        replace hb := hb.trans (Below.mono he12 hb.size)
        refine sqv hf (r_assign rfl) rfl rfl rfl ?_; clear hf fa; intro fa hf
        refine sqv hf (r_assign rfl) rfl rfl rfl ?_; clear hf fa; intro fa hf
        refine sqn hf (d_storeK (T := 78) (v := (.agg #[(.string (ranyP d nm).2.2.1.1), (.string (ranyP d nm).2.2.1.2.1)])) (cs := #[(.string ⟨#[]⟩), (.string ⟨#[]⟩)]) (cs' := #[(.string (ranyP d nm).2.2.1.1), (.string (ranyP d nm).2.2.1.2.1)]) rfl rfl (by kernel_rfl) (by kernel_rfl) hk8 (by kernel_rfl) (by kernel_rfl)) rfl rfl ?_; clear hf fa; rintro fa _ w16 ⟨hk9, hg4⟩ hf
        replace hk1 := blk_grown hk1 hg4 (by omega)
        replace hk3 := blk_grown hk3 hg4 (by omega)
        replace hk6 := blk_grown hk6 hg4 (by omega)
        replace hk7 := blk_grown hk7 hg4 (by omega)
        replace hr1 := Row.grown hr1 hg4 (Row.ne_type hr1 hk8 rfl)
        replace hb := hb.trans (grown_below hg4 hb.size hBb5)
        refine sqv hf (r_assign rfl) rfl rfl rfl ?_; clear hf fa; intro fa hf
        apply wpList_nil
        (try simp only [Exit.then, Exit.inBlock, ↓reduceIte, Nat.reduceEqDiff])
        refine hK13 _ _ ?_
        refine wp_seq_k (fun K14 hK14 => ?_)
        refine wp_seq_k (fun K15 hK15 => ?_)
        refine wp_region_lit ?_
        refine sqv hf (r_move rfl) rfl rfl rfl ?_; clear hf fa; intro fa hf
        refine sqv hf (r_move rfl) rfl rfl rfl ?_; clear hf fa; intro fa hf
        refine sqv hf (Runs.veq (r_ne rfl rfl) (congrArg Value.bool (show _ = false from (by simp)))) rfl rfl rfl ?_; clear hf fa; intro fa hf
        refine sqv hf (r_move rfl) rfl rfl rfl ?_; clear hf fa; intro fa hf
        refine sqgd (act := true) (g := 3) (want := false) (ag := true) (c := false) hf (by rfl) (by rfl) rfl (fun _ =>  Runs.does (R := fun vq wq => vq = (.agg #[(.string (ranyP d nm).2.2.1.1), (.string (ranyP d nm).2.2.1.2.1)]) ∧ w16 = wq) (r_loadA (cs := [(.string (ranyP d nm).2.2.1.1), (.string (ranyP d nm).2.2.1.2.1)]) rfl Try.underlying78 rfl (by kernel_rfl) (cellsAt_blk hk7)) ⟨rfl, rfl⟩) (fun h => by cases h) rfl ?_; clear hf fa; rintro fa _ _ ⟨rfl, rfl⟩ hf
        change Fr _ _ ((113, (.agg #[(.string (ranyP d nm).2.2.1.1), (.string (ranyP d nm).2.2.1.2.1)])) :: _) at hf
        refine sqgd (act := true) (g := 3) (want := false) (ag := true) (c := false) hf (by rfl) (by rfl) rfl (fun _ =>  Runs.does (R := fun vq wq => vq = (.agg #[(.string (ranyP d nm).2.2.1.1), (.string (ranyP d nm).2.2.1.2.1)]) ∧ w16 = wq) (r_loadA (cs := [(.string (ranyP d nm).2.2.1.1), (.string (ranyP d nm).2.2.1.2.1)]) rfl Try.underlying78 rfl (by kernel_rfl) (cellsAt_blk hk9)) ⟨rfl, rfl⟩) (fun h => by cases h) rfl ?_; clear hf fa; rintro fa _ _ ⟨rfl, rfl⟩ hf
        change Fr _ _ ((114, (.agg #[(.string (ranyP d nm).2.2.1.1), (.string (ranyP d nm).2.2.1.2.1)])) :: _) at hf
        refine sqgd (act := true) (g := 3) (want := false) (ag := true) (c := false) hf (by rfl) (by rfl) rfl (fun _ =>  Runs.does (R := fun vq wq => vq = (.bool false) ∧ w16 = wq) (Runs.veq (r_ane (k := 5) rfl rfl (by kernel_rfl) (eqt_struct (xs := #[(.string (ranyP d nm).2.2.1.1), (.string (ranyP d nm).2.2.1.2.1)]) (ys := #[(.string (ranyP d nm).2.2.1.1), (.string (ranyP d nm).2.2.1.2.1)]) Try.underlying78 (by kernel_rfl) (eqf_cons (by kernel_rfl) (fun _ => by kernel_rfl) (fun _ => by kernel_rfl) (eqt_str (a := (ranyP d nm).2.2.1.1) (b := (ranyP d nm).2.2.1.1) Try.underlying9) (eqf_one (by kernel_rfl) (fun _ => by kernel_rfl) (fun _ => by kernel_rfl) (eqt_str (a := (ranyP d nm).2.2.1.2.1) (b := (ranyP d nm).2.2.1.2.1) Try.underlying9)))) rfl) (congrArg Value.bool (show _ = false from (by simp)))) ⟨rfl, rfl⟩) (fun h => by cases h) rfl ?_; clear hf fa; rintro fa _ _ ⟨rfl, rfl⟩ hf
        change Fr _ _ ((115, (.bool false)) :: _) at hf
        refine sqv hf (r_pick (b := false) rfl rfl rfl rfl) rfl rfl rfl ?_; clear hf fa; intro fa hf
        refine sqv hf (r_move rfl) rfl rfl rfl ?_; clear hf fa; intro fa hf
        refine sqgd (act := true) (g := 8) (want := false) (ag := true) (c := false) hf (by rfl) (by rfl) rfl (fun _ =>  Runs.does (R := fun vq wq => vq = (.agg #[(.int .i64 ((ranyP d nm).1)), (.int .u32 ((ranyP d nm).2.1))]) ∧ w16 = wq) (r_loadA (cs := [(.int .i64 ((ranyP d nm).1)), (.int .u32 ((ranyP d nm).2.1))]) rfl Try.underlying49 rfl (by kernel_rfl) (cellsAt_blk hk6)) ⟨rfl, rfl⟩) (fun h => by cases h) rfl ?_; clear hf fa; rintro fa _ _ ⟨rfl, rfl⟩ hf
        change Fr _ _ ((118, (.agg #[(.int .i64 ((ranyP d nm).1)), (.int .u32 ((ranyP d nm).2.1))])) :: _) at hf
        refine sqgd (act := true) (g := 8) (want := false) (ag := true) (c := false) hf (by rfl) (by rfl) rfl (fun _ =>  Runs.does (R := fun vq wq => vq = (.int .i64 ((ranyP d nm).1)) ∧ w16 = wq) (r_move rfl) ⟨rfl, rfl⟩) (fun h => by cases h) rfl ?_; clear hf fa; rintro fa _ _ ⟨rfl, rfl⟩ hf
        change Fr _ _ ((119, (.int .i64 ((ranyP d nm).1))) :: _) at hf
        refine sqgd (act := true) (g := 8) (want := false) (ag := true) (c := false) hf (by rfl) (by rfl) rfl (fun _ =>  Runs.does (R := fun vq wq => vq = (.int .u32 ((ranyP d nm).2.1)) ∧ w16 = wq) (r_move rfl) ⟨rfl, rfl⟩) (fun h => by cases h) rfl ?_; clear hf fa; rintro fa _ _ ⟨rfl, rfl⟩ hf
        change Fr _ _ ((120, (.int .u32 ((ranyP d nm).2.1))) :: _) at hf
        refine sqgd (act := true) (g := 8) (want := false) (ag := true) (c := false) hf (by rfl) (by rfl) rfl (fun _ =>  Runs.does (R := fun vq wq => vq = (.agg #[(.int .i64 ((ranyP d nm).1)), (.int .u32 ((ranyP d nm).2.1))]) ∧ w16 = wq) (r_build (vs := [(0, (.int .i64 ((ranyP d nm).1))), (1, (.int .u32 ((ranyP d nm).2.1)))]) (cs := #[(.int .i64 ((ranyP d nm).1)), (.int .u32 ((ranyP d nm).2.1))]) rfl (fun _ => by kernel_rfl)) ⟨rfl, rfl⟩) (fun h => by cases h) rfl ?_; clear hf fa; rintro fa _ _ ⟨rfl, rfl⟩ hf
        change Fr _ _ ((121, (.agg #[(.int .i64 ((ranyP d nm).1)), (.int .u32 ((ranyP d nm).2.1))])) :: _) at hf
        refine sqgd (act := true) (g := 8) (want := false) (ag := true) (c := false) hf (by rfl) (by rfl) rfl (fun _ =>  Runs.does (R := fun vq wq => vq = (.bool false) ∧ w16 = wq) (Runs.veq (r_ane (k := 5) rfl rfl (by kernel_rfl) (eqt_struct (xs := #[(.int .i64 ((ranyP d nm).1)), (.int .u32 ((ranyP d nm).2.1))]) (ys := #[(.int .i64 ((ranyP d nm).1)), (.int .u32 ((ranyP d nm).2.1))]) Try.underlying49 (by kernel_rfl) (eqf_cons (by kernel_rfl) (fun _ => by kernel_rfl) (fun _ => by kernel_rfl) (eqt_int (kk := .i64) (a := ((ranyP d nm).1)) (b := ((ranyP d nm).1)) Try.underlying3) (eqf_one (by kernel_rfl) (fun _ => by kernel_rfl) (fun _ => by kernel_rfl) (eqt_int (kk := .u32) (a := ((ranyP d nm).2.1)) (b := ((ranyP d nm).2.1)) Try.underlying44)))) rfl) (congrArg Value.bool (show _ = false from (by simp)))) ⟨rfl, rfl⟩) (fun h => by cases h) rfl ?_; clear hf fa; rintro fa _ _ ⟨rfl, rfl⟩ hf
        change Fr _ _ ((122, (.bool false)) :: _) at hf
        refine sqv hf (r_pick (b := false) rfl rfl rfl rfl) rfl rfl rfl ?_; clear hf fa; intro fa hf
        apply wpList_nil
        (try simp only [Exit.then, Exit.inBlock, ↓reduceIte, Nat.reduceEqDiff])
        refine hK15 _ _ ?_
        refine wp_cond_false (hf.ev rfl) ?_
        refine wp_skip ?_
        (try simp only [Exit.then, Exit.inBlock, ↓reduceIte, Nat.reduceEqDiff])
        refine hK14 _ _ ?_
        refine wp_seq_k (fun K16 hK16 => ?_)
        refine wp_region_lit ?_
        refine sqv hf (r_move rfl) rfl rfl rfl ?_; clear hf fa; intro fa hf
        refine sqv hf (r_move rfl) rfl rfl rfl ?_; clear hf fa; intro fa hf
        refine sqv hf (r_loadA (cs := [(.string t.1), (.string t.2.1)]) rfl Try.underlying78 rfl (by kernel_rfl) (cellsAt_blk hk1)) rfl rfl rfl ?_; clear hf fa; intro fa hf
        refine sqdt hf (d_callB (vs := [(.slice ua ul.length uc), (.string nm), (.agg #[(.string t.1), (.string t.2.1)])]) rfl Try.func53 (by kernel_rfl) (by kernel_rfl) (func_any d nm t _ ul ⟨g.1, fSl_kept g.2 hb⟩ hU.2.2.2 ua ul.length uc (Row.rd (by intros; rfl) hr1) rfl (by omega) hum)) rfl rfl rfl ?_; clear hf fa; rintro fa _ w17 ⟨rfl, he13⟩ hf
        replace hk1 := blk_ext hk1 he13
        replace hk3 := blk_ext hk3 he13
        replace hk6 := blk_ext hk6 he13
        replace hk7 := blk_ext hk7 he13
        replace hk9 := blk_ext hk9 he13
        replace hr1 := Row.ext hr1 he13
        replace hb := hb.trans (Below.mono he13 hb.size)
        refine sqv hf (r_move rfl) rfl rfl rfl ?_; clear hf fa; intro fa hf
        refine sqv hf (r_extract rfl (i := 0) rfl) rfl rfl rfl ?_; clear hf fa; intro fa hf
        refine sqv hf (r_extract rfl (i := 1) rfl) rfl rfl rfl ?_; clear hf fa; intro fa hf
        refine sqdt hf (d_alloc (z := (.agg #[(.int .i64 (0 : Int)), (.int .u32 (0 : Int))])) (cs := #[(.int .i64 (0 : Int)), (.int .u32 (0 : Int))]) (by kernel_rfl) rfl) rfl rfl rfl ?_; clear hf fa; rintro fa _ w18 ⟨b6, rfl, hle6, hk10, he14⟩ hf
        have hBb6 : w.heap.size ≤ b6 := Nat.le_trans hb.size hle6
        have : b1 < b6 := Nat.lt_of_lt_of_le (blk_lt hk1) hle6
        have : b2 < b6 := Nat.lt_of_lt_of_le (blk_lt hk3) hle6
        have : b3 < b6 := Nat.lt_of_lt_of_le (blk_lt hk6) hle6
        have : b4 < b6 := Nat.lt_of_lt_of_le (blk_lt hk7) hle6
        have : b5 < b6 := Nat.lt_of_lt_of_le (blk_lt hk9) hle6
        replace hk1 := blk_ext hk1 he14
        replace hk3 := blk_ext hk3 he14
        replace hk6 := blk_ext hk6 he14
        replace hk7 := blk_ext hk7 he14
        replace hk9 := blk_ext hk9 he14
        replace hr1 := Row.ext hr1 he14
        replace hb := hb.trans (Below.mono he14 hb.size)
        refine sqn hf (d_storeK (T := 49) (v := (.agg #[(.int .i64 ((funcP d nm t).1.1)), (.int .u32 ((funcP d nm t).1.2.1))])) (cs := #[(.int .i64 (0 : Int)), (.int .u32 (0 : Int))]) (cs' := #[(.int .i64 ((funcP d nm t).1.1)), (.int .u32 ((funcP d nm t).1.2.1))]) rfl rfl (by kernel_rfl) (by kernel_rfl) hk10 (by kernel_rfl) (by kernel_rfl)) rfl rfl ?_; clear hf fa; rintro fa _ w19 ⟨hk11, hg5⟩ hf
        replace hk1 := blk_grown hk1 hg5 (by omega)
        replace hk3 := blk_grown hk3 hg5 (by omega)
        replace hk6 := blk_grown hk6 hg5 (by omega)
        replace hk7 := blk_grown hk7 hg5 (by omega)
        replace hk9 := blk_grown hk9 hg5 (by omega)
        replace hr1 := Row.grown hr1 hg5 (Row.ne_type hr1 hk10 rfl)
        replace hb := hb.trans (grown_below hg5 hb.size hBb6)
        refine sqv hf (r_assign rfl) rfl rfl rfl ?_; clear hf fa; intro fa hf
        apply wpList_nil
        (try simp only [Exit.then, Exit.inBlock, ↓reduceIte, Nat.reduceEqDiff])
        refine hK16 _ _ ?_
        refine wp_seq_k (fun K17 hK17 => ?_)
        refine wp_region_lit ?_
        refine sqv hf (r_move rfl) rfl rfl rfl ?_; clear hf fa; intro fa hf
        refine sqv hf (r_move rfl) rfl rfl rfl ?_; clear hf fa; intro fa hf
        refine sqv hf (r_loadA (cs := [(.string (ranyP d nm).2.2.1.1), (.string (ranyP d nm).2.2.1.2.1)]) rfl Try.underlying78 rfl (by kernel_rfl) (cellsAt_blk hk7)) rfl rfl rfl ?_; clear hf fa; intro fa hf
        refine sqdt hf (d_callB (vs := [(.slice ua ul.length uc), (.string nm), (.agg #[(.string (ranyP d nm).2.2.1.1), (.string (ranyP d nm).2.2.1.2.1)])]) rfl Try.func53 (by kernel_rfl) (by kernel_rfl) (func_any d nm (ranyP d nm).2.2.1 _ ul ⟨g.1, fSl_kept g.2 hb⟩ hU.2.2.2 ua ul.length uc (Row.rd (by intros; rfl) hr1) rfl (by omega) hum)) rfl rfl rfl ?_; clear hf fa; rintro fa _ w20 ⟨rfl, he15⟩ hf
        replace hk1 := blk_ext hk1 he15
        replace hk3 := blk_ext hk3 he15
        replace hk6 := blk_ext hk6 he15
        replace hk7 := blk_ext hk7 he15
        replace hk9 := blk_ext hk9 he15
        replace hk11 := blk_ext hk11 he15
        replace hr1 := Row.ext hr1 he15
        replace hb := hb.trans (Below.mono he15 hb.size)
        refine sqv hf (r_move rfl) rfl rfl rfl ?_; clear hf fa; intro fa hf
        refine sqv hf (r_extract rfl (i := 0) rfl) rfl rfl rfl ?_; clear hf fa; intro fa hf
        refine sqv hf (r_extract rfl (i := 1) rfl) rfl rfl rfl ?_; clear hf fa; intro fa hf
        refine sqdt hf (d_alloc (z := (.agg #[(.int .i64 (0 : Int)), (.int .u32 (0 : Int))])) (cs := #[(.int .i64 (0 : Int)), (.int .u32 (0 : Int))]) (by kernel_rfl) rfl) rfl rfl rfl ?_; clear hf fa; rintro fa _ w21 ⟨b7, rfl, hle7, hk12, he16⟩ hf
        have hBb7 : w.heap.size ≤ b7 := Nat.le_trans hb.size hle7
        have : b1 < b7 := Nat.lt_of_lt_of_le (blk_lt hk1) hle7
        have : b2 < b7 := Nat.lt_of_lt_of_le (blk_lt hk3) hle7
        have : b3 < b7 := Nat.lt_of_lt_of_le (blk_lt hk6) hle7
        have : b4 < b7 := Nat.lt_of_lt_of_le (blk_lt hk7) hle7
        have : b5 < b7 := Nat.lt_of_lt_of_le (blk_lt hk9) hle7
        have : b6 < b7 := Nat.lt_of_lt_of_le (blk_lt hk11) hle7
        replace hk1 := blk_ext hk1 he16
        replace hk3 := blk_ext hk3 he16
        replace hk6 := blk_ext hk6 he16
        replace hk7 := blk_ext hk7 he16
        replace hk9 := blk_ext hk9 he16
        replace hk11 := blk_ext hk11 he16
        replace hr1 := Row.ext hr1 he16
        replace hb := hb.trans (Below.mono he16 hb.size)
        refine sqn hf (d_storeK (T := 49) (v := (.agg #[(.int .i64 ((funcP d nm (ranyP d nm).2.2.1).1.1)), (.int .u32 ((funcP d nm (ranyP d nm).2.2.1).1.2.1))])) (cs := #[(.int .i64 (0 : Int)), (.int .u32 (0 : Int))]) (cs' := #[(.int .i64 ((funcP d nm (ranyP d nm).2.2.1).1.1)), (.int .u32 ((funcP d nm (ranyP d nm).2.2.1).1.2.1))]) rfl rfl (by kernel_rfl) (by kernel_rfl) hk12 (by kernel_rfl) (by kernel_rfl)) rfl rfl ?_; clear hf fa; rintro fa _ w22 ⟨hk13, hg6⟩ hf
        replace hk1 := blk_grown hk1 hg6 (by omega)
        replace hk3 := blk_grown hk3 hg6 (by omega)
        replace hk6 := blk_grown hk6 hg6 (by omega)
        replace hk7 := blk_grown hk7 hg6 (by omega)
        replace hk9 := blk_grown hk9 hg6 (by omega)
        replace hk11 := blk_grown hk11 hg6 (by omega)
        replace hr1 := Row.grown hr1 hg6 (Row.ne_type hr1 hk12 rfl)
        replace hb := hb.trans (grown_below hg6 hb.size hBb7)
        refine sqv hf (r_assign rfl) rfl rfl rfl ?_; clear hf fa; intro fa hf
        apply wpList_nil
        (try simp only [Exit.then, Exit.inBlock, ↓reduceIte, Nat.reduceEqDiff])
        refine hK17 _ _ ?_
        refine wp_seq_k (fun K18 hK18 => ?_)
        refine wp_seq_k (fun K19 hK19 => ?_)
        refine wp_region_lit ?_
        refine sqv hf (r_move rfl) rfl rfl rfl ?_; clear hf fa; intro fa hf
        refine sqv hf (r_ne rfl rfl) rfl rfl rfl ?_; clear hf fa; intro fa hf
        refine sqv hf (r_move rfl) rfl rfl rfl ?_; clear hf fa; intro fa hf
        refine sqgT (act := (decide (((ranyP d nm).2.2.2) ≠ (0 : Int)))) (ag := true) (c := (decide (((ranyP d nm).2.2.2) ≠ (0 : Int)))) (v := (.int .i64 ((funcP d nm t).2))) hf rfl rfl rfl (fun hact => (r_move rfl)) rfl rfl ?_; clear hf fa; intro fa hf
        refine sqgT (act := (decide (((ranyP d nm).2.2.2) ≠ (0 : Int)))) (ag := true) (c := (decide (((ranyP d nm).2.2.2) ≠ (0 : Int)))) (v := (.int .i64 ((ranyP d nm).2.2.2))) hf rfl rfl rfl (fun hact => (r_move rfl)) rfl rfl ?_; clear hf fa; intro fa hf
        refine sqgT (act := (decide (((ranyP d nm).2.2.2) ≠ (0 : Int)))) (ag := true) (c := (decide (((ranyP d nm).2.2.2) ≠ (0 : Int)))) (v := (.bool (decide (((funcP d nm t).2) ≠ ((ranyP d nm).2.2.2))))) hf rfl rfl rfl (fun hact => (r_ne (gb_ev hact rfl) (gb_ev hact rfl))) rfl rfl ?_; clear hf fa; intro fa hf
        refine sqgT (act := (decide (((ranyP d nm).2.2.2) ≠ (0 : Int)))) (ag := true) (c := (decide (((ranyP d nm).2.2.2) ≠ (0 : Int)))) (v := (.bool (decide (((funcP d nm t).2) ≠ ((ranyP d nm).2.2.2))))) hf rfl rfl rfl (fun hact => (r_move (gb_ev hact rfl))) rfl rfl ?_; clear hf fa; intro fa hf
        refine sqgF (act := ((decide (((ranyP d nm).2.2.2) ≠ (0 : Int))) && !(decide (((funcP d nm t).2) ≠ ((ranyP d nm).2.2.2))))) (ag := (decide (((ranyP d nm).2.2.2) ≠ (0 : Int)))) (c := (decide (((funcP d nm t).2) ≠ ((ranyP d nm).2.2.2)))) (v := (.int .i64 ((funcP d nm (ranyP d nm).2.2.1).2))) hf rfl rfl rfl (fun hact => (r_move rfl)) rfl rfl ?_; clear hf fa; intro fa hf
        refine sqgF (act := ((decide (((ranyP d nm).2.2.2) ≠ (0 : Int))) && !(decide (((funcP d nm t).2) ≠ ((ranyP d nm).2.2.2))))) (ag := (decide (((ranyP d nm).2.2.2) ≠ (0 : Int)))) (c := (decide (((funcP d nm t).2) ≠ ((ranyP d nm).2.2.2)))) (v := (.int .i64 ((ranyP d nm).2.2.2))) hf rfl rfl rfl (fun hact => (r_move rfl)) rfl rfl ?_; clear hf fa; intro fa hf
        refine sqgF (act := ((decide (((ranyP d nm).2.2.2) ≠ (0 : Int))) && !(decide (((funcP d nm t).2) ≠ ((ranyP d nm).2.2.2))))) (ag := (decide (((ranyP d nm).2.2.2) ≠ (0 : Int)))) (c := (decide (((funcP d nm t).2) ≠ ((ranyP d nm).2.2.2)))) (v := (.bool (decide (((funcP d nm (ranyP d nm).2.2.1).2) ≠ ((ranyP d nm).2.2.2))))) hf rfl rfl rfl (fun hact => (r_ne (gb_ev hact rfl) (gb_ev hact rfl))) rfl rfl ?_; clear hf fa; intro fa hf
        refine sqgT (act := (decide (((ranyP d nm).2.2.2) ≠ (0 : Int)))) (ag := true) (c := (decide (((ranyP d nm).2.2.2) ≠ (0 : Int)))) (v := (.bool ((decide (((funcP d nm t).2) ≠ ((ranyP d nm).2.2.2))) || (decide (((funcP d nm (ranyP d nm).2.2.1).2) ≠ ((ranyP d nm).2.2.2)))))) hf rfl rfl rfl (fun hact => (r_pickO2 (q := (decide (((ranyP d nm).2.2.2) ≠ (0 : Int)))) (b := (decide (((funcP d nm t).2) ≠ ((ranyP d nm).2.2.2)))) (e := (decide (((funcP d nm (ranyP d nm).2.2.1).2) ≠ ((ranyP d nm).2.2.2)))) hact rfl rfl rfl)) rfl rfl ?_; clear hf fa; intro fa hf
        refine sqv hf (r_pickA (b := (decide (((ranyP d nm).2.2.2) ≠ (0 : Int)))) (e := ((decide (((funcP d nm t).2) ≠ ((ranyP d nm).2.2.2))) || (decide (((funcP d nm (ranyP d nm).2.2.1).2) ≠ ((ranyP d nm).2.2.2))))) rfl rfl rfl) rfl rfl rfl ?_; clear hf fa; intro fa hf
        refine sqv hf (r_move rfl) rfl rfl rfl ?_; clear hf fa; intro fa hf
        refine sqgF (act := (!((decide (((ranyP d nm).2.2.2) ≠ (0 : Int))) && ((decide (((funcP d nm t).2) ≠ ((ranyP d nm).2.2.2))) || (decide (((funcP d nm (ranyP d nm).2.2.1).2) ≠ ((ranyP d nm).2.2.2))))))) (ag := true) (c := ((decide (((ranyP d nm).2.2.2) ≠ (0 : Int))) && ((decide (((funcP d nm t).2) ≠ ((ranyP d nm).2.2.2))) || (decide (((funcP d nm (ranyP d nm).2.2.1).2) ≠ ((ranyP d nm).2.2.2)))))) (v := (.int .i64 ((ranyP d nm).2.2.2))) hf rfl rfl rfl (fun hact => (r_move rfl)) rfl rfl ?_; clear hf fa; intro fa hf
        refine sqgF (act := (!((decide (((ranyP d nm).2.2.2) ≠ (0 : Int))) && ((decide (((funcP d nm t).2) ≠ ((ranyP d nm).2.2.2))) || (decide (((funcP d nm (ranyP d nm).2.2.1).2) ≠ ((ranyP d nm).2.2.2))))))) (ag := true) (c := ((decide (((ranyP d nm).2.2.2) ≠ (0 : Int))) && ((decide (((funcP d nm t).2) ≠ ((ranyP d nm).2.2.2))) || (decide (((funcP d nm (ranyP d nm).2.2.1).2) ≠ ((ranyP d nm).2.2.2)))))) (v := (.bool (decide (((ranyP d nm).2.2.2) = (0 : Int))))) hf rfl rfl rfl (fun hact => (r_eq (gb_ev hact rfl) rfl)) rfl rfl ?_; clear hf fa; intro fa hf
        refine sqgF (act := (!((decide (((ranyP d nm).2.2.2) ≠ (0 : Int))) && ((decide (((funcP d nm t).2) ≠ ((ranyP d nm).2.2.2))) || (decide (((funcP d nm (ranyP d nm).2.2.1).2) ≠ ((ranyP d nm).2.2.2))))))) (ag := true) (c := ((decide (((ranyP d nm).2.2.2) ≠ (0 : Int))) && ((decide (((funcP d nm t).2) ≠ ((ranyP d nm).2.2.2))) || (decide (((funcP d nm (ranyP d nm).2.2.1).2) ≠ ((ranyP d nm).2.2.2)))))) (v := (.bool (decide (((ranyP d nm).2.2.2) = (0 : Int))))) hf rfl rfl rfl (fun hact => (r_move (gb_ev hact rfl))) rfl rfl ?_; clear hf fa; intro fa hf
        refine sqgT (act := ((!((decide (((ranyP d nm).2.2.2) ≠ (0 : Int))) && ((decide (((funcP d nm t).2) ≠ ((ranyP d nm).2.2.2))) || (decide (((funcP d nm (ranyP d nm).2.2.1).2) ≠ ((ranyP d nm).2.2.2)))))) && (decide (((ranyP d nm).2.2.2) = (0 : Int))))) (ag := (!((decide (((ranyP d nm).2.2.2) ≠ (0 : Int))) && ((decide (((funcP d nm t).2) ≠ ((ranyP d nm).2.2.2))) || (decide (((funcP d nm (ranyP d nm).2.2.1).2) ≠ ((ranyP d nm).2.2.2))))))) (c := (decide (((ranyP d nm).2.2.2) = (0 : Int)))) (v := (.int .i64 ((funcP d nm (ranyP d nm).2.2.1).2))) hf rfl rfl rfl (fun hact => (r_move rfl)) rfl rfl ?_; clear hf fa; intro fa hf
        refine sqgT (act := ((!((decide (((ranyP d nm).2.2.2) ≠ (0 : Int))) && ((decide (((funcP d nm t).2) ≠ ((ranyP d nm).2.2.2))) || (decide (((funcP d nm (ranyP d nm).2.2.1).2) ≠ ((ranyP d nm).2.2.2)))))) && (decide (((ranyP d nm).2.2.2) = (0 : Int))))) (ag := (!((decide (((ranyP d nm).2.2.2) ≠ (0 : Int))) && ((decide (((funcP d nm t).2) ≠ ((ranyP d nm).2.2.2))) || (decide (((funcP d nm (ranyP d nm).2.2.1).2) ≠ ((ranyP d nm).2.2.2))))))) (c := (decide (((ranyP d nm).2.2.2) = (0 : Int)))) (v := (.bool (decide (((funcP d nm (ranyP d nm).2.2.1).2) ≠ (0 : Int))))) hf rfl rfl rfl (fun hact => (r_ne (gb_ev hact rfl) rfl)) rfl rfl ?_; clear hf fa; intro fa hf
        refine sqgT (act := ((!((decide (((ranyP d nm).2.2.2) ≠ (0 : Int))) && ((decide (((funcP d nm t).2) ≠ ((ranyP d nm).2.2.2))) || (decide (((funcP d nm (ranyP d nm).2.2.1).2) ≠ ((ranyP d nm).2.2.2)))))) && (decide (((ranyP d nm).2.2.2) = (0 : Int))))) (ag := (!((decide (((ranyP d nm).2.2.2) ≠ (0 : Int))) && ((decide (((funcP d nm t).2) ≠ ((ranyP d nm).2.2.2))) || (decide (((funcP d nm (ranyP d nm).2.2.1).2) ≠ ((ranyP d nm).2.2.2))))))) (c := (decide (((ranyP d nm).2.2.2) = (0 : Int)))) (v := (.bool (decide (((funcP d nm (ranyP d nm).2.2.1).2) ≠ (0 : Int))))) hf rfl rfl rfl (fun hact => (r_move (gb_ev hact rfl))) rfl rfl ?_; clear hf fa; intro fa hf
        refine sqgF (act := (((!((decide (((ranyP d nm).2.2.2) ≠ (0 : Int))) && ((decide (((funcP d nm t).2) ≠ ((ranyP d nm).2.2.2))) || (decide (((funcP d nm (ranyP d nm).2.2.1).2) ≠ ((ranyP d nm).2.2.2)))))) && (decide (((ranyP d nm).2.2.2) = (0 : Int)))) && !(decide (((funcP d nm (ranyP d nm).2.2.1).2) ≠ (0 : Int))))) (ag := ((!((decide (((ranyP d nm).2.2.2) ≠ (0 : Int))) && ((decide (((funcP d nm t).2) ≠ ((ranyP d nm).2.2.2))) || (decide (((funcP d nm (ranyP d nm).2.2.1).2) ≠ ((ranyP d nm).2.2.2)))))) && (decide (((ranyP d nm).2.2.2) = (0 : Int))))) (c := (decide (((funcP d nm (ranyP d nm).2.2.1).2) ≠ (0 : Int)))) (v := (.agg #[(.int .i64 ((funcP d nm (ranyP d nm).2.2.1).1.1)), (.int .u32 ((funcP d nm (ranyP d nm).2.2.1).1.2.1))])) hf rfl rfl rfl (fun hact => (r_loadA (cs := [(.int .i64 ((funcP d nm (ranyP d nm).2.2.1).1.1)), (.int .u32 ((funcP d nm (ranyP d nm).2.2.1).1.2.1))]) rfl Try.underlying49 rfl (by kernel_rfl) (cellsAt_blk hk13))) rfl rfl ?_; clear hf fa; intro fa hf
        refine sqgF (act := (((!((decide (((ranyP d nm).2.2.2) ≠ (0 : Int))) && ((decide (((funcP d nm t).2) ≠ ((ranyP d nm).2.2.2))) || (decide (((funcP d nm (ranyP d nm).2.2.1).2) ≠ ((ranyP d nm).2.2.2)))))) && (decide (((ranyP d nm).2.2.2) = (0 : Int)))) && !(decide (((funcP d nm (ranyP d nm).2.2.1).2) ≠ (0 : Int))))) (ag := ((!((decide (((ranyP d nm).2.2.2) ≠ (0 : Int))) && ((decide (((funcP d nm t).2) ≠ ((ranyP d nm).2.2.2))) || (decide (((funcP d nm (ranyP d nm).2.2.1).2) ≠ ((ranyP d nm).2.2.2)))))) && (decide (((ranyP d nm).2.2.2) = (0 : Int))))) (c := (decide (((funcP d nm (ranyP d nm).2.2.1).2) ≠ (0 : Int)))) (v := (.agg #[(.int .i64 ((ranyP d nm).1)), (.int .u32 ((ranyP d nm).2.1))])) hf rfl rfl rfl (fun hact => (r_loadA (cs := [(.int .i64 ((ranyP d nm).1)), (.int .u32 ((ranyP d nm).2.1))]) rfl Try.underlying49 rfl (by kernel_rfl) (cellsAt_blk hk6))) rfl rfl ?_; clear hf fa; intro fa hf
        refine sqgF (act := (((!((decide (((ranyP d nm).2.2.2) ≠ (0 : Int))) && ((decide (((funcP d nm t).2) ≠ ((ranyP d nm).2.2.2))) || (decide (((funcP d nm (ranyP d nm).2.2.1).2) ≠ ((ranyP d nm).2.2.2)))))) && (decide (((ranyP d nm).2.2.2) = (0 : Int)))) && !(decide (((funcP d nm (ranyP d nm).2.2.1).2) ≠ (0 : Int))))) (ag := ((!((decide (((ranyP d nm).2.2.2) ≠ (0 : Int))) && ((decide (((funcP d nm t).2) ≠ ((ranyP d nm).2.2.2))) || (decide (((funcP d nm (ranyP d nm).2.2.1).2) ≠ ((ranyP d nm).2.2.2)))))) && (decide (((ranyP d nm).2.2.2) = (0 : Int))))) (c := (decide (((funcP d nm (ranyP d nm).2.2.1).2) ≠ (0 : Int)))) (v := (.bool (!((decide (((funcP d nm (ranyP d nm).2.2.1).1.1) = ((ranyP d nm).1))) && (decide (((funcP d nm (ranyP d nm).2.2.1).1.2.1) = ((ranyP d nm).2.1))))))) hf rfl rfl rfl (fun hact => (r_ane (k := 5) (gb_ev hact rfl) (gb_ev hact rfl) (by kernel_rfl) (eqt_struct (xs := #[(.int .i64 ((funcP d nm (ranyP d nm).2.2.1).1.1)), (.int .u32 ((funcP d nm (ranyP d nm).2.2.1).1.2.1))]) (ys := #[(.int .i64 ((ranyP d nm).1)), (.int .u32 ((ranyP d nm).2.1))]) Try.underlying49 (by kernel_rfl) (eqf_cons (by kernel_rfl) (fun _ => by kernel_rfl) (fun _ => by kernel_rfl) (eqt_int (kk := .i64) (a := ((funcP d nm (ranyP d nm).2.2.1).1.1)) (b := ((ranyP d nm).1)) Try.underlying3) (eqf_one (by kernel_rfl) (fun _ => by kernel_rfl) (fun _ => by kernel_rfl) (eqt_int (kk := .u32) (a := ((funcP d nm (ranyP d nm).2.2.1).1.2.1)) (b := ((ranyP d nm).2.1)) Try.underlying44)))) rfl)) rfl rfl ?_; clear hf fa; intro fa hf
        refine sqgT (act := ((!((decide (((ranyP d nm).2.2.2) ≠ (0 : Int))) && ((decide (((funcP d nm t).2) ≠ ((ranyP d nm).2.2.2))) || (decide (((funcP d nm (ranyP d nm).2.2.1).2) ≠ ((ranyP d nm).2.2.2)))))) && (decide (((ranyP d nm).2.2.2) = (0 : Int))))) (ag := (!((decide (((ranyP d nm).2.2.2) ≠ (0 : Int))) && ((decide (((funcP d nm t).2) ≠ ((ranyP d nm).2.2.2))) || (decide (((funcP d nm (ranyP d nm).2.2.1).2) ≠ ((ranyP d nm).2.2.2))))))) (c := (decide (((ranyP d nm).2.2.2) = (0 : Int)))) (v := (.bool ((decide (((funcP d nm (ranyP d nm).2.2.1).2) ≠ (0 : Int))) || (!((decide (((funcP d nm (ranyP d nm).2.2.1).1.1) = ((ranyP d nm).1))) && (decide (((funcP d nm (ranyP d nm).2.2.1).1.2.1) = ((ranyP d nm).2.1)))))))) hf rfl rfl rfl (fun hact => (r_pickO2 (q := ((!((decide (((ranyP d nm).2.2.2) ≠ (0 : Int))) && ((decide (((funcP d nm t).2) ≠ ((ranyP d nm).2.2.2))) || (decide (((funcP d nm (ranyP d nm).2.2.1).2) ≠ ((ranyP d nm).2.2.2)))))) && (decide (((ranyP d nm).2.2.2) = (0 : Int))))) (b := (decide (((funcP d nm (ranyP d nm).2.2.1).2) ≠ (0 : Int)))) (e := (!((decide (((funcP d nm (ranyP d nm).2.2.1).1.1) = ((ranyP d nm).1))) && (decide (((funcP d nm (ranyP d nm).2.2.1).1.2.1) = ((ranyP d nm).2.1)))))) hact rfl rfl rfl)) rfl rfl ?_; clear hf fa; intro fa hf
        refine sqgT (act := ((!((decide (((ranyP d nm).2.2.2) ≠ (0 : Int))) && ((decide (((funcP d nm t).2) ≠ ((ranyP d nm).2.2.2))) || (decide (((funcP d nm (ranyP d nm).2.2.1).2) ≠ ((ranyP d nm).2.2.2)))))) && (decide (((ranyP d nm).2.2.2) = (0 : Int))))) (ag := (!((decide (((ranyP d nm).2.2.2) ≠ (0 : Int))) && ((decide (((funcP d nm t).2) ≠ ((ranyP d nm).2.2.2))) || (decide (((funcP d nm (ranyP d nm).2.2.1).2) ≠ ((ranyP d nm).2.2.2))))))) (c := (decide (((ranyP d nm).2.2.2) = (0 : Int)))) (v := (.bool ((decide (((funcP d nm (ranyP d nm).2.2.1).2) ≠ (0 : Int))) || (!((decide (((funcP d nm (ranyP d nm).2.2.1).1.1) = ((ranyP d nm).1))) && (decide (((funcP d nm (ranyP d nm).2.2.1).1.2.1) = ((ranyP d nm).2.1)))))))) hf rfl rfl rfl (fun hact => (r_move (gb_ev hact rfl))) rfl rfl ?_; clear hf fa; intro fa hf
        refine sqgF (act := (((!((decide (((ranyP d nm).2.2.2) ≠ (0 : Int))) && ((decide (((funcP d nm t).2) ≠ ((ranyP d nm).2.2.2))) || (decide (((funcP d nm (ranyP d nm).2.2.1).2) ≠ ((ranyP d nm).2.2.2)))))) && (decide (((ranyP d nm).2.2.2) = (0 : Int)))) && !((decide (((funcP d nm (ranyP d nm).2.2.1).2) ≠ (0 : Int))) || (!((decide (((funcP d nm (ranyP d nm).2.2.1).1.1) = ((ranyP d nm).1))) && (decide (((funcP d nm (ranyP d nm).2.2.1).1.2.1) = ((ranyP d nm).2.1)))))))) (ag := ((!((decide (((ranyP d nm).2.2.2) ≠ (0 : Int))) && ((decide (((funcP d nm t).2) ≠ ((ranyP d nm).2.2.2))) || (decide (((funcP d nm (ranyP d nm).2.2.1).2) ≠ ((ranyP d nm).2.2.2)))))) && (decide (((ranyP d nm).2.2.2) = (0 : Int))))) (c := ((decide (((funcP d nm (ranyP d nm).2.2.1).2) ≠ (0 : Int))) || (!((decide (((funcP d nm (ranyP d nm).2.2.1).1.1) = ((ranyP d nm).1))) && (decide (((funcP d nm (ranyP d nm).2.2.1).1.2.1) = ((ranyP d nm).2.1))))))) (v := (.int .i64 ((funcP d nm t).2))) hf rfl rfl rfl (fun hact => (r_move rfl)) rfl rfl ?_; clear hf fa; intro fa hf
        refine sqgF (act := (((!((decide (((ranyP d nm).2.2.2) ≠ (0 : Int))) && ((decide (((funcP d nm t).2) ≠ ((ranyP d nm).2.2.2))) || (decide (((funcP d nm (ranyP d nm).2.2.1).2) ≠ ((ranyP d nm).2.2.2)))))) && (decide (((ranyP d nm).2.2.2) = (0 : Int)))) && !((decide (((funcP d nm (ranyP d nm).2.2.1).2) ≠ (0 : Int))) || (!((decide (((funcP d nm (ranyP d nm).2.2.1).1.1) = ((ranyP d nm).1))) && (decide (((funcP d nm (ranyP d nm).2.2.1).1.2.1) = ((ranyP d nm).2.1)))))))) (ag := ((!((decide (((ranyP d nm).2.2.2) ≠ (0 : Int))) && ((decide (((funcP d nm t).2) ≠ ((ranyP d nm).2.2.2))) || (decide (((funcP d nm (ranyP d nm).2.2.1).2) ≠ ((ranyP d nm).2.2.2)))))) && (decide (((ranyP d nm).2.2.2) = (0 : Int))))) (c := ((decide (((funcP d nm (ranyP d nm).2.2.1).2) ≠ (0 : Int))) || (!((decide (((funcP d nm (ranyP d nm).2.2.1).1.1) = ((ranyP d nm).1))) && (decide (((funcP d nm (ranyP d nm).2.2.1).1.2.1) = ((ranyP d nm).2.1))))))) (v := (.bool (decide (((funcP d nm t).2) = (0 : Int))))) hf rfl rfl rfl (fun hact => (r_eq (gb_ev hact rfl) rfl)) rfl rfl ?_; clear hf fa; intro fa hf
        refine sqgF (act := (((!((decide (((ranyP d nm).2.2.2) ≠ (0 : Int))) && ((decide (((funcP d nm t).2) ≠ ((ranyP d nm).2.2.2))) || (decide (((funcP d nm (ranyP d nm).2.2.1).2) ≠ ((ranyP d nm).2.2.2)))))) && (decide (((ranyP d nm).2.2.2) = (0 : Int)))) && !((decide (((funcP d nm (ranyP d nm).2.2.1).2) ≠ (0 : Int))) || (!((decide (((funcP d nm (ranyP d nm).2.2.1).1.1) = ((ranyP d nm).1))) && (decide (((funcP d nm (ranyP d nm).2.2.1).1.2.1) = ((ranyP d nm).2.1)))))))) (ag := ((!((decide (((ranyP d nm).2.2.2) ≠ (0 : Int))) && ((decide (((funcP d nm t).2) ≠ ((ranyP d nm).2.2.2))) || (decide (((funcP d nm (ranyP d nm).2.2.1).2) ≠ ((ranyP d nm).2.2.2)))))) && (decide (((ranyP d nm).2.2.2) = (0 : Int))))) (c := ((decide (((funcP d nm (ranyP d nm).2.2.1).2) ≠ (0 : Int))) || (!((decide (((funcP d nm (ranyP d nm).2.2.1).1.1) = ((ranyP d nm).1))) && (decide (((funcP d nm (ranyP d nm).2.2.1).1.2.1) = ((ranyP d nm).2.1))))))) (v := (.agg #[(.string t.1), (.string t.2.1)])) hf rfl rfl rfl (fun hact => (r_loadA (cs := [(.string t.1), (.string t.2.1)]) rfl Try.underlying78 rfl (by kernel_rfl) (cellsAt_blk hk1))) rfl rfl ?_; clear hf fa; intro fa hf
        refine sqgF (act := (((!((decide (((ranyP d nm).2.2.2) ≠ (0 : Int))) && ((decide (((funcP d nm t).2) ≠ ((ranyP d nm).2.2.2))) || (decide (((funcP d nm (ranyP d nm).2.2.1).2) ≠ ((ranyP d nm).2.2.2)))))) && (decide (((ranyP d nm).2.2.2) = (0 : Int)))) && !((decide (((funcP d nm (ranyP d nm).2.2.1).2) ≠ (0 : Int))) || (!((decide (((funcP d nm (ranyP d nm).2.2.1).1.1) = ((ranyP d nm).1))) && (decide (((funcP d nm (ranyP d nm).2.2.1).1.2.1) = ((ranyP d nm).2.1)))))))) (ag := ((!((decide (((ranyP d nm).2.2.2) ≠ (0 : Int))) && ((decide (((funcP d nm t).2) ≠ ((ranyP d nm).2.2.2))) || (decide (((funcP d nm (ranyP d nm).2.2.1).2) ≠ ((ranyP d nm).2.2.2)))))) && (decide (((ranyP d nm).2.2.2) = (0 : Int))))) (c := ((decide (((funcP d nm (ranyP d nm).2.2.1).2) ≠ (0 : Int))) || (!((decide (((funcP d nm (ranyP d nm).2.2.1).1.1) = ((ranyP d nm).1))) && (decide (((funcP d nm (ranyP d nm).2.2.1).1.2.1) = ((ranyP d nm).2.1))))))) (v := (.agg #[(.string (ranyP d nm).2.2.1.1), (.string (ranyP d nm).2.2.1.2.1)])) hf rfl rfl rfl (fun hact => (r_loadA (cs := [(.string (ranyP d nm).2.2.1.1), (.string (ranyP d nm).2.2.1.2.1)]) rfl Try.underlying78 rfl (by kernel_rfl) (cellsAt_blk hk7))) rfl rfl ?_; clear hf fa; intro fa hf
        refine sqgF (act := (((!((decide (((ranyP d nm).2.2.2) ≠ (0 : Int))) && ((decide (((funcP d nm t).2) ≠ ((ranyP d nm).2.2.2))) || (decide (((funcP d nm (ranyP d nm).2.2.1).2) ≠ ((ranyP d nm).2.2.2)))))) && (decide (((ranyP d nm).2.2.2) = (0 : Int)))) && !((decide (((funcP d nm (ranyP d nm).2.2.1).2) ≠ (0 : Int))) || (!((decide (((funcP d nm (ranyP d nm).2.2.1).1.1) = ((ranyP d nm).1))) && (decide (((funcP d nm (ranyP d nm).2.2.1).1.2.1) = ((ranyP d nm).2.1)))))))) (ag := ((!((decide (((ranyP d nm).2.2.2) ≠ (0 : Int))) && ((decide (((funcP d nm t).2) ≠ ((ranyP d nm).2.2.2))) || (decide (((funcP d nm (ranyP d nm).2.2.1).2) ≠ ((ranyP d nm).2.2.2)))))) && (decide (((ranyP d nm).2.2.2) = (0 : Int))))) (c := ((decide (((funcP d nm (ranyP d nm).2.2.1).2) ≠ (0 : Int))) || (!((decide (((funcP d nm (ranyP d nm).2.2.1).1.1) = ((ranyP d nm).1))) && (decide (((funcP d nm (ranyP d nm).2.2.1).1.2.1) = ((ranyP d nm).2.1))))))) (v := (.bool ((decide (t.1 = (ranyP d nm).2.2.1.1)) && (decide (t.2.1 = (ranyP d nm).2.2.1.2.1))))) hf rfl rfl rfl (fun hact => (r_aeq (k := 5) (gb_ev hact rfl) (gb_ev hact rfl) (by kernel_rfl) (eqt_struct (xs := #[(.string t.1), (.string t.2.1)]) (ys := #[(.string (ranyP d nm).2.2.1.1), (.string (ranyP d nm).2.2.1.2.1)]) Try.underlying78 (by kernel_rfl) (eqf_cons (by kernel_rfl) (fun _ => by kernel_rfl) (fun _ => by kernel_rfl) (eqt_str (a := t.1) (b := (ranyP d nm).2.2.1.1) Try.underlying9) (eqf_one (by kernel_rfl) (fun _ => by kernel_rfl) (fun _ => by kernel_rfl) (eqt_str (a := t.2.1) (b := (ranyP d nm).2.2.1.2.1) Try.underlying9)))) rfl)) rfl rfl ?_; clear hf fa; intro fa hf
        refine sqgF (act := (((!((decide (((ranyP d nm).2.2.2) ≠ (0 : Int))) && ((decide (((funcP d nm t).2) ≠ ((ranyP d nm).2.2.2))) || (decide (((funcP d nm (ranyP d nm).2.2.1).2) ≠ ((ranyP d nm).2.2.2)))))) && (decide (((ranyP d nm).2.2.2) = (0 : Int)))) && !((decide (((funcP d nm (ranyP d nm).2.2.1).2) ≠ (0 : Int))) || (!((decide (((funcP d nm (ranyP d nm).2.2.1).1.1) = ((ranyP d nm).1))) && (decide (((funcP d nm (ranyP d nm).2.2.1).1.2.1) = ((ranyP d nm).2.1)))))))) (ag := ((!((decide (((ranyP d nm).2.2.2) ≠ (0 : Int))) && ((decide (((funcP d nm t).2) ≠ ((ranyP d nm).2.2.2))) || (decide (((funcP d nm (ranyP d nm).2.2.1).2) ≠ ((ranyP d nm).2.2.2)))))) && (decide (((ranyP d nm).2.2.2) = (0 : Int))))) (c := ((decide (((funcP d nm (ranyP d nm).2.2.1).2) ≠ (0 : Int))) || (!((decide (((funcP d nm (ranyP d nm).2.2.1).1.1) = ((ranyP d nm).1))) && (decide (((funcP d nm (ranyP d nm).2.2.1).1.2.1) = ((ranyP d nm).2.1))))))) (v := (.bool (!((decide (((funcP d nm t).2) = (0 : Int))) == ((decide (t.1 = (ranyP d nm).2.2.1.1)) && (decide (t.2.1 = (ranyP d nm).2.2.1.2.1))))))) hf rfl rfl rfl (fun hact => (r_bne Try.underlying4 (gb_ev hact rfl) (gb_ev hact rfl))) rfl rfl ?_; clear hf fa; intro fa hf
        refine sqgT (act := ((!((decide (((ranyP d nm).2.2.2) ≠ (0 : Int))) && ((decide (((funcP d nm t).2) ≠ ((ranyP d nm).2.2.2))) || (decide (((funcP d nm (ranyP d nm).2.2.1).2) ≠ ((ranyP d nm).2.2.2)))))) && (decide (((ranyP d nm).2.2.2) = (0 : Int))))) (ag := (!((decide (((ranyP d nm).2.2.2) ≠ (0 : Int))) && ((decide (((funcP d nm t).2) ≠ ((ranyP d nm).2.2.2))) || (decide (((funcP d nm (ranyP d nm).2.2.1).2) ≠ ((ranyP d nm).2.2.2))))))) (c := (decide (((ranyP d nm).2.2.2) = (0 : Int)))) (v := (.bool (((decide (((funcP d nm (ranyP d nm).2.2.1).2) ≠ (0 : Int))) || (!((decide (((funcP d nm (ranyP d nm).2.2.1).1.1) = ((ranyP d nm).1))) && (decide (((funcP d nm (ranyP d nm).2.2.1).1.2.1) = ((ranyP d nm).2.1)))))) || (!((decide (((funcP d nm t).2) = (0 : Int))) == ((decide (t.1 = (ranyP d nm).2.2.1.1)) && (decide (t.2.1 = (ranyP d nm).2.2.1.2.1)))))))) hf rfl rfl rfl (fun hact => (r_pickO2 (q := ((!((decide (((ranyP d nm).2.2.2) ≠ (0 : Int))) && ((decide (((funcP d nm t).2) ≠ ((ranyP d nm).2.2.2))) || (decide (((funcP d nm (ranyP d nm).2.2.1).2) ≠ ((ranyP d nm).2.2.2)))))) && (decide (((ranyP d nm).2.2.2) = (0 : Int))))) (b := ((decide (((funcP d nm (ranyP d nm).2.2.1).2) ≠ (0 : Int))) || (!((decide (((funcP d nm (ranyP d nm).2.2.1).1.1) = ((ranyP d nm).1))) && (decide (((funcP d nm (ranyP d nm).2.2.1).1.2.1) = ((ranyP d nm).2.1))))))) (e := (!((decide (((funcP d nm t).2) = (0 : Int))) == ((decide (t.1 = (ranyP d nm).2.2.1.1)) && (decide (t.2.1 = (ranyP d nm).2.2.1.2.1)))))) hact rfl rfl rfl)) rfl rfl ?_; clear hf fa; intro fa hf
        refine sqgT (act := ((!((decide (((ranyP d nm).2.2.2) ≠ (0 : Int))) && ((decide (((funcP d nm t).2) ≠ ((ranyP d nm).2.2.2))) || (decide (((funcP d nm (ranyP d nm).2.2.1).2) ≠ ((ranyP d nm).2.2.2)))))) && (decide (((ranyP d nm).2.2.2) = (0 : Int))))) (ag := (!((decide (((ranyP d nm).2.2.2) ≠ (0 : Int))) && ((decide (((funcP d nm t).2) ≠ ((ranyP d nm).2.2.2))) || (decide (((funcP d nm (ranyP d nm).2.2.1).2) ≠ ((ranyP d nm).2.2.2))))))) (c := (decide (((ranyP d nm).2.2.2) = (0 : Int)))) (v := (.bool (((decide (((funcP d nm (ranyP d nm).2.2.1).2) ≠ (0 : Int))) || (!((decide (((funcP d nm (ranyP d nm).2.2.1).1.1) = ((ranyP d nm).1))) && (decide (((funcP d nm (ranyP d nm).2.2.1).1.2.1) = ((ranyP d nm).2.1)))))) || (!((decide (((funcP d nm t).2) = (0 : Int))) == ((decide (t.1 = (ranyP d nm).2.2.1.1)) && (decide (t.2.1 = (ranyP d nm).2.2.1.2.1)))))))) hf rfl rfl rfl (fun hact => (r_move (gb_ev hact rfl))) rfl rfl ?_; clear hf fa; intro fa hf
        refine sqgF (act := (((!((decide (((ranyP d nm).2.2.2) ≠ (0 : Int))) && ((decide (((funcP d nm t).2) ≠ ((ranyP d nm).2.2.2))) || (decide (((funcP d nm (ranyP d nm).2.2.1).2) ≠ ((ranyP d nm).2.2.2)))))) && (decide (((ranyP d nm).2.2.2) = (0 : Int)))) && !(((decide (((funcP d nm (ranyP d nm).2.2.1).2) ≠ (0 : Int))) || (!((decide (((funcP d nm (ranyP d nm).2.2.1).1.1) = ((ranyP d nm).1))) && (decide (((funcP d nm (ranyP d nm).2.2.1).1.2.1) = ((ranyP d nm).2.1)))))) || (!((decide (((funcP d nm t).2) = (0 : Int))) == ((decide (t.1 = (ranyP d nm).2.2.1.1)) && (decide (t.2.1 = (ranyP d nm).2.2.1.2.1)))))))) (ag := ((!((decide (((ranyP d nm).2.2.2) ≠ (0 : Int))) && ((decide (((funcP d nm t).2) ≠ ((ranyP d nm).2.2.2))) || (decide (((funcP d nm (ranyP d nm).2.2.1).2) ≠ ((ranyP d nm).2.2.2)))))) && (decide (((ranyP d nm).2.2.2) = (0 : Int))))) (c := (((decide (((funcP d nm (ranyP d nm).2.2.1).2) ≠ (0 : Int))) || (!((decide (((funcP d nm (ranyP d nm).2.2.1).1.1) = ((ranyP d nm).1))) && (decide (((funcP d nm (ranyP d nm).2.2.1).1.2.1) = ((ranyP d nm).2.1)))))) || (!((decide (((funcP d nm t).2) = (0 : Int))) == ((decide (t.1 = (ranyP d nm).2.2.1.1)) && (decide (t.2.1 = (ranyP d nm).2.2.1.2.1))))))) (v := (.int .i64 ((funcP d nm t).2))) hf rfl rfl rfl (fun hact => (r_move rfl)) rfl rfl ?_; clear hf fa; intro fa hf
        refine sqgF (act := (((!((decide (((ranyP d nm).2.2.2) ≠ (0 : Int))) && ((decide (((funcP d nm t).2) ≠ ((ranyP d nm).2.2.2))) || (decide (((funcP d nm (ranyP d nm).2.2.1).2) ≠ ((ranyP d nm).2.2.2)))))) && (decide (((ranyP d nm).2.2.2) = (0 : Int)))) && !(((decide (((funcP d nm (ranyP d nm).2.2.1).2) ≠ (0 : Int))) || (!((decide (((funcP d nm (ranyP d nm).2.2.1).1.1) = ((ranyP d nm).1))) && (decide (((funcP d nm (ranyP d nm).2.2.1).1.2.1) = ((ranyP d nm).2.1)))))) || (!((decide (((funcP d nm t).2) = (0 : Int))) == ((decide (t.1 = (ranyP d nm).2.2.1.1)) && (decide (t.2.1 = (ranyP d nm).2.2.1.2.1)))))))) (ag := ((!((decide (((ranyP d nm).2.2.2) ≠ (0 : Int))) && ((decide (((funcP d nm t).2) ≠ ((ranyP d nm).2.2.2))) || (decide (((funcP d nm (ranyP d nm).2.2.1).2) ≠ ((ranyP d nm).2.2.2)))))) && (decide (((ranyP d nm).2.2.2) = (0 : Int))))) (c := (((decide (((funcP d nm (ranyP d nm).2.2.1).2) ≠ (0 : Int))) || (!((decide (((funcP d nm (ranyP d nm).2.2.1).1.1) = ((ranyP d nm).1))) && (decide (((funcP d nm (ranyP d nm).2.2.1).1.2.1) = ((ranyP d nm).2.1)))))) || (!((decide (((funcP d nm t).2) = (0 : Int))) == ((decide (t.1 = (ranyP d nm).2.2.1.1)) && (decide (t.2.1 = (ranyP d nm).2.2.1.2.1))))))) (v := (.bool (decide (((funcP d nm t).2) ≠ (0 : Int))))) hf rfl rfl rfl (fun hact => (r_ne (gb_ev hact rfl) rfl)) rfl rfl ?_; clear hf fa; intro fa hf
        refine sqgF (act := (((!((decide (((ranyP d nm).2.2.2) ≠ (0 : Int))) && ((decide (((funcP d nm t).2) ≠ ((ranyP d nm).2.2.2))) || (decide (((funcP d nm (ranyP d nm).2.2.1).2) ≠ ((ranyP d nm).2.2.2)))))) && (decide (((ranyP d nm).2.2.2) = (0 : Int)))) && !(((decide (((funcP d nm (ranyP d nm).2.2.1).2) ≠ (0 : Int))) || (!((decide (((funcP d nm (ranyP d nm).2.2.1).1.1) = ((ranyP d nm).1))) && (decide (((funcP d nm (ranyP d nm).2.2.1).1.2.1) = ((ranyP d nm).2.1)))))) || (!((decide (((funcP d nm t).2) = (0 : Int))) == ((decide (t.1 = (ranyP d nm).2.2.1.1)) && (decide (t.2.1 = (ranyP d nm).2.2.1.2.1)))))))) (ag := ((!((decide (((ranyP d nm).2.2.2) ≠ (0 : Int))) && ((decide (((funcP d nm t).2) ≠ ((ranyP d nm).2.2.2))) || (decide (((funcP d nm (ranyP d nm).2.2.1).2) ≠ ((ranyP d nm).2.2.2)))))) && (decide (((ranyP d nm).2.2.2) = (0 : Int))))) (c := (((decide (((funcP d nm (ranyP d nm).2.2.1).2) ≠ (0 : Int))) || (!((decide (((funcP d nm (ranyP d nm).2.2.1).1.1) = ((ranyP d nm).1))) && (decide (((funcP d nm (ranyP d nm).2.2.1).1.2.1) = ((ranyP d nm).2.1)))))) || (!((decide (((funcP d nm t).2) = (0 : Int))) == ((decide (t.1 = (ranyP d nm).2.2.1.1)) && (decide (t.2.1 = (ranyP d nm).2.2.1.2.1))))))) (v := (.bool (decide (((funcP d nm t).2) ≠ (0 : Int))))) hf rfl rfl rfl (fun hact => (r_move (gb_ev hact rfl))) rfl rfl ?_; clear hf fa; intro fa hf
        refine sqgT (act := ((((!((decide (((ranyP d nm).2.2.2) ≠ (0 : Int))) && ((decide (((funcP d nm t).2) ≠ ((ranyP d nm).2.2.2))) || (decide (((funcP d nm (ranyP d nm).2.2.1).2) ≠ ((ranyP d nm).2.2.2)))))) && (decide (((ranyP d nm).2.2.2) = (0 : Int)))) && !(((decide (((funcP d nm (ranyP d nm).2.2.1).2) ≠ (0 : Int))) || (!((decide (((funcP d nm (ranyP d nm).2.2.1).1.1) = ((ranyP d nm).1))) && (decide (((funcP d nm (ranyP d nm).2.2.1).1.2.1) = ((ranyP d nm).2.1)))))) || (!((decide (((funcP d nm t).2) = (0 : Int))) == ((decide (t.1 = (ranyP d nm).2.2.1.1)) && (decide (t.2.1 = (ranyP d nm).2.2.1.2.1))))))) && (decide (((funcP d nm t).2) ≠ (0 : Int))))) (ag := (((!((decide (((ranyP d nm).2.2.2) ≠ (0 : Int))) && ((decide (((funcP d nm t).2) ≠ ((ranyP d nm).2.2.2))) || (decide (((funcP d nm (ranyP d nm).2.2.1).2) ≠ ((ranyP d nm).2.2.2)))))) && (decide (((ranyP d nm).2.2.2) = (0 : Int)))) && !(((decide (((funcP d nm (ranyP d nm).2.2.1).2) ≠ (0 : Int))) || (!((decide (((funcP d nm (ranyP d nm).2.2.1).1.1) = ((ranyP d nm).1))) && (decide (((funcP d nm (ranyP d nm).2.2.1).1.2.1) = ((ranyP d nm).2.1)))))) || (!((decide (((funcP d nm t).2) = (0 : Int))) == ((decide (t.1 = (ranyP d nm).2.2.1.1)) && (decide (t.2.1 = (ranyP d nm).2.2.1.2.1)))))))) (c := (decide (((funcP d nm t).2) ≠ (0 : Int)))) (v := (.int .i64 ((funcP d nm t).2))) hf rfl rfl rfl (fun hact => (r_move rfl)) rfl rfl ?_; clear hf fa; intro fa hf
        refine sqgT (act := ((((!((decide (((ranyP d nm).2.2.2) ≠ (0 : Int))) && ((decide (((funcP d nm t).2) ≠ ((ranyP d nm).2.2.2))) || (decide (((funcP d nm (ranyP d nm).2.2.1).2) ≠ ((ranyP d nm).2.2.2)))))) && (decide (((ranyP d nm).2.2.2) = (0 : Int)))) && !(((decide (((funcP d nm (ranyP d nm).2.2.1).2) ≠ (0 : Int))) || (!((decide (((funcP d nm (ranyP d nm).2.2.1).1.1) = ((ranyP d nm).1))) && (decide (((funcP d nm (ranyP d nm).2.2.1).1.2.1) = ((ranyP d nm).2.1)))))) || (!((decide (((funcP d nm t).2) = (0 : Int))) == ((decide (t.1 = (ranyP d nm).2.2.1.1)) && (decide (t.2.1 = (ranyP d nm).2.2.1.2.1))))))) && (decide (((funcP d nm t).2) ≠ (0 : Int))))) (ag := (((!((decide (((ranyP d nm).2.2.2) ≠ (0 : Int))) && ((decide (((funcP d nm t).2) ≠ ((ranyP d nm).2.2.2))) || (decide (((funcP d nm (ranyP d nm).2.2.1).2) ≠ ((ranyP d nm).2.2.2)))))) && (decide (((ranyP d nm).2.2.2) = (0 : Int)))) && !(((decide (((funcP d nm (ranyP d nm).2.2.1).2) ≠ (0 : Int))) || (!((decide (((funcP d nm (ranyP d nm).2.2.1).1.1) = ((ranyP d nm).1))) && (decide (((funcP d nm (ranyP d nm).2.2.1).1.2.1) = ((ranyP d nm).2.1)))))) || (!((decide (((funcP d nm t).2) = (0 : Int))) == ((decide (t.1 = (ranyP d nm).2.2.1.1)) && (decide (t.2.1 = (ranyP d nm).2.2.1.2.1)))))))) (c := (decide (((funcP d nm t).2) ≠ (0 : Int)))) (v := (.bool (decide (((funcP d nm t).2) ≠ (7 : Int))))) hf rfl rfl rfl (fun hact => (r_ne (gb_ev hact rfl) rfl)) rfl rfl ?_; clear hf fa; intro fa hf
        refine sqgF (act := (((!((decide (((ranyP d nm).2.2.2) ≠ (0 : Int))) && ((decide (((funcP d nm t).2) ≠ ((ranyP d nm).2.2.2))) || (decide (((funcP d nm (ranyP d nm).2.2.1).2) ≠ ((ranyP d nm).2.2.2)))))) && (decide (((ranyP d nm).2.2.2) = (0 : Int)))) && !(((decide (((funcP d nm (ranyP d nm).2.2.1).2) ≠ (0 : Int))) || (!((decide (((funcP d nm (ranyP d nm).2.2.1).1.1) = ((ranyP d nm).1))) && (decide (((funcP d nm (ranyP d nm).2.2.1).1.2.1) = ((ranyP d nm).2.1)))))) || (!((decide (((funcP d nm t).2) = (0 : Int))) == ((decide (t.1 = (ranyP d nm).2.2.1.1)) && (decide (t.2.1 = (ranyP d nm).2.2.1.2.1)))))))) (ag := ((!((decide (((ranyP d nm).2.2.2) ≠ (0 : Int))) && ((decide (((funcP d nm t).2) ≠ ((ranyP d nm).2.2.2))) || (decide (((funcP d nm (ranyP d nm).2.2.1).2) ≠ ((ranyP d nm).2.2.2)))))) && (decide (((ranyP d nm).2.2.2) = (0 : Int))))) (c := (((decide (((funcP d nm (ranyP d nm).2.2.1).2) ≠ (0 : Int))) || (!((decide (((funcP d nm (ranyP d nm).2.2.1).1.1) = ((ranyP d nm).1))) && (decide (((funcP d nm (ranyP d nm).2.2.1).1.2.1) = ((ranyP d nm).2.1)))))) || (!((decide (((funcP d nm t).2) = (0 : Int))) == ((decide (t.1 = (ranyP d nm).2.2.1.1)) && (decide (t.2.1 = (ranyP d nm).2.2.1.2.1))))))) (v := (.bool ((decide (((funcP d nm t).2) ≠ (0 : Int))) && (decide (((funcP d nm t).2) ≠ (7 : Int)))))) hf rfl rfl rfl (fun hact => (r_pickA2 (q := (((!((decide (((ranyP d nm).2.2.2) ≠ (0 : Int))) && ((decide (((funcP d nm t).2) ≠ ((ranyP d nm).2.2.2))) || (decide (((funcP d nm (ranyP d nm).2.2.1).2) ≠ ((ranyP d nm).2.2.2)))))) && (decide (((ranyP d nm).2.2.2) = (0 : Int)))) && !(((decide (((funcP d nm (ranyP d nm).2.2.1).2) ≠ (0 : Int))) || (!((decide (((funcP d nm (ranyP d nm).2.2.1).1.1) = ((ranyP d nm).1))) && (decide (((funcP d nm (ranyP d nm).2.2.1).1.2.1) = ((ranyP d nm).2.1)))))) || (!((decide (((funcP d nm t).2) = (0 : Int))) == ((decide (t.1 = (ranyP d nm).2.2.1.1)) && (decide (t.2.1 = (ranyP d nm).2.2.1.2.1)))))))) (b := (decide (((funcP d nm t).2) ≠ (0 : Int)))) (e := (decide (((funcP d nm t).2) ≠ (7 : Int)))) hact rfl rfl rfl)) rfl rfl ?_; clear hf fa; intro fa hf
        refine sqgT (act := ((!((decide (((ranyP d nm).2.2.2) ≠ (0 : Int))) && ((decide (((funcP d nm t).2) ≠ ((ranyP d nm).2.2.2))) || (decide (((funcP d nm (ranyP d nm).2.2.1).2) ≠ ((ranyP d nm).2.2.2)))))) && (decide (((ranyP d nm).2.2.2) = (0 : Int))))) (ag := (!((decide (((ranyP d nm).2.2.2) ≠ (0 : Int))) && ((decide (((funcP d nm t).2) ≠ ((ranyP d nm).2.2.2))) || (decide (((funcP d nm (ranyP d nm).2.2.1).2) ≠ ((ranyP d nm).2.2.2))))))) (c := (decide (((ranyP d nm).2.2.2) = (0 : Int)))) (v := (.bool ((((decide (((funcP d nm (ranyP d nm).2.2.1).2) ≠ (0 : Int))) || (!((decide (((funcP d nm (ranyP d nm).2.2.1).1.1) = ((ranyP d nm).1))) && (decide (((funcP d nm (ranyP d nm).2.2.1).1.2.1) = ((ranyP d nm).2.1)))))) || (!((decide (((funcP d nm t).2) = (0 : Int))) == ((decide (t.1 = (ranyP d nm).2.2.1.1)) && (decide (t.2.1 = (ranyP d nm).2.2.1.2.1)))))) || ((decide (((funcP d nm t).2) ≠ (0 : Int))) && (decide (((funcP d nm t).2) ≠ (7 : Int))))))) hf rfl rfl rfl (fun hact => (r_pickO2 (q := ((!((decide (((ranyP d nm).2.2.2) ≠ (0 : Int))) && ((decide (((funcP d nm t).2) ≠ ((ranyP d nm).2.2.2))) || (decide (((funcP d nm (ranyP d nm).2.2.1).2) ≠ ((ranyP d nm).2.2.2)))))) && (decide (((ranyP d nm).2.2.2) = (0 : Int))))) (b := (((decide (((funcP d nm (ranyP d nm).2.2.1).2) ≠ (0 : Int))) || (!((decide (((funcP d nm (ranyP d nm).2.2.1).1.1) = ((ranyP d nm).1))) && (decide (((funcP d nm (ranyP d nm).2.2.1).1.2.1) = ((ranyP d nm).2.1)))))) || (!((decide (((funcP d nm t).2) = (0 : Int))) == ((decide (t.1 = (ranyP d nm).2.2.1.1)) && (decide (t.2.1 = (ranyP d nm).2.2.1.2.1))))))) (e := ((decide (((funcP d nm t).2) ≠ (0 : Int))) && (decide (((funcP d nm t).2) ≠ (7 : Int))))) hact rfl rfl rfl)) rfl rfl ?_; clear hf fa; intro fa hf
        refine sqgT (act := ((!((decide (((ranyP d nm).2.2.2) ≠ (0 : Int))) && ((decide (((funcP d nm t).2) ≠ ((ranyP d nm).2.2.2))) || (decide (((funcP d nm (ranyP d nm).2.2.1).2) ≠ ((ranyP d nm).2.2.2)))))) && (decide (((ranyP d nm).2.2.2) = (0 : Int))))) (ag := (!((decide (((ranyP d nm).2.2.2) ≠ (0 : Int))) && ((decide (((funcP d nm t).2) ≠ ((ranyP d nm).2.2.2))) || (decide (((funcP d nm (ranyP d nm).2.2.1).2) ≠ ((ranyP d nm).2.2.2))))))) (c := (decide (((ranyP d nm).2.2.2) = (0 : Int)))) (v := (.bool ((((decide (((funcP d nm (ranyP d nm).2.2.1).2) ≠ (0 : Int))) || (!((decide (((funcP d nm (ranyP d nm).2.2.1).1.1) = ((ranyP d nm).1))) && (decide (((funcP d nm (ranyP d nm).2.2.1).1.2.1) = ((ranyP d nm).2.1)))))) || (!((decide (((funcP d nm t).2) = (0 : Int))) == ((decide (t.1 = (ranyP d nm).2.2.1.1)) && (decide (t.2.1 = (ranyP d nm).2.2.1.2.1)))))) || ((decide (((funcP d nm t).2) ≠ (0 : Int))) && (decide (((funcP d nm t).2) ≠ (7 : Int))))))) hf rfl rfl rfl (fun hact => (r_move (gb_ev hact rfl))) rfl rfl ?_; clear hf fa; intro fa hf
        refine sqgF (act := (((!((decide (((ranyP d nm).2.2.2) ≠ (0 : Int))) && ((decide (((funcP d nm t).2) ≠ ((ranyP d nm).2.2.2))) || (decide (((funcP d nm (ranyP d nm).2.2.1).2) ≠ ((ranyP d nm).2.2.2)))))) && (decide (((ranyP d nm).2.2.2) = (0 : Int)))) && !((((decide (((funcP d nm (ranyP d nm).2.2.1).2) ≠ (0 : Int))) || (!((decide (((funcP d nm (ranyP d nm).2.2.1).1.1) = ((ranyP d nm).1))) && (decide (((funcP d nm (ranyP d nm).2.2.1).1.2.1) = ((ranyP d nm).2.1)))))) || (!((decide (((funcP d nm t).2) = (0 : Int))) == ((decide (t.1 = (ranyP d nm).2.2.1.1)) && (decide (t.2.1 = (ranyP d nm).2.2.1.2.1)))))) || ((decide (((funcP d nm t).2) ≠ (0 : Int))) && (decide (((funcP d nm t).2) ≠ (7 : Int))))))) (ag := ((!((decide (((ranyP d nm).2.2.2) ≠ (0 : Int))) && ((decide (((funcP d nm t).2) ≠ ((ranyP d nm).2.2.2))) || (decide (((funcP d nm (ranyP d nm).2.2.1).2) ≠ ((ranyP d nm).2.2.2)))))) && (decide (((ranyP d nm).2.2.2) = (0 : Int))))) (c := ((((decide (((funcP d nm (ranyP d nm).2.2.1).2) ≠ (0 : Int))) || (!((decide (((funcP d nm (ranyP d nm).2.2.1).1.1) = ((ranyP d nm).1))) && (decide (((funcP d nm (ranyP d nm).2.2.1).1.2.1) = ((ranyP d nm).2.1)))))) || (!((decide (((funcP d nm t).2) = (0 : Int))) == ((decide (t.1 = (ranyP d nm).2.2.1.1)) && (decide (t.2.1 = (ranyP d nm).2.2.1.2.1)))))) || ((decide (((funcP d nm t).2) ≠ (0 : Int))) && (decide (((funcP d nm t).2) ≠ (7 : Int)))))) (v := (.int .i64 ((funcP d nm t).2))) hf rfl rfl rfl (fun hact => (r_move rfl)) rfl rfl ?_; clear hf fa; intro fa hf
        refine sqgF (act := (((!((decide (((ranyP d nm).2.2.2) ≠ (0 : Int))) && ((decide (((funcP d nm t).2) ≠ ((ranyP d nm).2.2.2))) || (decide (((funcP d nm (ranyP d nm).2.2.1).2) ≠ ((ranyP d nm).2.2.2)))))) && (decide (((ranyP d nm).2.2.2) = (0 : Int)))) && !((((decide (((funcP d nm (ranyP d nm).2.2.1).2) ≠ (0 : Int))) || (!((decide (((funcP d nm (ranyP d nm).2.2.1).1.1) = ((ranyP d nm).1))) && (decide (((funcP d nm (ranyP d nm).2.2.1).1.2.1) = ((ranyP d nm).2.1)))))) || (!((decide (((funcP d nm t).2) = (0 : Int))) == ((decide (t.1 = (ranyP d nm).2.2.1.1)) && (decide (t.2.1 = (ranyP d nm).2.2.1.2.1)))))) || ((decide (((funcP d nm t).2) ≠ (0 : Int))) && (decide (((funcP d nm t).2) ≠ (7 : Int))))))) (ag := ((!((decide (((ranyP d nm).2.2.2) ≠ (0 : Int))) && ((decide (((funcP d nm t).2) ≠ ((ranyP d nm).2.2.2))) || (decide (((funcP d nm (ranyP d nm).2.2.1).2) ≠ ((ranyP d nm).2.2.2)))))) && (decide (((ranyP d nm).2.2.2) = (0 : Int))))) (c := ((((decide (((funcP d nm (ranyP d nm).2.2.1).2) ≠ (0 : Int))) || (!((decide (((funcP d nm (ranyP d nm).2.2.1).1.1) = ((ranyP d nm).1))) && (decide (((funcP d nm (ranyP d nm).2.2.1).1.2.1) = ((ranyP d nm).2.1)))))) || (!((decide (((funcP d nm t).2) = (0 : Int))) == ((decide (t.1 = (ranyP d nm).2.2.1.1)) && (decide (t.2.1 = (ranyP d nm).2.2.1.2.1)))))) || ((decide (((funcP d nm t).2) ≠ (0 : Int))) && (decide (((funcP d nm t).2) ≠ (7 : Int)))))) (v := (.bool (decide (((funcP d nm t).2) = (0 : Int))))) hf rfl rfl rfl (fun hact => (r_eq (gb_ev hact rfl) rfl)) rfl rfl ?_; clear hf fa; intro fa hf
        refine sqgF (act := (((!((decide (((ranyP d nm).2.2.2) ≠ (0 : Int))) && ((decide (((funcP d nm t).2) ≠ ((ranyP d nm).2.2.2))) || (decide (((funcP d nm (ranyP d nm).2.2.1).2) ≠ ((ranyP d nm).2.2.2)))))) && (decide (((ranyP d nm).2.2.2) = (0 : Int)))) && !((((decide (((funcP d nm (ranyP d nm).2.2.1).2) ≠ (0 : Int))) || (!((decide (((funcP d nm (ranyP d nm).2.2.1).1.1) = ((ranyP d nm).1))) && (decide (((funcP d nm (ranyP d nm).2.2.1).1.2.1) = ((ranyP d nm).2.1)))))) || (!((decide (((funcP d nm t).2) = (0 : Int))) == ((decide (t.1 = (ranyP d nm).2.2.1.1)) && (decide (t.2.1 = (ranyP d nm).2.2.1.2.1)))))) || ((decide (((funcP d nm t).2) ≠ (0 : Int))) && (decide (((funcP d nm t).2) ≠ (7 : Int))))))) (ag := ((!((decide (((ranyP d nm).2.2.2) ≠ (0 : Int))) && ((decide (((funcP d nm t).2) ≠ ((ranyP d nm).2.2.2))) || (decide (((funcP d nm (ranyP d nm).2.2.1).2) ≠ ((ranyP d nm).2.2.2)))))) && (decide (((ranyP d nm).2.2.2) = (0 : Int))))) (c := ((((decide (((funcP d nm (ranyP d nm).2.2.1).2) ≠ (0 : Int))) || (!((decide (((funcP d nm (ranyP d nm).2.2.1).1.1) = ((ranyP d nm).1))) && (decide (((funcP d nm (ranyP d nm).2.2.1).1.2.1) = ((ranyP d nm).2.1)))))) || (!((decide (((funcP d nm t).2) = (0 : Int))) == ((decide (t.1 = (ranyP d nm).2.2.1.1)) && (decide (t.2.1 = (ranyP d nm).2.2.1.2.1)))))) || ((decide (((funcP d nm t).2) ≠ (0 : Int))) && (decide (((funcP d nm t).2) ≠ (7 : Int)))))) (v := (.bool (decide (((funcP d nm t).2) = (0 : Int))))) hf rfl rfl rfl (fun hact => (r_move (gb_ev hact rfl))) rfl rfl ?_; clear hf fa; intro fa hf
        refine sqgT (act := ((((!((decide (((ranyP d nm).2.2.2) ≠ (0 : Int))) && ((decide (((funcP d nm t).2) ≠ ((ranyP d nm).2.2.2))) || (decide (((funcP d nm (ranyP d nm).2.2.1).2) ≠ ((ranyP d nm).2.2.2)))))) && (decide (((ranyP d nm).2.2.2) = (0 : Int)))) && !((((decide (((funcP d nm (ranyP d nm).2.2.1).2) ≠ (0 : Int))) || (!((decide (((funcP d nm (ranyP d nm).2.2.1).1.1) = ((ranyP d nm).1))) && (decide (((funcP d nm (ranyP d nm).2.2.1).1.2.1) = ((ranyP d nm).2.1)))))) || (!((decide (((funcP d nm t).2) = (0 : Int))) == ((decide (t.1 = (ranyP d nm).2.2.1.1)) && (decide (t.2.1 = (ranyP d nm).2.2.1.2.1)))))) || ((decide (((funcP d nm t).2) ≠ (0 : Int))) && (decide (((funcP d nm t).2) ≠ (7 : Int)))))) && (decide (((funcP d nm t).2) = (0 : Int))))) (ag := (((!((decide (((ranyP d nm).2.2.2) ≠ (0 : Int))) && ((decide (((funcP d nm t).2) ≠ ((ranyP d nm).2.2.2))) || (decide (((funcP d nm (ranyP d nm).2.2.1).2) ≠ ((ranyP d nm).2.2.2)))))) && (decide (((ranyP d nm).2.2.2) = (0 : Int)))) && !((((decide (((funcP d nm (ranyP d nm).2.2.1).2) ≠ (0 : Int))) || (!((decide (((funcP d nm (ranyP d nm).2.2.1).1.1) = ((ranyP d nm).1))) && (decide (((funcP d nm (ranyP d nm).2.2.1).1.2.1) = ((ranyP d nm).2.1)))))) || (!((decide (((funcP d nm t).2) = (0 : Int))) == ((decide (t.1 = (ranyP d nm).2.2.1.1)) && (decide (t.2.1 = (ranyP d nm).2.2.1.2.1)))))) || ((decide (((funcP d nm t).2) ≠ (0 : Int))) && (decide (((funcP d nm t).2) ≠ (7 : Int))))))) (c := (decide (((funcP d nm t).2) = (0 : Int)))) (v := (.agg #[(.int .i64 ((funcP d nm t).1.1)), (.int .u32 ((funcP d nm t).1.2.1))])) hf rfl rfl rfl (fun hact => (r_loadA (cs := [(.int .i64 ((funcP d nm t).1.1)), (.int .u32 ((funcP d nm t).1.2.1))]) rfl Try.underlying49 rfl (by kernel_rfl) (cellsAt_blk hk11))) rfl rfl ?_; clear hf fa; intro fa hf
        refine sqgT (act := ((((!((decide (((ranyP d nm).2.2.2) ≠ (0 : Int))) && ((decide (((funcP d nm t).2) ≠ ((ranyP d nm).2.2.2))) || (decide (((funcP d nm (ranyP d nm).2.2.1).2) ≠ ((ranyP d nm).2.2.2)))))) && (decide (((ranyP d nm).2.2.2) = (0 : Int)))) && !((((decide (((funcP d nm (ranyP d nm).2.2.1).2) ≠ (0 : Int))) || (!((decide (((funcP d nm (ranyP d nm).2.2.1).1.1) = ((ranyP d nm).1))) && (decide (((funcP d nm (ranyP d nm).2.2.1).1.2.1) = ((ranyP d nm).2.1)))))) || (!((decide (((funcP d nm t).2) = (0 : Int))) == ((decide (t.1 = (ranyP d nm).2.2.1.1)) && (decide (t.2.1 = (ranyP d nm).2.2.1.2.1)))))) || ((decide (((funcP d nm t).2) ≠ (0 : Int))) && (decide (((funcP d nm t).2) ≠ (7 : Int)))))) && (decide (((funcP d nm t).2) = (0 : Int))))) (ag := (((!((decide (((ranyP d nm).2.2.2) ≠ (0 : Int))) && ((decide (((funcP d nm t).2) ≠ ((ranyP d nm).2.2.2))) || (decide (((funcP d nm (ranyP d nm).2.2.1).2) ≠ ((ranyP d nm).2.2.2)))))) && (decide (((ranyP d nm).2.2.2) = (0 : Int)))) && !((((decide (((funcP d nm (ranyP d nm).2.2.1).2) ≠ (0 : Int))) || (!((decide (((funcP d nm (ranyP d nm).2.2.1).1.1) = ((ranyP d nm).1))) && (decide (((funcP d nm (ranyP d nm).2.2.1).1.2.1) = ((ranyP d nm).2.1)))))) || (!((decide (((funcP d nm t).2) = (0 : Int))) == ((decide (t.1 = (ranyP d nm).2.2.1.1)) && (decide (t.2.1 = (ranyP d nm).2.2.1.2.1)))))) || ((decide (((funcP d nm t).2) ≠ (0 : Int))) && (decide (((funcP d nm t).2) ≠ (7 : Int))))))) (c := (decide (((funcP d nm t).2) = (0 : Int)))) (v := (.agg #[(.int .i64 ((ranyP d nm).1)), (.int .u32 ((ranyP d nm).2.1))])) hf rfl rfl rfl (fun hact => (r_loadA (cs := [(.int .i64 ((ranyP d nm).1)), (.int .u32 ((ranyP d nm).2.1))]) rfl Try.underlying49 rfl (by kernel_rfl) (cellsAt_blk hk6))) rfl rfl ?_; clear hf fa; intro fa hf
        refine sqgT (act := ((((!((decide (((ranyP d nm).2.2.2) ≠ (0 : Int))) && ((decide (((funcP d nm t).2) ≠ ((ranyP d nm).2.2.2))) || (decide (((funcP d nm (ranyP d nm).2.2.1).2) ≠ ((ranyP d nm).2.2.2)))))) && (decide (((ranyP d nm).2.2.2) = (0 : Int)))) && !((((decide (((funcP d nm (ranyP d nm).2.2.1).2) ≠ (0 : Int))) || (!((decide (((funcP d nm (ranyP d nm).2.2.1).1.1) = ((ranyP d nm).1))) && (decide (((funcP d nm (ranyP d nm).2.2.1).1.2.1) = ((ranyP d nm).2.1)))))) || (!((decide (((funcP d nm t).2) = (0 : Int))) == ((decide (t.1 = (ranyP d nm).2.2.1.1)) && (decide (t.2.1 = (ranyP d nm).2.2.1.2.1)))))) || ((decide (((funcP d nm t).2) ≠ (0 : Int))) && (decide (((funcP d nm t).2) ≠ (7 : Int)))))) && (decide (((funcP d nm t).2) = (0 : Int))))) (ag := (((!((decide (((ranyP d nm).2.2.2) ≠ (0 : Int))) && ((decide (((funcP d nm t).2) ≠ ((ranyP d nm).2.2.2))) || (decide (((funcP d nm (ranyP d nm).2.2.1).2) ≠ ((ranyP d nm).2.2.2)))))) && (decide (((ranyP d nm).2.2.2) = (0 : Int)))) && !((((decide (((funcP d nm (ranyP d nm).2.2.1).2) ≠ (0 : Int))) || (!((decide (((funcP d nm (ranyP d nm).2.2.1).1.1) = ((ranyP d nm).1))) && (decide (((funcP d nm (ranyP d nm).2.2.1).1.2.1) = ((ranyP d nm).2.1)))))) || (!((decide (((funcP d nm t).2) = (0 : Int))) == ((decide (t.1 = (ranyP d nm).2.2.1.1)) && (decide (t.2.1 = (ranyP d nm).2.2.1.2.1)))))) || ((decide (((funcP d nm t).2) ≠ (0 : Int))) && (decide (((funcP d nm t).2) ≠ (7 : Int))))))) (c := (decide (((funcP d nm t).2) = (0 : Int)))) (v := (.bool (!((decide (((funcP d nm t).1.1) = ((ranyP d nm).1))) && (decide (((funcP d nm t).1.2.1) = ((ranyP d nm).2.1))))))) hf rfl rfl rfl (fun hact => (r_ane (k := 5) (gb_ev hact rfl) (gb_ev hact rfl) (by kernel_rfl) (eqt_struct (xs := #[(.int .i64 ((funcP d nm t).1.1)), (.int .u32 ((funcP d nm t).1.2.1))]) (ys := #[(.int .i64 ((ranyP d nm).1)), (.int .u32 ((ranyP d nm).2.1))]) Try.underlying49 (by kernel_rfl) (eqf_cons (by kernel_rfl) (fun _ => by kernel_rfl) (fun _ => by kernel_rfl) (eqt_int (kk := .i64) (a := ((funcP d nm t).1.1)) (b := ((ranyP d nm).1)) Try.underlying3) (eqf_one (by kernel_rfl) (fun _ => by kernel_rfl) (fun _ => by kernel_rfl) (eqt_int (kk := .u32) (a := ((funcP d nm t).1.2.1)) (b := ((ranyP d nm).2.1)) Try.underlying44)))) rfl)) rfl rfl ?_; clear hf fa; intro fa hf
        refine sqgF (act := (((!((decide (((ranyP d nm).2.2.2) ≠ (0 : Int))) && ((decide (((funcP d nm t).2) ≠ ((ranyP d nm).2.2.2))) || (decide (((funcP d nm (ranyP d nm).2.2.1).2) ≠ ((ranyP d nm).2.2.2)))))) && (decide (((ranyP d nm).2.2.2) = (0 : Int)))) && !((((decide (((funcP d nm (ranyP d nm).2.2.1).2) ≠ (0 : Int))) || (!((decide (((funcP d nm (ranyP d nm).2.2.1).1.1) = ((ranyP d nm).1))) && (decide (((funcP d nm (ranyP d nm).2.2.1).1.2.1) = ((ranyP d nm).2.1)))))) || (!((decide (((funcP d nm t).2) = (0 : Int))) == ((decide (t.1 = (ranyP d nm).2.2.1.1)) && (decide (t.2.1 = (ranyP d nm).2.2.1.2.1)))))) || ((decide (((funcP d nm t).2) ≠ (0 : Int))) && (decide (((funcP d nm t).2) ≠ (7 : Int))))))) (ag := ((!((decide (((ranyP d nm).2.2.2) ≠ (0 : Int))) && ((decide (((funcP d nm t).2) ≠ ((ranyP d nm).2.2.2))) || (decide (((funcP d nm (ranyP d nm).2.2.1).2) ≠ ((ranyP d nm).2.2.2)))))) && (decide (((ranyP d nm).2.2.2) = (0 : Int))))) (c := ((((decide (((funcP d nm (ranyP d nm).2.2.1).2) ≠ (0 : Int))) || (!((decide (((funcP d nm (ranyP d nm).2.2.1).1.1) = ((ranyP d nm).1))) && (decide (((funcP d nm (ranyP d nm).2.2.1).1.2.1) = ((ranyP d nm).2.1)))))) || (!((decide (((funcP d nm t).2) = (0 : Int))) == ((decide (t.1 = (ranyP d nm).2.2.1.1)) && (decide (t.2.1 = (ranyP d nm).2.2.1.2.1)))))) || ((decide (((funcP d nm t).2) ≠ (0 : Int))) && (decide (((funcP d nm t).2) ≠ (7 : Int)))))) (v := (.bool ((decide (((funcP d nm t).2) = (0 : Int))) && (!((decide (((funcP d nm t).1.1) = ((ranyP d nm).1))) && (decide (((funcP d nm t).1.2.1) = ((ranyP d nm).2.1)))))))) hf rfl rfl rfl (fun hact => (r_pickA2 (q := (((!((decide (((ranyP d nm).2.2.2) ≠ (0 : Int))) && ((decide (((funcP d nm t).2) ≠ ((ranyP d nm).2.2.2))) || (decide (((funcP d nm (ranyP d nm).2.2.1).2) ≠ ((ranyP d nm).2.2.2)))))) && (decide (((ranyP d nm).2.2.2) = (0 : Int)))) && !((((decide (((funcP d nm (ranyP d nm).2.2.1).2) ≠ (0 : Int))) || (!((decide (((funcP d nm (ranyP d nm).2.2.1).1.1) = ((ranyP d nm).1))) && (decide (((funcP d nm (ranyP d nm).2.2.1).1.2.1) = ((ranyP d nm).2.1)))))) || (!((decide (((funcP d nm t).2) = (0 : Int))) == ((decide (t.1 = (ranyP d nm).2.2.1.1)) && (decide (t.2.1 = (ranyP d nm).2.2.1.2.1)))))) || ((decide (((funcP d nm t).2) ≠ (0 : Int))) && (decide (((funcP d nm t).2) ≠ (7 : Int))))))) (b := (decide (((funcP d nm t).2) = (0 : Int)))) (e := (!((decide (((funcP d nm t).1.1) = ((ranyP d nm).1))) && (decide (((funcP d nm t).1.2.1) = ((ranyP d nm).2.1)))))) hact rfl rfl rfl)) rfl rfl ?_; clear hf fa; intro fa hf
        refine sqgT (act := ((!((decide (((ranyP d nm).2.2.2) ≠ (0 : Int))) && ((decide (((funcP d nm t).2) ≠ ((ranyP d nm).2.2.2))) || (decide (((funcP d nm (ranyP d nm).2.2.1).2) ≠ ((ranyP d nm).2.2.2)))))) && (decide (((ranyP d nm).2.2.2) = (0 : Int))))) (ag := (!((decide (((ranyP d nm).2.2.2) ≠ (0 : Int))) && ((decide (((funcP d nm t).2) ≠ ((ranyP d nm).2.2.2))) || (decide (((funcP d nm (ranyP d nm).2.2.1).2) ≠ ((ranyP d nm).2.2.2))))))) (c := (decide (((ranyP d nm).2.2.2) = (0 : Int)))) (v := (.bool (((((decide (((funcP d nm (ranyP d nm).2.2.1).2) ≠ (0 : Int))) || (!((decide (((funcP d nm (ranyP d nm).2.2.1).1.1) = ((ranyP d nm).1))) && (decide (((funcP d nm (ranyP d nm).2.2.1).1.2.1) = ((ranyP d nm).2.1)))))) || (!((decide (((funcP d nm t).2) = (0 : Int))) == ((decide (t.1 = (ranyP d nm).2.2.1.1)) && (decide (t.2.1 = (ranyP d nm).2.2.1.2.1)))))) || ((decide (((funcP d nm t).2) ≠ (0 : Int))) && (decide (((funcP d nm t).2) ≠ (7 : Int))))) || ((decide (((funcP d nm t).2) = (0 : Int))) && (!((decide (((funcP d nm t).1.1) = ((ranyP d nm).1))) && (decide (((funcP d nm t).1.2.1) = ((ranyP d nm).2.1))))))))) hf rfl rfl rfl (fun hact => (r_pickO2 (q := ((!((decide (((ranyP d nm).2.2.2) ≠ (0 : Int))) && ((decide (((funcP d nm t).2) ≠ ((ranyP d nm).2.2.2))) || (decide (((funcP d nm (ranyP d nm).2.2.1).2) ≠ ((ranyP d nm).2.2.2)))))) && (decide (((ranyP d nm).2.2.2) = (0 : Int))))) (b := ((((decide (((funcP d nm (ranyP d nm).2.2.1).2) ≠ (0 : Int))) || (!((decide (((funcP d nm (ranyP d nm).2.2.1).1.1) = ((ranyP d nm).1))) && (decide (((funcP d nm (ranyP d nm).2.2.1).1.2.1) = ((ranyP d nm).2.1)))))) || (!((decide (((funcP d nm t).2) = (0 : Int))) == ((decide (t.1 = (ranyP d nm).2.2.1.1)) && (decide (t.2.1 = (ranyP d nm).2.2.1.2.1)))))) || ((decide (((funcP d nm t).2) ≠ (0 : Int))) && (decide (((funcP d nm t).2) ≠ (7 : Int)))))) (e := ((decide (((funcP d nm t).2) = (0 : Int))) && (!((decide (((funcP d nm t).1.1) = ((ranyP d nm).1))) && (decide (((funcP d nm t).1.2.1) = ((ranyP d nm).2.1))))))) hact rfl rfl rfl)) rfl rfl ?_; clear hf fa; intro fa hf
        refine sqgF (act := (!((decide (((ranyP d nm).2.2.2) ≠ (0 : Int))) && ((decide (((funcP d nm t).2) ≠ ((ranyP d nm).2.2.2))) || (decide (((funcP d nm (ranyP d nm).2.2.1).2) ≠ ((ranyP d nm).2.2.2))))))) (ag := true) (c := ((decide (((ranyP d nm).2.2.2) ≠ (0 : Int))) && ((decide (((funcP d nm t).2) ≠ ((ranyP d nm).2.2.2))) || (decide (((funcP d nm (ranyP d nm).2.2.1).2) ≠ ((ranyP d nm).2.2.2)))))) (v := (.bool ((decide (((ranyP d nm).2.2.2) = (0 : Int))) && (((((decide (((funcP d nm (ranyP d nm).2.2.1).2) ≠ (0 : Int))) || (!((decide (((funcP d nm (ranyP d nm).2.2.1).1.1) = ((ranyP d nm).1))) && (decide (((funcP d nm (ranyP d nm).2.2.1).1.2.1) = ((ranyP d nm).2.1)))))) || (!((decide (((funcP d nm t).2) = (0 : Int))) == ((decide (t.1 = (ranyP d nm).2.2.1.1)) && (decide (t.2.1 = (ranyP d nm).2.2.1.2.1)))))) || ((decide (((funcP d nm t).2) ≠ (0 : Int))) && (decide (((funcP d nm t).2) ≠ (7 : Int))))) || ((decide (((funcP d nm t).2) = (0 : Int))) && (!((decide (((funcP d nm t).1.1) = ((ranyP d nm).1))) && (decide (((funcP d nm t).1.2.1) = ((ranyP d nm).2.1)))))))))) hf rfl rfl rfl (fun hact => (r_pickA2 (q := (!((decide (((ranyP d nm).2.2.2) ≠ (0 : Int))) && ((decide (((funcP d nm t).2) ≠ ((ranyP d nm).2.2.2))) || (decide (((funcP d nm (ranyP d nm).2.2.1).2) ≠ ((ranyP d nm).2.2.2))))))) (b := (decide (((ranyP d nm).2.2.2) = (0 : Int)))) (e := (((((decide (((funcP d nm (ranyP d nm).2.2.1).2) ≠ (0 : Int))) || (!((decide (((funcP d nm (ranyP d nm).2.2.1).1.1) = ((ranyP d nm).1))) && (decide (((funcP d nm (ranyP d nm).2.2.1).1.2.1) = ((ranyP d nm).2.1)))))) || (!((decide (((funcP d nm t).2) = (0 : Int))) == ((decide (t.1 = (ranyP d nm).2.2.1.1)) && (decide (t.2.1 = (ranyP d nm).2.2.1.2.1)))))) || ((decide (((funcP d nm t).2) ≠ (0 : Int))) && (decide (((funcP d nm t).2) ≠ (7 : Int))))) || ((decide (((funcP d nm t).2) = (0 : Int))) && (!((decide (((funcP d nm t).1.1) = ((ranyP d nm).1))) && (decide (((funcP d nm t).1.2.1) = ((ranyP d nm).2.1)))))))) hact rfl rfl rfl)) rfl rfl ?_; clear hf fa; intro fa hf
        refine sqv hf (r_pickO (b := ((decide (((ranyP d nm).2.2.2) ≠ (0 : Int))) && ((decide (((funcP d nm t).2) ≠ ((ranyP d nm).2.2.2))) || (decide (((funcP d nm (ranyP d nm).2.2.1).2) ≠ ((ranyP d nm).2.2.2)))))) (e := ((decide (((ranyP d nm).2.2.2) = (0 : Int))) && (((((decide (((funcP d nm (ranyP d nm).2.2.1).2) ≠ (0 : Int))) || (!((decide (((funcP d nm (ranyP d nm).2.2.1).1.1) = ((ranyP d nm).1))) && (decide (((funcP d nm (ranyP d nm).2.2.1).1.2.1) = ((ranyP d nm).2.1)))))) || (!((decide (((funcP d nm t).2) = (0 : Int))) == ((decide (t.1 = (ranyP d nm).2.2.1.1)) && (decide (t.2.1 = (ranyP d nm).2.2.1.2.1)))))) || ((decide (((funcP d nm t).2) ≠ (0 : Int))) && (decide (((funcP d nm t).2) ≠ (7 : Int))))) || ((decide (((funcP d nm t).2) = (0 : Int))) && (!((decide (((funcP d nm t).1.1) = ((ranyP d nm).1))) && (decide (((funcP d nm t).1.2.1) = ((ranyP d nm).2.1))))))))) rfl rfl rfl) rfl rfl rfl ?_; clear hf fa; intro fa hf
        apply wpList_nil
        (try simp only [Exit.then, Exit.inBlock, ↓reduceIte, Nat.reduceEqDiff])
        refine hK19 _ _ ?_
        refine wp_cond_false ((hf.ev rfl).trans (congrArg Value.bool (show (((decide (((ranyP d nm).2.2.2) ≠ (0 : Int))) && ((decide (((funcP d nm t).2) ≠ ((ranyP d nm).2.2.2))) || (decide (((funcP d nm (ranyP d nm).2.2.1).2) ≠ ((ranyP d nm).2.2.2))))) || ((decide (((ranyP d nm).2.2.2) = (0 : Int))) && (((((decide (((funcP d nm (ranyP d nm).2.2.1).2) ≠ (0 : Int))) || (!((decide (((funcP d nm (ranyP d nm).2.2.1).1.1) = ((ranyP d nm).1))) && (decide (((funcP d nm (ranyP d nm).2.2.1).1.2.1) = ((ranyP d nm).2.1)))))) || (!((decide (((funcP d nm t).2) = (0 : Int))) == ((decide (t.1 = (ranyP d nm).2.2.1.1)) && (decide (t.2.1 = (ranyP d nm).2.2.1.2.1)))))) || ((decide (((funcP d nm t).2) ≠ (0 : Int))) && (decide (((funcP d nm t).2) ≠ (7 : Int))))) || ((decide (((funcP d nm t).2) = (0 : Int))) && (!((decide (((funcP d nm t).1.1) = ((ranyP d nm).1))) && (decide (((funcP d nm t).1.2.1) = ((ranyP d nm).2.1))))))))) = false from (by
          unfold funcP
          by_cases h0 : (ranyP d nm).2.2.2 = 0
          · rw [h0]
            by_cases h1 : (ranyP d nm).2.2.1.1 = t.1
            · by_cases h2 : (ranyP d nm).2.2.1.2.1 = t.2.1
              · simp [h1, h2]
              · have h3 : ¬ t.2.1 = (ranyP d nm).2.2.1.2.1 := fun e => h2 e.symm
                simp [h1, h2, h3]
            · have h3 : ¬ t.1 = (ranyP d nm).2.2.1.1 := fun e => h1 e.symm
              simp [h1, h3]
          · simp [h0])))) ?_
        refine wp_skip ?_
        (try simp only [Exit.then, Exit.inBlock, ↓reduceIte, Nat.reduceEqDiff])
        refine hK18 _ _ ?_
        refine wp_seq_k (fun K20 hK20 => ?_)
        refine wp_region_lit ?_
        refine sqv hf (r_move rfl) rfl rfl rfl ?_; clear hf fa; intro fa hf
        refine sqv hf (r_move rfl) rfl rfl rfl ?_; clear hf fa; intro fa hf
        refine sqdt hf (d_callB (v := (.tuple #[(.agg #[(.int .i64 ((rdataP d nm).1)), (.int .u32 ((rdataP d nm).2.1))]), (.int .i64 ((rdataP d nm).2.2))])) (vs := [(.slice ua ul.length uc), (.string nm)]) rfl Try.func54 (by kernel_rfl) (by kernel_rfl) (by have h := data_any ul nm _ ua ul.length uc (Row.rd (by intros; rfl) hr1) rfl (by omega) (fun u hu => hUM _ hb u hu); rw [data_eq nm hum] at h; exact h)) rfl rfl rfl ?_; clear hf fa; rintro fa _ w23 ⟨rfl, he17⟩ hf
        replace hk1 := blk_ext hk1 he17
        replace hk3 := blk_ext hk3 he17
        replace hk6 := blk_ext hk6 he17
        replace hk7 := blk_ext hk7 he17
        replace hk9 := blk_ext hk9 he17
        replace hk11 := blk_ext hk11 he17
        replace hk13 := blk_ext hk13 he17
        replace hr1 := Row.ext hr1 he17
        replace hb := hb.trans (Below.mono he17 hb.size)
        refine sqv hf (r_move rfl) rfl rfl rfl ?_; clear hf fa; intro fa hf
        refine sqv hf (r_extract rfl (i := 0) rfl) rfl rfl rfl ?_; clear hf fa; intro fa hf
        refine sqv hf (r_extract rfl (i := 1) rfl) rfl rfl rfl ?_; clear hf fa; intro fa hf
        refine sqdt hf (d_alloc (z := (.agg #[(.int .i64 (0 : Int)), (.int .u32 (0 : Int))])) (cs := #[(.int .i64 (0 : Int)), (.int .u32 (0 : Int))]) (by kernel_rfl) rfl) rfl rfl rfl ?_; clear hf fa; rintro fa _ w24 ⟨b8, rfl, hle8, hk14, he18⟩ hf
        have hBb8 : w.heap.size ≤ b8 := Nat.le_trans hb.size hle8
        have : b1 < b8 := Nat.lt_of_lt_of_le (blk_lt hk1) hle8
        have : b2 < b8 := Nat.lt_of_lt_of_le (blk_lt hk3) hle8
        have : b3 < b8 := Nat.lt_of_lt_of_le (blk_lt hk6) hle8
        have : b4 < b8 := Nat.lt_of_lt_of_le (blk_lt hk7) hle8
        have : b5 < b8 := Nat.lt_of_lt_of_le (blk_lt hk9) hle8
        have : b6 < b8 := Nat.lt_of_lt_of_le (blk_lt hk11) hle8
        have : b7 < b8 := Nat.lt_of_lt_of_le (blk_lt hk13) hle8
        replace hk1 := blk_ext hk1 he18
        replace hk3 := blk_ext hk3 he18
        replace hk6 := blk_ext hk6 he18
        replace hk7 := blk_ext hk7 he18
        replace hk9 := blk_ext hk9 he18
        replace hk11 := blk_ext hk11 he18
        replace hk13 := blk_ext hk13 he18
        replace hr1 := Row.ext hr1 he18
        replace hb := hb.trans (Below.mono he18 hb.size)
        refine sqn hf (d_storeK (T := 49) (v := (.agg #[(.int .i64 ((rdataP d nm).1)), (.int .u32 ((rdataP d nm).2.1))])) (cs := #[(.int .i64 (0 : Int)), (.int .u32 (0 : Int))]) (cs' := #[(.int .i64 ((rdataP d nm).1)), (.int .u32 ((rdataP d nm).2.1))]) rfl rfl (by kernel_rfl) (by kernel_rfl) hk14 (by kernel_rfl) (by kernel_rfl)) rfl rfl ?_; clear hf fa; rintro fa _ w25 ⟨hk15, hg7⟩ hf
        replace hk1 := blk_grown hk1 hg7 (by omega)
        replace hk3 := blk_grown hk3 hg7 (by omega)
        replace hk6 := blk_grown hk6 hg7 (by omega)
        replace hk7 := blk_grown hk7 hg7 (by omega)
        replace hk9 := blk_grown hk9 hg7 (by omega)
        replace hk11 := blk_grown hk11 hg7 (by omega)
        replace hk13 := blk_grown hk13 hg7 (by omega)
        replace hr1 := Row.grown hr1 hg7 (Row.ne_type hr1 hk14 rfl)
        replace hb := hb.trans (grown_below hg7 hb.size hBb8)
        refine sqv hf (r_assign rfl) rfl rfl rfl ?_; clear hf fa; intro fa hf
        apply wpList_nil
        (try simp only [Exit.then, Exit.inBlock, ↓reduceIte, Nat.reduceEqDiff])
        refine hK20 _ _ ?_
        refine wp_seq_k (fun K21 hK21 => ?_)
        refine wp_region_lit ?_
        refine sqv hf (r_move rfl) rfl rfl rfl ?_; clear hf fa; intro fa hf
        refine sqv hf (r_move rfl) rfl rfl rfl ?_; clear hf fa; intro fa hf
        refine sqdt hf (d_callB (vs := [(.slice d.at' d.len d.cap), (.string nm)]) rfl Try.func55 (by kernel_rfl) (by kernel_rfl) (rdata_any d nm _ ⟨g.1, fSl_kept g.2 hb⟩ hU.2.2.2)) rfl rfl rfl ?_; clear hf fa; rintro fa _ w26 ⟨rfl, he19⟩ hf
        replace hk1 := blk_ext hk1 he19
        replace hk3 := blk_ext hk3 he19
        replace hk6 := blk_ext hk6 he19
        replace hk7 := blk_ext hk7 he19
        replace hk9 := blk_ext hk9 he19
        replace hk11 := blk_ext hk11 he19
        replace hk13 := blk_ext hk13 he19
        replace hk15 := blk_ext hk15 he19
        replace hr1 := Row.ext hr1 he19
        replace hb := hb.trans (Below.mono he19 hb.size)
        refine sqv hf (r_move rfl) rfl rfl rfl ?_; clear hf fa; intro fa hf
        refine sqv hf (r_extract rfl (i := 0) rfl) rfl rfl rfl ?_; clear hf fa; intro fa hf
        refine sqv hf (r_extract rfl (i := 1) rfl) rfl rfl rfl ?_; clear hf fa; intro fa hf
        refine sqv hf (r_extract rfl (i := 2) rfl) rfl rfl rfl ?_; clear hf fa; intro fa hf
        refine sqv hf (r_assign rfl) rfl rfl rfl ?_; clear hf fa; intro fa hf
        refine sqv hf (r_assign rfl) rfl rfl rfl ?_; clear hf fa; intro fa hf
        refine sqv hf (r_assign rfl) rfl rfl rfl ?_; clear hf fa; intro fa hf
        apply wpList_nil
        (try simp only [Exit.then, Exit.inBlock, ↓reduceIte, Nat.reduceEqDiff])
        refine hK21 _ _ ?_
        refine wp_seq_k (fun K22 hK22 => ?_)
        refine wp_region_lit ?_
        refine sqv hf (r_move rfl) rfl rfl rfl ?_; clear hf fa; intro fa hf
        refine sqv hf (r_move rfl) rfl rfl rfl ?_; clear hf fa; intro fa hf
        refine sqv hf (Runs.veq (r_eq rfl rfl) (congrArg Value.bool (show _ = true from (by simp)))) rfl rfl rfl ?_; clear hf fa; intro fa hf
        refine sqv hf (r_move rfl) rfl rfl rfl ?_; clear hf fa; intro fa hf
        refine sqgd (act := true) (g := 3) (want := true) (ag := true) (c := true) hf (by rfl) (by rfl) rfl (fun _ =>  Runs.does (R := fun vq wq => vq = (.agg #[(.int .i64 ((rdataP d nm).1)), (.int .u32 ((rdataP d nm).2.1))]) ∧ w26 = wq) (r_loadA (cs := [(.int .i64 ((rdataP d nm).1)), (.int .u32 ((rdataP d nm).2.1))]) rfl Try.underlying49 rfl (by kernel_rfl) (cellsAt_blk hk15)) ⟨rfl, rfl⟩) (fun h => by cases h) rfl ?_; clear hf fa; rintro fa _ _ ⟨rfl, rfl⟩ hf
        change Fr _ _ ((205, (.agg #[(.int .i64 ((rdataP d nm).1)), (.int .u32 ((rdataP d nm).2.1))])) :: _) at hf
        refine sqgd (act := true) (g := 3) (want := true) (ag := true) (c := true) hf (by rfl) (by rfl) rfl (fun _ =>  Runs.does (R := fun vq wq => vq = (.int .i64 ((rdataP d nm).1)) ∧ w26 = wq) (r_move rfl) ⟨rfl, rfl⟩) (fun h => by cases h) rfl ?_; clear hf fa; rintro fa _ _ ⟨rfl, rfl⟩ hf
        change Fr _ _ ((206, (.int .i64 ((rdataP d nm).1))) :: _) at hf
        refine sqgd (act := true) (g := 3) (want := true) (ag := true) (c := true) hf (by rfl) (by rfl) rfl (fun _ =>  Runs.does (R := fun vq wq => vq = (.int .u32 ((rdataP d nm).2.1)) ∧ w26 = wq) (r_move rfl) ⟨rfl, rfl⟩) (fun h => by cases h) rfl ?_; clear hf fa; rintro fa _ _ ⟨rfl, rfl⟩ hf
        change Fr _ _ ((207, (.int .u32 ((rdataP d nm).2.1))) :: _) at hf
        refine sqgd (act := true) (g := 3) (want := true) (ag := true) (c := true) hf (by rfl) (by rfl) rfl (fun _ =>  Runs.does (R := fun vq wq => vq = (.agg #[(.int .i64 ((rdataP d nm).1)), (.int .u32 ((rdataP d nm).2.1))]) ∧ w26 = wq) (r_build (vs := [(0, (.int .i64 ((rdataP d nm).1))), (1, (.int .u32 ((rdataP d nm).2.1)))]) (cs := #[(.int .i64 ((rdataP d nm).1)), (.int .u32 ((rdataP d nm).2.1))]) rfl (fun _ => by kernel_rfl)) ⟨rfl, rfl⟩) (fun h => by cases h) rfl ?_; clear hf fa; rintro fa _ _ ⟨rfl, rfl⟩ hf
        change Fr _ _ ((208, (.agg #[(.int .i64 ((rdataP d nm).1)), (.int .u32 ((rdataP d nm).2.1))])) :: _) at hf
        refine sqgd (act := true) (g := 3) (want := true) (ag := true) (c := true) hf (by rfl) (by rfl) rfl (fun _ =>  Runs.does (R := fun vq wq => vq = (.bool true) ∧ w26 = wq) (Runs.veq (r_aeq (k := 5) rfl rfl (by kernel_rfl) (eqt_struct (xs := #[(.int .i64 ((rdataP d nm).1)), (.int .u32 ((rdataP d nm).2.1))]) (ys := #[(.int .i64 ((rdataP d nm).1)), (.int .u32 ((rdataP d nm).2.1))]) Try.underlying49 (by kernel_rfl) (eqf_cons (by kernel_rfl) (fun _ => by kernel_rfl) (fun _ => by kernel_rfl) (eqt_int (kk := .i64) (a := ((rdataP d nm).1)) (b := ((rdataP d nm).1)) Try.underlying3) (eqf_one (by kernel_rfl) (fun _ => by kernel_rfl) (fun _ => by kernel_rfl) (eqt_int (kk := .u32) (a := ((rdataP d nm).2.1)) (b := ((rdataP d nm).2.1)) Try.underlying44)))) rfl) (congrArg Value.bool (show _ = true from (by simp)))) ⟨rfl, rfl⟩) (fun h => by cases h) rfl ?_; clear hf fa; rintro fa _ _ ⟨rfl, rfl⟩ hf
        change Fr _ _ ((209, (.bool true)) :: _) at hf
        refine sqv hf (r_pick (b := true) rfl rfl rfl rfl) rfl rfl rfl ?_; clear hf fa; intro fa hf
        refine sqv hf (r_assign rfl) rfl rfl rfl ?_; clear hf fa; intro fa hf
        apply wpList_nil
        (try simp only [Exit.then, Exit.inBlock, ↓reduceIte, Nat.reduceEqDiff])
        refine hK22 _ _ ?_
        refine wp_ret ?_
        (try simp only [Exit.then, Exit.inBlock])
        refine ret1 hf rfl rfl ?_
        exact ⟨rfl, hb⟩
    · have hsp1b : decide ((findU nm ul 0).2.2 = true) = false := decide_eq_false hsp1
      obtain ⟨e1, e2⟩ := hB (by simpa using hsp1)
      refine wp_region_lit ?_
      refine sqv hf (r_move rfl) rfl rfl rfl ?_; clear hf fa; intro fa hf
      refine sqv hf (r_move rfl) rfl rfl rfl ?_; clear hf fa; intro fa hf
      refine sqdt hf (d_callB (v := (.tuple #[(.int .i64 (0 : Int)), (.agg #[(.string ⟨#[]⟩), (.int .u8 (0 : Int)), (.int .u32 (0 : Int))]), (.bool false)])) (vs := [(.slice ua ul.length uc), (.string nm)]) rfl Try.func45 (by kernel_rfl) (by kernel_rfl) (by have h := (findU_any ul nm ua ul.length uc _ (Row.rd (by intros; rfl) hr1) rfl (by omega) (fun u hu => exps_of (hUM _ (Below.refl _ _) u hu).1 hb)); rw [e1] at h; exact h)) rfl rfl rfl ?_; clear hf fa; rintro fa _ w27 ⟨rfl, he20⟩ hf
      replace hk1 := blk_ext hk1 he20
      replace hr1 := Row.ext hr1 he20
      replace hb := hb.trans (Below.mono he20 hb.size)
      refine sqv hf (r_move rfl) rfl rfl rfl ?_; clear hf fa; intro fa hf
      refine sqv hf (r_extract rfl (i := 0) rfl) rfl rfl rfl ?_; clear hf fa; intro fa hf
      refine sqv hf (r_extract rfl (i := 1) rfl) rfl rfl rfl ?_; clear hf fa; intro fa hf
      refine sqv hf (r_extract rfl (i := 2) rfl) rfl rfl rfl ?_; clear hf fa; intro fa hf
      refine sqdt hf (d_alloc (z := (.agg #[(.string ⟨#[]⟩), (.int .u8 (0 : Int)), (.int .u32 (0 : Int))])) (cs := #[(.string ⟨#[]⟩), (.int .u8 (0 : Int)), (.int .u32 (0 : Int))]) (by kernel_rfl) rfl) rfl rfl rfl ?_; clear hf fa; rintro fa _ w28 ⟨b9, rfl, hle9, hk16, he21⟩ hf
      have hBb9 : w.heap.size ≤ b9 := Nat.le_trans hb.size hle9
      have : b1 < b9 := Nat.lt_of_lt_of_le (blk_lt hk1) hle9
      replace hk1 := blk_ext hk1 he21
      replace hr1 := Row.ext hr1 he21
      replace hb := hb.trans (Below.mono he21 hb.size)
      refine sqv hf (r_assign rfl) rfl rfl rfl ?_; clear hf fa; intro fa hf
      refine sqn hf (d_storeK (T := 94) (v := (.agg #[(.string ⟨#[]⟩), (.int .u8 (0 : Int)), (.int .u32 (0 : Int))])) (cs := #[(.string ⟨#[]⟩), (.int .u8 (0 : Int)), (.int .u32 (0 : Int))]) (cs' := #[(.string ⟨#[]⟩), (.int .u8 (0 : Int)), (.int .u32 (0 : Int))]) rfl rfl (by kernel_rfl) (by kernel_rfl) hk16 (by kernel_rfl) (by kernel_rfl)) rfl rfl ?_; clear hf fa; rintro fa _ w29 ⟨hk17, hg8⟩ hf
      replace hk1 := blk_grown hk1 hg8 (by omega)
      replace hr1 := Row.grown hr1 hg8 (Row.ne_type hr1 hk16 rfl)
      replace hb := hb.trans (grown_below hg8 hb.size hBb9)
      refine sqv hf (r_assign rfl) rfl rfl rfl ?_; clear hf fa; intro fa hf
      apply wpList_nil
      (try simp only [Exit.then, Exit.inBlock, ↓reduceIte, Nat.reduceEqDiff])
      refine hK8 _ _ ?_
      refine wp_seq_k (fun K23 hK23 => ?_)
      refine wp_region_lit ?_
      refine sqv hf (r_move rfl) rfl rfl rfl ?_; clear hf fa; intro fa hf
      refine sqv hf (r_move rfl) rfl rfl rfl ?_; clear hf fa; intro fa hf
      refine sqdt hf (d_callB (v := (.tuple #[(.int .i64 (-1 : Int)), (.int .i64 (-1 : Int))])) (vs := [(.slice d.at' d.len d.cap), (.string nm)]) rfl Try.func50 (by kernel_rfl) (by kernel_rfl) (by have h := findRM_any d nm _ ⟨g.1, fSl_kept g.2 hb⟩; rw [e2] at h; exact h)) rfl rfl rfl ?_; clear hf fa; rintro fa _ w30 ⟨rfl, he22⟩ hf
      replace hk1 := blk_ext hk1 he22
      replace hk17 := blk_ext hk17 he22
      replace hr1 := Row.ext hr1 he22
      replace hb := hb.trans (Below.mono he22 hb.size)
      refine sqv hf (r_move rfl) rfl rfl rfl ?_; clear hf fa; intro fa hf
      refine sqv hf (r_extract rfl (i := 0) rfl) rfl rfl rfl ?_; clear hf fa; intro fa hf
      refine sqv hf (r_extract rfl (i := 1) rfl) rfl rfl rfl ?_; clear hf fa; intro fa hf
      refine sqv hf (r_assign rfl) rfl rfl rfl ?_; clear hf fa; intro fa hf
      refine sqv hf (r_assign rfl) rfl rfl rfl ?_; clear hf fa; intro fa hf
      apply wpList_nil
      (try simp only [Exit.then, Exit.inBlock, ↓reduceIte, Nat.reduceEqDiff])
      refine hK23 _ _ ?_
      refine wp_seq_k (fun K24 hK24 => ?_)
      refine wp_seq_k (fun K25 hK25 => ?_)
      refine wp_region_un (fun wq => Below w30.heap.size w30 wq) (fun w w' => Below w.heap.size w w')
        (fun V => [(fun x _ => x = (.bool false)), (fun x _ => x = (.int .i64 (-1 : Int))), (fun x _ => x = (.bool false)), (fun x _ => x = (.bool false)), (fun x _ => x = (.bool false)), (fun x _ => x = (.bool false)), (fun x _ => x = (.bool false)), (fun x _ => x = gb false (.bool false)), (fun x _ => x = gb false (.bool false)), (fun x _ => x = gb false (.bool false)), (fun x _ => x = gb false (.bool false)), (fun x _ => x = gb false (.bool false)), (fun x _ => x = gb false (.bool false)), (fun x _ => x = gb false (.bool false)), (fun x _ => x = gb false (.bool false)), (fun x _ => x = gb false (.bool false)), (fun x _ => x = gb false (.bool false)), (fun x _ => x = gb false (.bool false)), (fun x _ => x = gb false (.bool false)), (fun x _ => x = gb false (.bool false)), (fun x _ => x = gb false (.bool false)), (fun x _ => x = gb false (.bool false)), (fun x _ => x = (.bool false)), (fun x _ => x = (.bool false)), (fun x _ => x = (.bool false)), (fun x _ => x = (.bool false)), (fun x _ => x = (.bool true)), (fun x _ => x = (.bool true)), (fun x _ => x = (.int .i64 (0 : Int))), (fun x _ => x = (.bool false)), (fun x _ => x = (.bool false)), (fun x _ => x = (.agg #[(.string ⟨#[]⟩), (.int .u8 (0 : Int)), (.int .u32 (0 : Int))])), (fun x _ => x = (.agg #[(.string ⟨#[]⟩), (.int .u8 (0 : Int)), (.int .u32 (0 : Int))])), (fun x _ => x = (.bool false)), (fun x _ => x = (.bool false)), (fun x _ => x = (.bool false)), (fun x _ => x = (.bool false))])
        []
        [[], [], [1], [0, 2], [3], [4], [4, 5], [6], [6], [6, 7, 8], [6, 9], [10], [10], [10], [10, 12, 13], [10, 14], [10, 15], [10], [10, 16, 17], [10, 18], [10, 11, 19], [6, 10, 20], [4, 6, 21], [4, 22], [10, 23], [24], [24, 25], [24, 26], [27], [27, 28], [27, 29], [30], [30], [30, 31, 32], [27, 30, 33], [24, 27, 34], [24, 35]]
        hf (by kernel_rfl) (by kernel_rfl) (fun _ => rfl) ((Below.refl _ _).drew) (fun a b h1 h2 => h1.trans (h2.mono h1.size)) (fun _ _ h => h.size) (fun V => ⟨kept_eq, kept_eq, kept_eq, kept_eq, kept_eq, kept_eq, kept_eq, kept_eq, kept_eq, kept_eq, kept_eq, kept_eq, kept_eq, kept_eq, kept_eq, kept_eq, kept_eq, kept_eq, kept_eq, kept_eq, kept_eq, kept_eq, kept_eq, kept_eq, kept_eq, kept_eq, kept_eq, kept_eq, kept_eq, kept_eq, kept_eq, kept_eq, kept_eq, kept_eq, kept_eq, kept_eq, kept_eq, trivial⟩) (fun _ _ _ _ _ => rfl) ?_ ?_
      · skip
        intro V
        refine ⟨fun wu0 hC hd => ?_, ?_⟩
        · clear hd
          replace hb := hb.trans (hC.mono hb.size)
          replace hk1 := blk_ext hk1 hC
          replace hk17 := blk_ext hk17 hC
          replace hr1 := Row.ext hr1 hC
          exact Runs.does (r_move rfl) ⟨Below.refl _ _, rfl, nofr rfl⟩
        refine ⟨fun wu1 hC hd => ?_, ?_⟩
        · clear hd
          replace hb := hb.trans (hC.mono hb.size)
          replace hk1 := blk_ext hk1 hC
          replace hk17 := blk_ext hk17 hC
          replace hr1 := Row.ext hr1 hC
          exact Runs.does (r_move rfl) ⟨Below.refl _ _, rfl, nofr rfl⟩
        refine ⟨fun wu2 hC hd => ?_, ?_⟩
        · obtain ⟨h1, _⟩ := hd
          skip
          replace h1 : V 1 = (.int .i64 (-1 : Int)) := h1
          replace hb := hb.trans (hC.mono hb.size)
          replace hk1 := blk_ext hk1 hC
          replace hk17 := blk_ext hk17 hC
          replace hr1 := Row.ext hr1 hC
          exact Runs.does (Runs.veq (r_ge (congrArg some h1) rfl) (congrArg Value.bool (show _ = false from (decide_eq_false (by omega))))) ⟨Below.refl _ _, rfl, nofr rfl⟩
        refine ⟨fun wu3 hC hd => ?_, ?_⟩
        · obtain ⟨h0, h2, _⟩ := hd
          skip
          skip
          replace h0 : V 0 = (.bool false) := h0
          replace h2 : V 2 = (.bool false) := h2
          replace hb := hb.trans (hC.mono hb.size)
          replace hk1 := blk_ext hk1 hC
          replace hk17 := blk_ext hk17 hC
          replace hr1 := Row.ext hr1 hC
          exact Runs.does (Runs.veq (v' := (.bool false)) (r_bne Try.underlying4 (congrArg some h0) (congrArg some h2)) rfl) ⟨Below.refl _ _, rfl, nofr rfl⟩
        refine ⟨fun wu4 hC hd => ?_, ?_⟩
        · obtain ⟨h3, _⟩ := hd
          skip
          replace h3 : V 3 = (.bool false) := h3
          replace hb := hb.trans (hC.mono hb.size)
          replace hk1 := blk_ext hk1 hC
          replace hk17 := blk_ext hk17 hC
          replace hr1 := Row.ext hr1 hC
          exact Runs.does (r_move (congrArg some h3)) ⟨Below.refl _ _, rfl, nofr rfl⟩
        refine ⟨fun wu5 hC hd => ?_, ?_⟩
        · obtain ⟨h4, _⟩ := hd
          skip
          replace h4 : V 4 = (.bool false) := h4
          replace hb := hb.trans (hC.mono hb.size)
          replace hk1 := blk_ext hk1 hC
          replace hk17 := blk_ext hk17 hC
          replace hr1 := Row.ext hr1 hC
          refine ⟨true, false, congrArg some h4, fun hact => ?_, fun hact => ?_⟩
          · exact Runs.does (r_move rfl) ⟨Below.refl _ _, rfl, nofr rfl⟩
          · exfalso; simp at hact
        refine ⟨fun wu6 hC hd => ?_, ?_⟩
        · obtain ⟨h4, h5, _⟩ := hd
          skip
          skip
          replace h4 : V 4 = (.bool false) := h4
          replace h5 : V 5 = (.bool false) := h5
          replace hb := hb.trans (hC.mono hb.size)
          replace hk1 := blk_ext hk1 hC
          replace hk17 := blk_ext hk17 hC
          replace hr1 := Row.ext hr1 hC
          refine ⟨true, false, congrArg some h4, fun hact => ?_, fun hact => ?_⟩
          · exact Runs.does (r_move (congrArg some h5)) ⟨Below.refl _ _, rfl, nofr rfl⟩
          · exfalso; simp at hact
        refine ⟨fun wu7 hC hd => ?_, ?_⟩
        · obtain ⟨h6, _⟩ := hd
          skip
          replace h6 : V 6 = (.bool false) := h6
          replace hb := hb.trans (hC.mono hb.size)
          replace hk1 := blk_ext hk1 hC
          replace hk17 := blk_ext hk17 hC
          replace hr1 := Row.ext hr1 hC
          refine ⟨true, false, congrArg some h6, fun hact => ?_, fun hact => ?_⟩
          · exfalso; simp at hact
          · exact ⟨Below.refl _ _, rfl, nofr rfl⟩
        refine ⟨fun wu8 hC hd => ?_, ?_⟩
        · obtain ⟨h6, _⟩ := hd
          skip
          replace h6 : V 6 = (.bool false) := h6
          replace hb := hb.trans (hC.mono hb.size)
          replace hk1 := blk_ext hk1 hC
          replace hk17 := blk_ext hk17 hC
          replace hr1 := Row.ext hr1 hC
          refine ⟨true, false, congrArg some h6, fun hact => ?_, fun hact => ?_⟩
          · exfalso; simp at hact
          · exact ⟨Below.refl _ _, rfl, nofr rfl⟩
        refine ⟨fun wu9 hC hd => ?_, ?_⟩
        · obtain ⟨h6, h7, h8, _⟩ := hd
          skip
          skip
          skip
          replace h6 : V 6 = (.bool false) := h6
          replace h7 : V 7 = gb false (.bool false) := h7
          replace h8 : V 8 = gb false (.bool false) := h8
          replace hb := hb.trans (hC.mono hb.size)
          replace hk1 := blk_ext hk1 hC
          replace hk17 := blk_ext hk17 hC
          replace hr1 := Row.ext hr1 hC
          refine ⟨true, false, congrArg some h6, fun hact => ?_, fun hact => ?_⟩
          · exfalso; simp at hact
          · exact ⟨Below.refl _ _, rfl, nofr rfl⟩
        refine ⟨fun wu10 hC hd => ?_, ?_⟩
        · obtain ⟨h6, h9, _⟩ := hd
          skip
          skip
          replace h6 : V 6 = (.bool false) := h6
          replace h9 : V 9 = gb false (.bool false) := h9
          replace hb := hb.trans (hC.mono hb.size)
          replace hk1 := blk_ext hk1 hC
          replace hk17 := blk_ext hk17 hC
          replace hr1 := Row.ext hr1 hC
          refine ⟨true, false, congrArg some h6, fun hact => ?_, fun hact => ?_⟩
          · exfalso; simp at hact
          · exact ⟨Below.refl _ _, rfl, nofr rfl⟩
        refine ⟨fun wu11 hC hd => ?_, ?_⟩
        · obtain ⟨h10, _⟩ := hd
          skip
          replace h10 : V 10 = gb false (.bool false) := h10
          replace hb := hb.trans (hC.mono hb.size)
          replace hk1 := blk_ext hk1 hC
          replace hk17 := blk_ext hk17 hC
          replace hr1 := Row.ext hr1 hC
          refine ⟨false, false, congrArg some h10, fun hact => ?_, fun hact => ?_⟩
          · exfalso; simp at hact
          · exact ⟨Below.refl _ _, rfl, nofr rfl⟩
        refine ⟨fun wu12 hC hd => ?_, ?_⟩
        · obtain ⟨h10, _⟩ := hd
          skip
          replace h10 : V 10 = gb false (.bool false) := h10
          replace hb := hb.trans (hC.mono hb.size)
          replace hk1 := blk_ext hk1 hC
          replace hk17 := blk_ext hk17 hC
          replace hr1 := Row.ext hr1 hC
          refine ⟨false, false, congrArg some h10, fun hact => ?_, fun hact => ?_⟩
          · exfalso; simp at hact
          · exact ⟨Below.refl _ _, rfl, nofr rfl⟩
        refine ⟨fun wu13 hC hd => ?_, ?_⟩
        · obtain ⟨h10, _⟩ := hd
          skip
          replace h10 : V 10 = gb false (.bool false) := h10
          replace hb := hb.trans (hC.mono hb.size)
          replace hk1 := blk_ext hk1 hC
          replace hk17 := blk_ext hk17 hC
          replace hr1 := Row.ext hr1 hC
          refine ⟨false, false, congrArg some h10, fun hact => ?_, fun hact => ?_⟩
          · exfalso; simp at hact
          · exact ⟨Below.refl _ _, rfl, nofr rfl⟩
        refine ⟨fun wu14 hC hd => ?_, ?_⟩
        · obtain ⟨h10, h12, h13, _⟩ := hd
          skip
          skip
          skip
          replace h10 : V 10 = gb false (.bool false) := h10
          replace h12 : V 12 = gb false (.bool false) := h12
          replace h13 : V 13 = gb false (.bool false) := h13
          replace hb := hb.trans (hC.mono hb.size)
          replace hk1 := blk_ext hk1 hC
          replace hk17 := blk_ext hk17 hC
          replace hr1 := Row.ext hr1 hC
          refine ⟨false, false, congrArg some h10, fun hact => ?_, fun hact => ?_⟩
          · exfalso; simp at hact
          · exact ⟨Below.refl _ _, rfl, nofr rfl⟩
        refine ⟨fun wu15 hC hd => ?_, ?_⟩
        · obtain ⟨h10, h14, _⟩ := hd
          skip
          skip
          replace h10 : V 10 = gb false (.bool false) := h10
          replace h14 : V 14 = gb false (.bool false) := h14
          replace hb := hb.trans (hC.mono hb.size)
          replace hk1 := blk_ext hk1 hC
          replace hk17 := blk_ext hk17 hC
          replace hr1 := Row.ext hr1 hC
          refine ⟨false, false, congrArg some h10, fun hact => ?_, fun hact => ?_⟩
          · exfalso; simp at hact
          · exact ⟨Below.refl _ _, rfl, nofr rfl⟩
        refine ⟨fun wu16 hC hd => ?_, ?_⟩
        · obtain ⟨h10, h15, _⟩ := hd
          skip
          skip
          replace h10 : V 10 = gb false (.bool false) := h10
          replace h15 : V 15 = gb false (.bool false) := h15
          replace hb := hb.trans (hC.mono hb.size)
          replace hk1 := blk_ext hk1 hC
          replace hk17 := blk_ext hk17 hC
          replace hr1 := Row.ext hr1 hC
          refine ⟨false, false, congrArg some h10, fun hact => ?_, fun hact => ?_⟩
          · exfalso; simp at hact
          · exact ⟨Below.refl _ _, rfl, nofr rfl⟩
        refine ⟨fun wu17 hC hd => ?_, ?_⟩
        · obtain ⟨h10, _⟩ := hd
          skip
          replace h10 : V 10 = gb false (.bool false) := h10
          replace hb := hb.trans (hC.mono hb.size)
          replace hk1 := blk_ext hk1 hC
          replace hk17 := blk_ext hk17 hC
          replace hr1 := Row.ext hr1 hC
          refine ⟨false, false, congrArg some h10, fun hact => ?_, fun hact => ?_⟩
          · exfalso; simp at hact
          · exact ⟨Below.refl _ _, rfl, nofr rfl⟩
        refine ⟨fun wu18 hC hd => ?_, ?_⟩
        · obtain ⟨h10, h16, h17, _⟩ := hd
          skip
          skip
          skip
          replace h10 : V 10 = gb false (.bool false) := h10
          replace h16 : V 16 = gb false (.bool false) := h16
          replace h17 : V 17 = gb false (.bool false) := h17
          replace hb := hb.trans (hC.mono hb.size)
          replace hk1 := blk_ext hk1 hC
          replace hk17 := blk_ext hk17 hC
          replace hr1 := Row.ext hr1 hC
          refine ⟨false, false, congrArg some h10, fun hact => ?_, fun hact => ?_⟩
          · exfalso; simp at hact
          · exact ⟨Below.refl _ _, rfl, nofr rfl⟩
        refine ⟨fun wu19 hC hd => ?_, ?_⟩
        · obtain ⟨h10, h18, _⟩ := hd
          skip
          skip
          replace h10 : V 10 = gb false (.bool false) := h10
          replace h18 : V 18 = gb false (.bool false) := h18
          replace hb := hb.trans (hC.mono hb.size)
          replace hk1 := blk_ext hk1 hC
          replace hk17 := blk_ext hk17 hC
          replace hr1 := Row.ext hr1 hC
          refine ⟨false, false, congrArg some h10, fun hact => ?_, fun hact => ?_⟩
          · exfalso; simp at hact
          · exact ⟨Below.refl _ _, rfl, nofr rfl⟩
        refine ⟨fun wu20 hC hd => ?_, ?_⟩
        · obtain ⟨h10, h11, h19, _⟩ := hd
          skip
          skip
          skip
          replace h10 : V 10 = gb false (.bool false) := h10
          replace h11 : V 11 = gb false (.bool false) := h11
          replace h19 : V 19 = gb false (.bool false) := h19
          replace hb := hb.trans (hC.mono hb.size)
          replace hk1 := blk_ext hk1 hC
          replace hk17 := blk_ext hk17 hC
          replace hr1 := Row.ext hr1 hC
          refine ⟨false, false, congrArg some h10, fun hact => ?_, fun hact => ?_⟩
          · exfalso; simp at hact
          · exact ⟨Below.refl _ _, rfl, nofr rfl⟩
        refine ⟨fun wu21 hC hd => ?_, ?_⟩
        · obtain ⟨h6, h10, h20, _⟩ := hd
          skip
          skip
          skip
          replace h6 : V 6 = (.bool false) := h6
          replace h10 : V 10 = gb false (.bool false) := h10
          replace h20 : V 20 = gb false (.bool false) := h20
          replace hb := hb.trans (hC.mono hb.size)
          replace hk1 := blk_ext hk1 hC
          replace hk17 := blk_ext hk17 hC
          replace hr1 := Row.ext hr1 hC
          refine ⟨true, false, congrArg some h6, fun hact => ?_, fun hact => ?_⟩
          · exfalso; simp at hact
          · exact ⟨Below.refl _ _, rfl, nofr rfl⟩
        refine ⟨fun wu22 hC hd => ?_, ?_⟩
        · obtain ⟨h4, h6, h21, _⟩ := hd
          skip
          skip
          skip
          replace h4 : V 4 = (.bool false) := h4
          replace h6 : V 6 = (.bool false) := h6
          replace h21 : V 21 = gb false (.bool false) := h21
          replace hb := hb.trans (hC.mono hb.size)
          replace hk1 := blk_ext hk1 hC
          replace hk17 := blk_ext hk17 hC
          replace hr1 := Row.ext hr1 hC
          refine ⟨true, false, congrArg some h4, fun hact => ?_, fun hact => ?_⟩
          · exact Runs.does (r_pick (b := false) (congrArg some h6) (congrArg some h21) rfl rfl) ⟨Below.refl _ _, rfl, nofr rfl⟩
          · exfalso; simp at hact
        refine ⟨fun wu23 hC hd => ?_, ?_⟩
        · obtain ⟨h4, h22, _⟩ := hd
          skip
          skip
          replace h4 : V 4 = (.bool false) := h4
          replace h22 : V 22 = (.bool false) := h22
          replace hb := hb.trans (hC.mono hb.size)
          replace hk1 := blk_ext hk1 hC
          replace hk17 := blk_ext hk17 hC
          replace hr1 := Row.ext hr1 hC
          exact Runs.does (r_pick (b := false) (congrArg some h4) rfl (congrArg some h22) rfl) ⟨Below.refl _ _, rfl, nofr rfl⟩
        refine ⟨fun wu24 hC hd => ?_, ?_⟩
        · obtain ⟨h10, h23, _⟩ := hd
          skip
          skip
          replace h10 : V 10 = gb false (.bool false) := h10
          replace h23 : V 23 = (.bool false) := h23
          replace hb := hb.trans (hC.mono hb.size)
          replace hk1 := blk_ext hk1 hC
          replace hk17 := blk_ext hk17 hC
          replace hr1 := Row.ext hr1 hC
          exact Runs.does (r_move (congrArg some h23)) ⟨Below.refl _ _, rfl, nofr rfl⟩
        refine ⟨fun wu25 hC hd => ?_, ?_⟩
        · obtain ⟨h24, _⟩ := hd
          skip
          replace h24 : V 24 = (.bool false) := h24
          replace hb := hb.trans (hC.mono hb.size)
          replace hk1 := blk_ext hk1 hC
          replace hk17 := blk_ext hk17 hC
          replace hr1 := Row.ext hr1 hC
          refine ⟨true, false, congrArg some h24, fun hact => ?_, fun hact => ?_⟩
          · exact Runs.does (r_move rfl) ⟨Below.refl _ _, rfl, nofr rfl⟩
          · exfalso; simp at hact
        refine ⟨fun wu26 hC hd => ?_, ?_⟩
        · obtain ⟨h24, h25, _⟩ := hd
          skip
          skip
          replace h24 : V 24 = (.bool false) := h24
          replace h25 : V 25 = (.bool false) := h25
          replace hb := hb.trans (hC.mono hb.size)
          replace hk1 := blk_ext hk1 hC
          replace hk17 := blk_ext hk17 hC
          replace hr1 := Row.ext hr1 hC
          refine ⟨true, false, congrArg some h24, fun hact => ?_, fun hact => ?_⟩
          · exact Runs.does (Runs.veq (v' := (.bool true)) (r_not (congrArg some h25)) rfl) ⟨Below.refl _ _, rfl, nofr rfl⟩
          · exfalso; simp at hact
        refine ⟨fun wu27 hC hd => ?_, ?_⟩
        · obtain ⟨h24, h26, _⟩ := hd
          skip
          skip
          replace h24 : V 24 = (.bool false) := h24
          replace h26 : V 26 = (.bool true) := h26
          replace hb := hb.trans (hC.mono hb.size)
          replace hk1 := blk_ext hk1 hC
          replace hk17 := blk_ext hk17 hC
          replace hr1 := Row.ext hr1 hC
          refine ⟨true, false, congrArg some h24, fun hact => ?_, fun hact => ?_⟩
          · exact Runs.does (r_move (congrArg some h26)) ⟨Below.refl _ _, rfl, nofr rfl⟩
          · exfalso; simp at hact
        refine ⟨fun wu28 hC hd => ?_, ?_⟩
        · obtain ⟨h27, _⟩ := hd
          skip
          replace h27 : V 27 = (.bool true) := h27
          replace hb := hb.trans (hC.mono hb.size)
          replace hk1 := blk_ext hk1 hC
          replace hk17 := blk_ext hk17 hC
          replace hr1 := Row.ext hr1 hC
          refine ⟨true, true, congrArg some h27, fun hact => ?_, fun hact => ?_⟩
          · exact Runs.does (r_move rfl) ⟨Below.refl _ _, rfl, nofr rfl⟩
          · exfalso; simp at hact
        refine ⟨fun wu29 hC hd => ?_, ?_⟩
        · obtain ⟨h27, h28, _⟩ := hd
          skip
          skip
          replace h27 : V 27 = (.bool true) := h27
          replace h28 : V 28 = (.int .i64 (0 : Int)) := h28
          replace hb := hb.trans (hC.mono hb.size)
          replace hk1 := blk_ext hk1 hC
          replace hk17 := blk_ext hk17 hC
          replace hr1 := Row.ext hr1 hC
          refine ⟨true, true, congrArg some h27, fun hact => ?_, fun hact => ?_⟩
          · exact Runs.does (Runs.veq (r_ne (congrArg some h28) rfl) (congrArg Value.bool (show _ = false from (by decide)))) ⟨Below.refl _ _, rfl, nofr rfl⟩
          · exfalso; simp at hact
        refine ⟨fun wu30 hC hd => ?_, ?_⟩
        · obtain ⟨h27, h29, _⟩ := hd
          skip
          skip
          replace h27 : V 27 = (.bool true) := h27
          replace h29 : V 29 = (.bool false) := h29
          replace hb := hb.trans (hC.mono hb.size)
          replace hk1 := blk_ext hk1 hC
          replace hk17 := blk_ext hk17 hC
          replace hr1 := Row.ext hr1 hC
          refine ⟨true, true, congrArg some h27, fun hact => ?_, fun hact => ?_⟩
          · exact Runs.does (r_move (congrArg some h29)) ⟨Below.refl _ _, rfl, nofr rfl⟩
          · exfalso; simp at hact
        refine ⟨fun wu31 hC hd => ?_, ?_⟩
        · obtain ⟨h30, _⟩ := hd
          skip
          replace h30 : V 30 = (.bool false) := h30
          replace hb := hb.trans (hC.mono hb.size)
          replace hk1 := blk_ext hk1 hC
          replace hk17 := blk_ext hk17 hC
          replace hr1 := Row.ext hr1 hC
          refine ⟨true, false, congrArg some h30, fun hact => ?_, fun hact => ?_⟩
          · exact Runs.does (r_loadA (cs := [(.string ⟨#[]⟩), (.int .u8 (0 : Int)), (.int .u32 (0 : Int))]) rfl Try.underlying94 rfl (by kernel_rfl) (cellsAt_blk hk17)) ⟨Below.refl _ _, rfl, nofr rfl⟩
          · exfalso; simp at hact
        refine ⟨fun wu32 hC hd => ?_, ?_⟩
        · obtain ⟨h30, _⟩ := hd
          skip
          replace h30 : V 30 = (.bool false) := h30
          replace hb := hb.trans (hC.mono hb.size)
          replace hk1 := blk_ext hk1 hC
          replace hk17 := blk_ext hk17 hC
          replace hr1 := Row.ext hr1 hC
          refine ⟨true, false, congrArg some h30, fun hact => ?_, fun hact => ?_⟩
          · exact Runs.does (r_build (vs := []) (cs := #[(.string ⟨#[]⟩), (.int .u8 (0 : Int)), (.int .u32 (0 : Int))]) rfl (fun _ => by kernel_rfl)) ⟨Below.refl _ _, rfl, nofr rfl⟩
          · exfalso; simp at hact
        refine ⟨fun wu33 hC hd => ?_, ?_⟩
        · obtain ⟨h30, h31, h32, _⟩ := hd
          skip
          skip
          skip
          replace h30 : V 30 = (.bool false) := h30
          replace h31 : V 31 = (.agg #[(.string ⟨#[]⟩), (.int .u8 (0 : Int)), (.int .u32 (0 : Int))]) := h31
          replace h32 : V 32 = (.agg #[(.string ⟨#[]⟩), (.int .u8 (0 : Int)), (.int .u32 (0 : Int))]) := h32
          replace hb := hb.trans (hC.mono hb.size)
          replace hk1 := blk_ext hk1 hC
          replace hk17 := blk_ext hk17 hC
          replace hr1 := Row.ext hr1 hC
          refine ⟨true, false, congrArg some h30, fun hact => ?_, fun hact => ?_⟩
          · exact Runs.does (Runs.veq (r_ane (k := 5) (congrArg some h31) (congrArg some h32) (by kernel_rfl) (eqt_struct (xs := #[(.string ⟨#[]⟩), (.int .u8 (0 : Int)), (.int .u32 (0 : Int))]) (ys := #[(.string ⟨#[]⟩), (.int .u8 (0 : Int)), (.int .u32 (0 : Int))]) Try.underlying94 (by kernel_rfl) (eqf_cons (by kernel_rfl) (fun _ => by kernel_rfl) (fun _ => by kernel_rfl) (eqt_str (a := ⟨#[]⟩) (b := ⟨#[]⟩) Try.underlying9) (eqf_cons (by kernel_rfl) (fun _ => by kernel_rfl) (fun _ => by kernel_rfl) (eqt_int (kk := .u8) (a := (0 : Int)) (b := (0 : Int)) Try.underlying5) (eqf_one (by kernel_rfl) (fun _ => by kernel_rfl) (fun _ => by kernel_rfl) (eqt_int (kk := .u32) (a := (0 : Int)) (b := (0 : Int)) Try.underlying44))))) rfl) (congrArg Value.bool (show _ = false from (by decide)))) ⟨Below.refl _ _, rfl, nofr rfl⟩
          · exfalso; simp at hact
        refine ⟨fun wu34 hC hd => ?_, ?_⟩
        · obtain ⟨h27, h30, h33, _⟩ := hd
          skip
          skip
          skip
          replace h27 : V 27 = (.bool true) := h27
          replace h30 : V 30 = (.bool false) := h30
          replace h33 : V 33 = (.bool false) := h33
          replace hb := hb.trans (hC.mono hb.size)
          replace hk1 := blk_ext hk1 hC
          replace hk17 := blk_ext hk17 hC
          replace hr1 := Row.ext hr1 hC
          refine ⟨true, true, congrArg some h27, fun hact => ?_, fun hact => ?_⟩
          · exact Runs.does (r_pick (b := false) (congrArg some h30) rfl (congrArg some h33) rfl) ⟨Below.refl _ _, rfl, nofr rfl⟩
          · exfalso; simp at hact
        refine ⟨fun wu35 hC hd => ?_, ?_⟩
        · obtain ⟨h24, h27, h34, _⟩ := hd
          skip
          skip
          skip
          replace h24 : V 24 = (.bool false) := h24
          replace h27 : V 27 = (.bool true) := h27
          replace h34 : V 34 = (.bool false) := h34
          replace hb := hb.trans (hC.mono hb.size)
          replace hk1 := blk_ext hk1 hC
          replace hk17 := blk_ext hk17 hC
          replace hr1 := Row.ext hr1 hC
          refine ⟨true, false, congrArg some h24, fun hact => ?_, fun hact => ?_⟩
          · exact Runs.does (r_pick (b := true) (congrArg some h27) (congrArg some h34) rfl rfl) ⟨Below.refl _ _, rfl, nofr rfl⟩
          · exfalso; simp at hact
        refine ⟨fun wu36 hC hd => ?_, ?_⟩
        · obtain ⟨h24, h35, _⟩ := hd
          skip
          skip
          replace h24 : V 24 = (.bool false) := h24
          replace h35 : V 35 = (.bool false) := h35
          replace hb := hb.trans (hC.mono hb.size)
          replace hk1 := blk_ext hk1 hC
          replace hk17 := blk_ext hk17 hC
          replace hr1 := Row.ext hr1 hC
          exact Runs.does (r_pick (b := false) (congrArg some h24) rfl (congrArg some h35) rfl) ⟨Below.refl _ _, rfl, nofr rfl⟩
        trivial
      · skip
        clear hf fa; intro V w31 fa he23 hp hnb hf
        have hv0 : V 0 = (.bool false) := postsHold_at hp 0 rfl
        have hv1 : V 1 = (.int .i64 (-1 : Int)) := postsHold_at hp 1 rfl
        have hv2 : V 2 = (.bool false) := postsHold_at hp 2 rfl
        have hv3 : V 3 = (.bool false) := postsHold_at hp 3 rfl
        have hv4 : V 4 = (.bool false) := postsHold_at hp 4 rfl
        have hv5 : V 5 = (.bool false) := postsHold_at hp 5 rfl
        have hv6 : V 6 = (.bool false) := postsHold_at hp 6 rfl
        have hv7 : V 7 = gb false (.bool false) := postsHold_at hp 7 rfl
        have hv8 : V 8 = gb false (.bool false) := postsHold_at hp 8 rfl
        have hv9 : V 9 = gb false (.bool false) := postsHold_at hp 9 rfl
        have hv10 : V 10 = gb false (.bool false) := postsHold_at hp 10 rfl
        have hv11 : V 11 = gb false (.bool false) := postsHold_at hp 11 rfl
        have hv12 : V 12 = gb false (.bool false) := postsHold_at hp 12 rfl
        have hv13 : V 13 = gb false (.bool false) := postsHold_at hp 13 rfl
        have hv14 : V 14 = gb false (.bool false) := postsHold_at hp 14 rfl
        have hv15 : V 15 = gb false (.bool false) := postsHold_at hp 15 rfl
        have hv16 : V 16 = gb false (.bool false) := postsHold_at hp 16 rfl
        have hv17 : V 17 = gb false (.bool false) := postsHold_at hp 17 rfl
        have hv18 : V 18 = gb false (.bool false) := postsHold_at hp 18 rfl
        have hv19 : V 19 = gb false (.bool false) := postsHold_at hp 19 rfl
        have hv20 : V 20 = gb false (.bool false) := postsHold_at hp 20 rfl
        have hv21 : V 21 = gb false (.bool false) := postsHold_at hp 21 rfl
        have hv22 : V 22 = (.bool false) := postsHold_at hp 22 rfl
        have hv23 : V 23 = (.bool false) := postsHold_at hp 23 rfl
        have hv24 : V 24 = (.bool false) := postsHold_at hp 24 rfl
        have hv25 : V 25 = (.bool false) := postsHold_at hp 25 rfl
        have hv26 : V 26 = (.bool true) := postsHold_at hp 26 rfl
        have hv27 : V 27 = (.bool true) := postsHold_at hp 27 rfl
        have hv28 : V 28 = (.int .i64 (0 : Int)) := postsHold_at hp 28 rfl
        have hv29 : V 29 = (.bool false) := postsHold_at hp 29 rfl
        have hv30 : V 30 = (.bool false) := postsHold_at hp 30 rfl
        have hv31 : V 31 = (.agg #[(.string ⟨#[]⟩), (.int .u8 (0 : Int)), (.int .u32 (0 : Int))]) := postsHold_at hp 31 rfl
        have hv32 : V 32 = (.agg #[(.string ⟨#[]⟩), (.int .u8 (0 : Int)), (.int .u32 (0 : Int))]) := postsHold_at hp 32 rfl
        have hv33 : V 33 = (.bool false) := postsHold_at hp 33 rfl
        have hv34 : V 34 = (.bool false) := postsHold_at hp 34 rfl
        have hv35 : V 35 = (.bool false) := postsHold_at hp 35 rfl
        have hv36 : V 36 = (.bool false) := postsHold_at hp 36 rfl
        simp only [List.take_succ_cons, List.take_zero, insAll, ins, hv0, hv1, hv2, hv3, hv4, hv5, hv6, hv7, hv8, hv9, hv10, hv11, hv12, hv13, hv14, hv15, hv16, hv17, hv18, hv19, hv20, hv21, hv22, hv23, hv24, hv25, hv26, hv27, hv28, hv29, hv30, hv31, hv32, hv33, hv34, hv35, hv36] at hf
        clear hp hnb hv0 hv1 hv2 hv3 hv4 hv5 hv6 hv7 hv8 hv9 hv10 hv11 hv12 hv13 hv14 hv15 hv16 hv17 hv18 hv19 hv20 hv21 hv22 hv23 hv24 hv25 hv26 hv27 hv28 hv29 hv30 hv31 hv32 hv33 hv34 hv35 hv36
        replace hk1 := blk_ext hk1 he23
        replace hk17 := blk_ext hk17 he23
        replace hr1 := Row.ext hr1 he23
        replace hb := hb.trans (Below.mono he23 hb.size)
        (try simp only [Exit.then, Exit.inBlock, ↓reduceIte, Nat.reduceEqDiff])
        refine hK25 _ _ ?_
        refine wp_cond_false (hf.ev rfl) ?_
        refine wp_skip ?_
        (try simp only [Exit.then, Exit.inBlock, ↓reduceIte, Nat.reduceEqDiff])
        refine hK24 _ _ ?_
        refine wp_seq_k (fun K26 hK26 => ?_)
        refine wp_region_lit ?_
        refine sqv hf (r_move rfl) rfl rfl rfl ?_; clear hf fa; intro fa hf
        refine sqv hf (r_move rfl) rfl rfl rfl ?_; clear hf fa; intro fa hf
        refine sqdt hf (d_callB (v := (.tuple #[(.agg #[(.int .i64 ((ranyP d nm).1)), (.int .u32 ((ranyP d nm).2.1))]), (.agg #[(.string (ranyP d nm).2.2.1.1), (.string (ranyP d nm).2.2.1.2.1)]), (.int .i64 ((ranyP d nm).2.2.2))])) (vs := [(.slice ua ul.length uc), (.string nm)]) rfl Try.func51 (by kernel_rfl) (by kernel_rfl) (by have h := any_any ul nm _ ua ul.length uc (Row.rd (by intros; rfl) hr1) rfl (by omega) (fun u hu => hUM _ hb u hu); rw [any_eq nm hum] at h; exact h)) rfl rfl rfl ?_; clear hf fa; rintro fa _ w32 ⟨rfl, he24⟩ hf
        replace hk1 := blk_ext hk1 he24
        replace hk17 := blk_ext hk17 he24
        replace hr1 := Row.ext hr1 he24
        replace hb := hb.trans (Below.mono he24 hb.size)
        refine sqv hf (r_move rfl) rfl rfl rfl ?_; clear hf fa; intro fa hf
        refine sqv hf (r_extract rfl (i := 0) rfl) rfl rfl rfl ?_; clear hf fa; intro fa hf
        refine sqv hf (r_extract rfl (i := 1) rfl) rfl rfl rfl ?_; clear hf fa; intro fa hf
        refine sqv hf (r_extract rfl (i := 2) rfl) rfl rfl rfl ?_; clear hf fa; intro fa hf
        refine sqdt hf (d_alloc (z := (.agg #[(.int .i64 (0 : Int)), (.int .u32 (0 : Int))])) (cs := #[(.int .i64 (0 : Int)), (.int .u32 (0 : Int))]) (by kernel_rfl) rfl) rfl rfl rfl ?_; clear hf fa; rintro fa _ w33 ⟨b10, rfl, hle10, hk18, he25⟩ hf
        have hBb10 : w.heap.size ≤ b10 := Nat.le_trans hb.size hle10
        have : b1 < b10 := Nat.lt_of_lt_of_le (blk_lt hk1) hle10
        have : b9 < b10 := Nat.lt_of_lt_of_le (blk_lt hk17) hle10
        replace hk1 := blk_ext hk1 he25
        replace hk17 := blk_ext hk17 he25
        replace hr1 := Row.ext hr1 he25
        replace hb := hb.trans (Below.mono he25 hb.size)
        refine sqdt hf (d_alloc (z := (.agg #[(.string ⟨#[]⟩), (.string ⟨#[]⟩)])) (cs := #[(.string ⟨#[]⟩), (.string ⟨#[]⟩)]) (by kernel_rfl) rfl) rfl rfl rfl ?_; clear hf fa; rintro fa _ w34 ⟨b11, rfl, hle11, hk19, he26⟩ hf
        have hBb11 : w.heap.size ≤ b11 := Nat.le_trans hb.size hle11
        have : b1 < b11 := Nat.lt_of_lt_of_le (blk_lt hk1) hle11
        have : b9 < b11 := Nat.lt_of_lt_of_le (blk_lt hk17) hle11
        have : b10 < b11 := Nat.lt_of_lt_of_le (blk_lt hk18) hle11
        replace hk1 := blk_ext hk1 he26
        replace hk17 := blk_ext hk17 he26
        replace hk18 := blk_ext hk18 he26
        replace hr1 := Row.ext hr1 he26
        replace hb := hb.trans (Below.mono he26 hb.size)
        refine sqn hf (d_storeK (T := 49) (v := (.agg #[(.int .i64 ((ranyP d nm).1)), (.int .u32 ((ranyP d nm).2.1))])) (cs := #[(.int .i64 (0 : Int)), (.int .u32 (0 : Int))]) (cs' := #[(.int .i64 ((ranyP d nm).1)), (.int .u32 ((ranyP d nm).2.1))]) rfl rfl (by kernel_rfl) (by kernel_rfl) hk18 (by kernel_rfl) (by kernel_rfl)) rfl rfl ?_; clear hf fa; rintro fa _ w35 ⟨hk20, hg9⟩ hf
        replace hk1 := blk_grown hk1 hg9 (by omega)
        replace hk17 := blk_grown hk17 hg9 (by omega)
        replace hk19 := blk_grown hk19 hg9 (by omega)
        replace hr1 := Row.grown hr1 hg9 (Row.ne_type hr1 hk18 rfl)
        replace hb := hb.trans (grown_below hg9 hb.size hBb10)
        refine sqn hf (d_storeK (T := 78) (v := (.agg #[(.string (ranyP d nm).2.2.1.1), (.string (ranyP d nm).2.2.1.2.1)])) (cs := #[(.string ⟨#[]⟩), (.string ⟨#[]⟩)]) (cs' := #[(.string (ranyP d nm).2.2.1.1), (.string (ranyP d nm).2.2.1.2.1)]) rfl rfl (by kernel_rfl) (by kernel_rfl) hk19 (by kernel_rfl) (by kernel_rfl)) rfl rfl ?_; clear hf fa; rintro fa _ w36 ⟨hk21, hg10⟩ hf
        replace hk1 := blk_grown hk1 hg10 (by omega)
        replace hk17 := blk_grown hk17 hg10 (by omega)
        replace hk20 := blk_grown hk20 hg10 (by omega)
        replace hr1 := Row.grown hr1 hg10 (Row.ne_type hr1 hk19 rfl)
        replace hb := hb.trans (grown_below hg10 hb.size hBb11)
        refine sqv hf (r_assign rfl) rfl rfl rfl ?_; clear hf fa; intro fa hf
        apply wpList_nil
        (try simp only [Exit.then, Exit.inBlock, ↓reduceIte, Nat.reduceEqDiff])
        refine hK26 _ _ ?_
        refine wp_seq_k (fun K27 hK27 => ?_)
        refine wp_region_lit ?_
        refine sqv hf (r_move rfl) rfl rfl rfl ?_; clear hf fa; intro fa hf
        refine sqv hf (r_move rfl) rfl rfl rfl ?_; clear hf fa; intro fa hf
        refine sqdt hf (d_callB (vs := [(.slice d.at' d.len d.cap), (.string nm)]) rfl Try.func52 (by kernel_rfl) (by kernel_rfl) (rany_any d nm _ ⟨g.1, fSl_kept g.2 hb⟩ hU.2.2.2)) rfl rfl rfl ?_; clear hf fa; rintro fa _ w37 ⟨rfl, he27⟩ hf
        replace hk1 := blk_ext hk1 he27
        replace hk17 := blk_ext hk17 he27
        replace hk20 := blk_ext hk20 he27
        replace hk21 := blk_ext hk21 he27
        replace hr1 := Row.ext hr1 he27
        replace hb := hb.trans (Below.mono he27 hb.size)
        refine sqv hf (r_move rfl) rfl rfl rfl ?_; clear hf fa; intro fa hf
        refine sqv hf (r_extract rfl (i := 0) rfl) rfl rfl rfl ?_; clear hf fa; intro fa hf
        refine sqv hf (r_extract rfl (i := 1) rfl) rfl rfl rfl ?_; clear hf fa; intro fa hf
        refine sqv hf (r_extract rfl (i := 2) rfl) rfl rfl rfl ?_; clear hf fa; intro fa hf
        refine sqv hf (r_extract rfl (i := 3) rfl) rfl rfl rfl ?_; clear hf fa; intro fa hf
        refine sqdt hf (d_alloc (z := (.agg #[(.string ⟨#[]⟩), (.string ⟨#[]⟩)])) (cs := #[(.string ⟨#[]⟩), (.string ⟨#[]⟩)]) (by kernel_rfl) rfl) rfl rfl rfl ?_; clear hf fa; rintro fa _ w38 ⟨b12, rfl, hle12, hk22, he28⟩ hf
        have hBb12 : w.heap.size ≤ b12 := Nat.le_trans hb.size hle12
        have : b1 < b12 := Nat.lt_of_lt_of_le (blk_lt hk1) hle12
        have : b9 < b12 := Nat.lt_of_lt_of_le (blk_lt hk17) hle12
        have : b10 < b12 := Nat.lt_of_lt_of_le (blk_lt hk20) hle12
        have : b11 < b12 := Nat.lt_of_lt_of_le (blk_lt hk21) hle12
        replace hk1 := blk_ext hk1 he28
        replace hk17 := blk_ext hk17 he28
        replace hk20 := blk_ext hk20 he28
        replace hk21 := blk_ext hk21 he28
        replace hr1 := Row.ext hr1 he28
        replace hb := hb.trans (Below.mono he28 hb.size)
        refine sqv hf (r_assign rfl) rfl rfl rfl ?_; clear hf fa; intro fa hf
        refine sqv hf (r_assign rfl) rfl rfl rfl ?_; clear hf fa; intro fa hf
        refine sqn hf (d_storeK (T := 78) (v := (.agg #[(.string (ranyP d nm).2.2.1.1), (.string (ranyP d nm).2.2.1.2.1)])) (cs := #[(.string ⟨#[]⟩), (.string ⟨#[]⟩)]) (cs' := #[(.string (ranyP d nm).2.2.1.1), (.string (ranyP d nm).2.2.1.2.1)]) rfl rfl (by kernel_rfl) (by kernel_rfl) hk22 (by kernel_rfl) (by kernel_rfl)) rfl rfl ?_; clear hf fa; rintro fa _ w39 ⟨hk23, hg11⟩ hf
        replace hk1 := blk_grown hk1 hg11 (by omega)
        replace hk17 := blk_grown hk17 hg11 (by omega)
        replace hk20 := blk_grown hk20 hg11 (by omega)
        replace hk21 := blk_grown hk21 hg11 (by omega)
        replace hr1 := Row.grown hr1 hg11 (Row.ne_type hr1 hk22 rfl)
        replace hb := hb.trans (grown_below hg11 hb.size hBb12)
        refine sqv hf (r_assign rfl) rfl rfl rfl ?_; clear hf fa; intro fa hf
        apply wpList_nil
        (try simp only [Exit.then, Exit.inBlock, ↓reduceIte, Nat.reduceEqDiff])
        refine hK27 _ _ ?_
        refine wp_seq_k (fun K28 hK28 => ?_)
        refine wp_seq_k (fun K29 hK29 => ?_)
        refine wp_region_lit ?_
        refine sqv hf (r_move rfl) rfl rfl rfl ?_; clear hf fa; intro fa hf
        refine sqv hf (r_move rfl) rfl rfl rfl ?_; clear hf fa; intro fa hf
        refine sqv hf (Runs.veq (r_ne rfl rfl) (congrArg Value.bool (show _ = false from (by simp)))) rfl rfl rfl ?_; clear hf fa; intro fa hf
        refine sqv hf (r_move rfl) rfl rfl rfl ?_; clear hf fa; intro fa hf
        refine sqgd (act := true) (g := 3) (want := false) (ag := true) (c := false) hf (by rfl) (by rfl) rfl (fun _ =>  Runs.does (R := fun vq wq => vq = (.agg #[(.string (ranyP d nm).2.2.1.1), (.string (ranyP d nm).2.2.1.2.1)]) ∧ w39 = wq) (r_loadA (cs := [(.string (ranyP d nm).2.2.1.1), (.string (ranyP d nm).2.2.1.2.1)]) rfl Try.underlying78 rfl (by kernel_rfl) (cellsAt_blk hk21)) ⟨rfl, rfl⟩) (fun h => by cases h) rfl ?_; clear hf fa; rintro fa _ _ ⟨rfl, rfl⟩ hf
        change Fr _ _ ((113, (.agg #[(.string (ranyP d nm).2.2.1.1), (.string (ranyP d nm).2.2.1.2.1)])) :: _) at hf
        refine sqgd (act := true) (g := 3) (want := false) (ag := true) (c := false) hf (by rfl) (by rfl) rfl (fun _ =>  Runs.does (R := fun vq wq => vq = (.agg #[(.string (ranyP d nm).2.2.1.1), (.string (ranyP d nm).2.2.1.2.1)]) ∧ w39 = wq) (r_loadA (cs := [(.string (ranyP d nm).2.2.1.1), (.string (ranyP d nm).2.2.1.2.1)]) rfl Try.underlying78 rfl (by kernel_rfl) (cellsAt_blk hk23)) ⟨rfl, rfl⟩) (fun h => by cases h) rfl ?_; clear hf fa; rintro fa _ _ ⟨rfl, rfl⟩ hf
        change Fr _ _ ((114, (.agg #[(.string (ranyP d nm).2.2.1.1), (.string (ranyP d nm).2.2.1.2.1)])) :: _) at hf
        refine sqgd (act := true) (g := 3) (want := false) (ag := true) (c := false) hf (by rfl) (by rfl) rfl (fun _ =>  Runs.does (R := fun vq wq => vq = (.bool false) ∧ w39 = wq) (Runs.veq (r_ane (k := 5) rfl rfl (by kernel_rfl) (eqt_struct (xs := #[(.string (ranyP d nm).2.2.1.1), (.string (ranyP d nm).2.2.1.2.1)]) (ys := #[(.string (ranyP d nm).2.2.1.1), (.string (ranyP d nm).2.2.1.2.1)]) Try.underlying78 (by kernel_rfl) (eqf_cons (by kernel_rfl) (fun _ => by kernel_rfl) (fun _ => by kernel_rfl) (eqt_str (a := (ranyP d nm).2.2.1.1) (b := (ranyP d nm).2.2.1.1) Try.underlying9) (eqf_one (by kernel_rfl) (fun _ => by kernel_rfl) (fun _ => by kernel_rfl) (eqt_str (a := (ranyP d nm).2.2.1.2.1) (b := (ranyP d nm).2.2.1.2.1) Try.underlying9)))) rfl) (congrArg Value.bool (show _ = false from (by simp)))) ⟨rfl, rfl⟩) (fun h => by cases h) rfl ?_; clear hf fa; rintro fa _ _ ⟨rfl, rfl⟩ hf
        change Fr _ _ ((115, (.bool false)) :: _) at hf
        refine sqv hf (r_pick (b := false) rfl rfl rfl rfl) rfl rfl rfl ?_; clear hf fa; intro fa hf
        refine sqv hf (r_move rfl) rfl rfl rfl ?_; clear hf fa; intro fa hf
        refine sqgd (act := true) (g := 8) (want := false) (ag := true) (c := false) hf (by rfl) (by rfl) rfl (fun _ =>  Runs.does (R := fun vq wq => vq = (.agg #[(.int .i64 ((ranyP d nm).1)), (.int .u32 ((ranyP d nm).2.1))]) ∧ w39 = wq) (r_loadA (cs := [(.int .i64 ((ranyP d nm).1)), (.int .u32 ((ranyP d nm).2.1))]) rfl Try.underlying49 rfl (by kernel_rfl) (cellsAt_blk hk20)) ⟨rfl, rfl⟩) (fun h => by cases h) rfl ?_; clear hf fa; rintro fa _ _ ⟨rfl, rfl⟩ hf
        change Fr _ _ ((118, (.agg #[(.int .i64 ((ranyP d nm).1)), (.int .u32 ((ranyP d nm).2.1))])) :: _) at hf
        refine sqgd (act := true) (g := 8) (want := false) (ag := true) (c := false) hf (by rfl) (by rfl) rfl (fun _ =>  Runs.does (R := fun vq wq => vq = (.int .i64 ((ranyP d nm).1)) ∧ w39 = wq) (r_move rfl) ⟨rfl, rfl⟩) (fun h => by cases h) rfl ?_; clear hf fa; rintro fa _ _ ⟨rfl, rfl⟩ hf
        change Fr _ _ ((119, (.int .i64 ((ranyP d nm).1))) :: _) at hf
        refine sqgd (act := true) (g := 8) (want := false) (ag := true) (c := false) hf (by rfl) (by rfl) rfl (fun _ =>  Runs.does (R := fun vq wq => vq = (.int .u32 ((ranyP d nm).2.1)) ∧ w39 = wq) (r_move rfl) ⟨rfl, rfl⟩) (fun h => by cases h) rfl ?_; clear hf fa; rintro fa _ _ ⟨rfl, rfl⟩ hf
        change Fr _ _ ((120, (.int .u32 ((ranyP d nm).2.1))) :: _) at hf
        refine sqgd (act := true) (g := 8) (want := false) (ag := true) (c := false) hf (by rfl) (by rfl) rfl (fun _ =>  Runs.does (R := fun vq wq => vq = (.agg #[(.int .i64 ((ranyP d nm).1)), (.int .u32 ((ranyP d nm).2.1))]) ∧ w39 = wq) (r_build (vs := [(0, (.int .i64 ((ranyP d nm).1))), (1, (.int .u32 ((ranyP d nm).2.1)))]) (cs := #[(.int .i64 ((ranyP d nm).1)), (.int .u32 ((ranyP d nm).2.1))]) rfl (fun _ => by kernel_rfl)) ⟨rfl, rfl⟩) (fun h => by cases h) rfl ?_; clear hf fa; rintro fa _ _ ⟨rfl, rfl⟩ hf
        change Fr _ _ ((121, (.agg #[(.int .i64 ((ranyP d nm).1)), (.int .u32 ((ranyP d nm).2.1))])) :: _) at hf
        refine sqgd (act := true) (g := 8) (want := false) (ag := true) (c := false) hf (by rfl) (by rfl) rfl (fun _ =>  Runs.does (R := fun vq wq => vq = (.bool false) ∧ w39 = wq) (Runs.veq (r_ane (k := 5) rfl rfl (by kernel_rfl) (eqt_struct (xs := #[(.int .i64 ((ranyP d nm).1)), (.int .u32 ((ranyP d nm).2.1))]) (ys := #[(.int .i64 ((ranyP d nm).1)), (.int .u32 ((ranyP d nm).2.1))]) Try.underlying49 (by kernel_rfl) (eqf_cons (by kernel_rfl) (fun _ => by kernel_rfl) (fun _ => by kernel_rfl) (eqt_int (kk := .i64) (a := ((ranyP d nm).1)) (b := ((ranyP d nm).1)) Try.underlying3) (eqf_one (by kernel_rfl) (fun _ => by kernel_rfl) (fun _ => by kernel_rfl) (eqt_int (kk := .u32) (a := ((ranyP d nm).2.1)) (b := ((ranyP d nm).2.1)) Try.underlying44)))) rfl) (congrArg Value.bool (show _ = false from (by simp)))) ⟨rfl, rfl⟩) (fun h => by cases h) rfl ?_; clear hf fa; rintro fa _ _ ⟨rfl, rfl⟩ hf
        change Fr _ _ ((122, (.bool false)) :: _) at hf
        refine sqv hf (r_pick (b := false) rfl rfl rfl rfl) rfl rfl rfl ?_; clear hf fa; intro fa hf
        apply wpList_nil
        (try simp only [Exit.then, Exit.inBlock, ↓reduceIte, Nat.reduceEqDiff])
        refine hK29 _ _ ?_
        refine wp_cond_false (hf.ev rfl) ?_
        refine wp_skip ?_
        (try simp only [Exit.then, Exit.inBlock, ↓reduceIte, Nat.reduceEqDiff])
        refine hK28 _ _ ?_
        refine wp_seq_k (fun K30 hK30 => ?_)
        refine wp_region_lit ?_
        refine sqv hf (r_move rfl) rfl rfl rfl ?_; clear hf fa; intro fa hf
        refine sqv hf (r_move rfl) rfl rfl rfl ?_; clear hf fa; intro fa hf
        refine sqv hf (r_loadA (cs := [(.string t.1), (.string t.2.1)]) rfl Try.underlying78 rfl (by kernel_rfl) (cellsAt_blk hk1)) rfl rfl rfl ?_; clear hf fa; intro fa hf
        refine sqdt hf (d_callB (vs := [(.slice ua ul.length uc), (.string nm), (.agg #[(.string t.1), (.string t.2.1)])]) rfl Try.func53 (by kernel_rfl) (by kernel_rfl) (func_any d nm t _ ul ⟨g.1, fSl_kept g.2 hb⟩ hU.2.2.2 ua ul.length uc (Row.rd (by intros; rfl) hr1) rfl (by omega) hum)) rfl rfl rfl ?_; clear hf fa; rintro fa _ w40 ⟨rfl, he29⟩ hf
        replace hk1 := blk_ext hk1 he29
        replace hk17 := blk_ext hk17 he29
        replace hk20 := blk_ext hk20 he29
        replace hk21 := blk_ext hk21 he29
        replace hk23 := blk_ext hk23 he29
        replace hr1 := Row.ext hr1 he29
        replace hb := hb.trans (Below.mono he29 hb.size)
        refine sqv hf (r_move rfl) rfl rfl rfl ?_; clear hf fa; intro fa hf
        refine sqv hf (r_extract rfl (i := 0) rfl) rfl rfl rfl ?_; clear hf fa; intro fa hf
        refine sqv hf (r_extract rfl (i := 1) rfl) rfl rfl rfl ?_; clear hf fa; intro fa hf
        refine sqdt hf (d_alloc (z := (.agg #[(.int .i64 (0 : Int)), (.int .u32 (0 : Int))])) (cs := #[(.int .i64 (0 : Int)), (.int .u32 (0 : Int))]) (by kernel_rfl) rfl) rfl rfl rfl ?_; clear hf fa; rintro fa _ w41 ⟨b13, rfl, hle13, hk24, he30⟩ hf
        have hBb13 : w.heap.size ≤ b13 := Nat.le_trans hb.size hle13
        have : b1 < b13 := Nat.lt_of_lt_of_le (blk_lt hk1) hle13
        have : b9 < b13 := Nat.lt_of_lt_of_le (blk_lt hk17) hle13
        have : b10 < b13 := Nat.lt_of_lt_of_le (blk_lt hk20) hle13
        have : b11 < b13 := Nat.lt_of_lt_of_le (blk_lt hk21) hle13
        have : b12 < b13 := Nat.lt_of_lt_of_le (blk_lt hk23) hle13
        replace hk1 := blk_ext hk1 he30
        replace hk17 := blk_ext hk17 he30
        replace hk20 := blk_ext hk20 he30
        replace hk21 := blk_ext hk21 he30
        replace hk23 := blk_ext hk23 he30
        replace hr1 := Row.ext hr1 he30
        replace hb := hb.trans (Below.mono he30 hb.size)
        refine sqn hf (d_storeK (T := 49) (v := (.agg #[(.int .i64 ((funcP d nm t).1.1)), (.int .u32 ((funcP d nm t).1.2.1))])) (cs := #[(.int .i64 (0 : Int)), (.int .u32 (0 : Int))]) (cs' := #[(.int .i64 ((funcP d nm t).1.1)), (.int .u32 ((funcP d nm t).1.2.1))]) rfl rfl (by kernel_rfl) (by kernel_rfl) hk24 (by kernel_rfl) (by kernel_rfl)) rfl rfl ?_; clear hf fa; rintro fa _ w42 ⟨hk25, hg12⟩ hf
        replace hk1 := blk_grown hk1 hg12 (by omega)
        replace hk17 := blk_grown hk17 hg12 (by omega)
        replace hk20 := blk_grown hk20 hg12 (by omega)
        replace hk21 := blk_grown hk21 hg12 (by omega)
        replace hk23 := blk_grown hk23 hg12 (by omega)
        replace hr1 := Row.grown hr1 hg12 (Row.ne_type hr1 hk24 rfl)
        replace hb := hb.trans (grown_below hg12 hb.size hBb13)
        refine sqv hf (r_assign rfl) rfl rfl rfl ?_; clear hf fa; intro fa hf
        apply wpList_nil
        (try simp only [Exit.then, Exit.inBlock, ↓reduceIte, Nat.reduceEqDiff])
        refine hK30 _ _ ?_
        refine wp_seq_k (fun K31 hK31 => ?_)
        refine wp_region_lit ?_
        refine sqv hf (r_move rfl) rfl rfl rfl ?_; clear hf fa; intro fa hf
        refine sqv hf (r_move rfl) rfl rfl rfl ?_; clear hf fa; intro fa hf
        refine sqv hf (r_loadA (cs := [(.string (ranyP d nm).2.2.1.1), (.string (ranyP d nm).2.2.1.2.1)]) rfl Try.underlying78 rfl (by kernel_rfl) (cellsAt_blk hk21)) rfl rfl rfl ?_; clear hf fa; intro fa hf
        refine sqdt hf (d_callB (vs := [(.slice ua ul.length uc), (.string nm), (.agg #[(.string (ranyP d nm).2.2.1.1), (.string (ranyP d nm).2.2.1.2.1)])]) rfl Try.func53 (by kernel_rfl) (by kernel_rfl) (func_any d nm (ranyP d nm).2.2.1 _ ul ⟨g.1, fSl_kept g.2 hb⟩ hU.2.2.2 ua ul.length uc (Row.rd (by intros; rfl) hr1) rfl (by omega) hum)) rfl rfl rfl ?_; clear hf fa; rintro fa _ w43 ⟨rfl, he31⟩ hf
        replace hk1 := blk_ext hk1 he31
        replace hk17 := blk_ext hk17 he31
        replace hk20 := blk_ext hk20 he31
        replace hk21 := blk_ext hk21 he31
        replace hk23 := blk_ext hk23 he31
        replace hk25 := blk_ext hk25 he31
        replace hr1 := Row.ext hr1 he31
        replace hb := hb.trans (Below.mono he31 hb.size)
        refine sqv hf (r_move rfl) rfl rfl rfl ?_; clear hf fa; intro fa hf
        refine sqv hf (r_extract rfl (i := 0) rfl) rfl rfl rfl ?_; clear hf fa; intro fa hf
        refine sqv hf (r_extract rfl (i := 1) rfl) rfl rfl rfl ?_; clear hf fa; intro fa hf
        refine sqdt hf (d_alloc (z := (.agg #[(.int .i64 (0 : Int)), (.int .u32 (0 : Int))])) (cs := #[(.int .i64 (0 : Int)), (.int .u32 (0 : Int))]) (by kernel_rfl) rfl) rfl rfl rfl ?_; clear hf fa; rintro fa _ w44 ⟨b14, rfl, hle14, hk26, he32⟩ hf
        have hBb14 : w.heap.size ≤ b14 := Nat.le_trans hb.size hle14
        have : b1 < b14 := Nat.lt_of_lt_of_le (blk_lt hk1) hle14
        have : b9 < b14 := Nat.lt_of_lt_of_le (blk_lt hk17) hle14
        have : b10 < b14 := Nat.lt_of_lt_of_le (blk_lt hk20) hle14
        have : b11 < b14 := Nat.lt_of_lt_of_le (blk_lt hk21) hle14
        have : b12 < b14 := Nat.lt_of_lt_of_le (blk_lt hk23) hle14
        have : b13 < b14 := Nat.lt_of_lt_of_le (blk_lt hk25) hle14
        replace hk1 := blk_ext hk1 he32
        replace hk17 := blk_ext hk17 he32
        replace hk20 := blk_ext hk20 he32
        replace hk21 := blk_ext hk21 he32
        replace hk23 := blk_ext hk23 he32
        replace hk25 := blk_ext hk25 he32
        replace hr1 := Row.ext hr1 he32
        replace hb := hb.trans (Below.mono he32 hb.size)
        refine sqn hf (d_storeK (T := 49) (v := (.agg #[(.int .i64 ((funcP d nm (ranyP d nm).2.2.1).1.1)), (.int .u32 ((funcP d nm (ranyP d nm).2.2.1).1.2.1))])) (cs := #[(.int .i64 (0 : Int)), (.int .u32 (0 : Int))]) (cs' := #[(.int .i64 ((funcP d nm (ranyP d nm).2.2.1).1.1)), (.int .u32 ((funcP d nm (ranyP d nm).2.2.1).1.2.1))]) rfl rfl (by kernel_rfl) (by kernel_rfl) hk26 (by kernel_rfl) (by kernel_rfl)) rfl rfl ?_; clear hf fa; rintro fa _ w45 ⟨hk27, hg13⟩ hf
        replace hk1 := blk_grown hk1 hg13 (by omega)
        replace hk17 := blk_grown hk17 hg13 (by omega)
        replace hk20 := blk_grown hk20 hg13 (by omega)
        replace hk21 := blk_grown hk21 hg13 (by omega)
        replace hk23 := blk_grown hk23 hg13 (by omega)
        replace hk25 := blk_grown hk25 hg13 (by omega)
        replace hr1 := Row.grown hr1 hg13 (Row.ne_type hr1 hk26 rfl)
        replace hb := hb.trans (grown_below hg13 hb.size hBb14)
        refine sqv hf (r_assign rfl) rfl rfl rfl ?_; clear hf fa; intro fa hf
        apply wpList_nil
        (try simp only [Exit.then, Exit.inBlock, ↓reduceIte, Nat.reduceEqDiff])
        refine hK31 _ _ ?_
        refine wp_seq_k (fun K32 hK32 => ?_)
        refine wp_seq_k (fun K33 hK33 => ?_)
        refine wp_region_lit ?_
        refine sqv hf (r_move rfl) rfl rfl rfl ?_; clear hf fa; intro fa hf
        refine sqv hf (r_ne rfl rfl) rfl rfl rfl ?_; clear hf fa; intro fa hf
        refine sqv hf (r_move rfl) rfl rfl rfl ?_; clear hf fa; intro fa hf
        refine sqgT (act := (decide (((ranyP d nm).2.2.2) ≠ (0 : Int)))) (ag := true) (c := (decide (((ranyP d nm).2.2.2) ≠ (0 : Int)))) (v := (.int .i64 ((funcP d nm t).2))) hf rfl rfl rfl (fun hact => (r_move rfl)) rfl rfl ?_; clear hf fa; intro fa hf
        refine sqgT (act := (decide (((ranyP d nm).2.2.2) ≠ (0 : Int)))) (ag := true) (c := (decide (((ranyP d nm).2.2.2) ≠ (0 : Int)))) (v := (.int .i64 ((ranyP d nm).2.2.2))) hf rfl rfl rfl (fun hact => (r_move rfl)) rfl rfl ?_; clear hf fa; intro fa hf
        refine sqgT (act := (decide (((ranyP d nm).2.2.2) ≠ (0 : Int)))) (ag := true) (c := (decide (((ranyP d nm).2.2.2) ≠ (0 : Int)))) (v := (.bool (decide (((funcP d nm t).2) ≠ ((ranyP d nm).2.2.2))))) hf rfl rfl rfl (fun hact => (r_ne (gb_ev hact rfl) (gb_ev hact rfl))) rfl rfl ?_; clear hf fa; intro fa hf
        refine sqgT (act := (decide (((ranyP d nm).2.2.2) ≠ (0 : Int)))) (ag := true) (c := (decide (((ranyP d nm).2.2.2) ≠ (0 : Int)))) (v := (.bool (decide (((funcP d nm t).2) ≠ ((ranyP d nm).2.2.2))))) hf rfl rfl rfl (fun hact => (r_move (gb_ev hact rfl))) rfl rfl ?_; clear hf fa; intro fa hf
        refine sqgF (act := ((decide (((ranyP d nm).2.2.2) ≠ (0 : Int))) && !(decide (((funcP d nm t).2) ≠ ((ranyP d nm).2.2.2))))) (ag := (decide (((ranyP d nm).2.2.2) ≠ (0 : Int)))) (c := (decide (((funcP d nm t).2) ≠ ((ranyP d nm).2.2.2)))) (v := (.int .i64 ((funcP d nm (ranyP d nm).2.2.1).2))) hf rfl rfl rfl (fun hact => (r_move rfl)) rfl rfl ?_; clear hf fa; intro fa hf
        refine sqgF (act := ((decide (((ranyP d nm).2.2.2) ≠ (0 : Int))) && !(decide (((funcP d nm t).2) ≠ ((ranyP d nm).2.2.2))))) (ag := (decide (((ranyP d nm).2.2.2) ≠ (0 : Int)))) (c := (decide (((funcP d nm t).2) ≠ ((ranyP d nm).2.2.2)))) (v := (.int .i64 ((ranyP d nm).2.2.2))) hf rfl rfl rfl (fun hact => (r_move rfl)) rfl rfl ?_; clear hf fa; intro fa hf
        refine sqgF (act := ((decide (((ranyP d nm).2.2.2) ≠ (0 : Int))) && !(decide (((funcP d nm t).2) ≠ ((ranyP d nm).2.2.2))))) (ag := (decide (((ranyP d nm).2.2.2) ≠ (0 : Int)))) (c := (decide (((funcP d nm t).2) ≠ ((ranyP d nm).2.2.2)))) (v := (.bool (decide (((funcP d nm (ranyP d nm).2.2.1).2) ≠ ((ranyP d nm).2.2.2))))) hf rfl rfl rfl (fun hact => (r_ne (gb_ev hact rfl) (gb_ev hact rfl))) rfl rfl ?_; clear hf fa; intro fa hf
        refine sqgT (act := (decide (((ranyP d nm).2.2.2) ≠ (0 : Int)))) (ag := true) (c := (decide (((ranyP d nm).2.2.2) ≠ (0 : Int)))) (v := (.bool ((decide (((funcP d nm t).2) ≠ ((ranyP d nm).2.2.2))) || (decide (((funcP d nm (ranyP d nm).2.2.1).2) ≠ ((ranyP d nm).2.2.2)))))) hf rfl rfl rfl (fun hact => (r_pickO2 (q := (decide (((ranyP d nm).2.2.2) ≠ (0 : Int)))) (b := (decide (((funcP d nm t).2) ≠ ((ranyP d nm).2.2.2)))) (e := (decide (((funcP d nm (ranyP d nm).2.2.1).2) ≠ ((ranyP d nm).2.2.2)))) hact rfl rfl rfl)) rfl rfl ?_; clear hf fa; intro fa hf
        refine sqv hf (r_pickA (b := (decide (((ranyP d nm).2.2.2) ≠ (0 : Int)))) (e := ((decide (((funcP d nm t).2) ≠ ((ranyP d nm).2.2.2))) || (decide (((funcP d nm (ranyP d nm).2.2.1).2) ≠ ((ranyP d nm).2.2.2))))) rfl rfl rfl) rfl rfl rfl ?_; clear hf fa; intro fa hf
        refine sqv hf (r_move rfl) rfl rfl rfl ?_; clear hf fa; intro fa hf
        refine sqgF (act := (!((decide (((ranyP d nm).2.2.2) ≠ (0 : Int))) && ((decide (((funcP d nm t).2) ≠ ((ranyP d nm).2.2.2))) || (decide (((funcP d nm (ranyP d nm).2.2.1).2) ≠ ((ranyP d nm).2.2.2))))))) (ag := true) (c := ((decide (((ranyP d nm).2.2.2) ≠ (0 : Int))) && ((decide (((funcP d nm t).2) ≠ ((ranyP d nm).2.2.2))) || (decide (((funcP d nm (ranyP d nm).2.2.1).2) ≠ ((ranyP d nm).2.2.2)))))) (v := (.int .i64 ((ranyP d nm).2.2.2))) hf rfl rfl rfl (fun hact => (r_move rfl)) rfl rfl ?_; clear hf fa; intro fa hf
        refine sqgF (act := (!((decide (((ranyP d nm).2.2.2) ≠ (0 : Int))) && ((decide (((funcP d nm t).2) ≠ ((ranyP d nm).2.2.2))) || (decide (((funcP d nm (ranyP d nm).2.2.1).2) ≠ ((ranyP d nm).2.2.2))))))) (ag := true) (c := ((decide (((ranyP d nm).2.2.2) ≠ (0 : Int))) && ((decide (((funcP d nm t).2) ≠ ((ranyP d nm).2.2.2))) || (decide (((funcP d nm (ranyP d nm).2.2.1).2) ≠ ((ranyP d nm).2.2.2)))))) (v := (.bool (decide (((ranyP d nm).2.2.2) = (0 : Int))))) hf rfl rfl rfl (fun hact => (r_eq (gb_ev hact rfl) rfl)) rfl rfl ?_; clear hf fa; intro fa hf
        refine sqgF (act := (!((decide (((ranyP d nm).2.2.2) ≠ (0 : Int))) && ((decide (((funcP d nm t).2) ≠ ((ranyP d nm).2.2.2))) || (decide (((funcP d nm (ranyP d nm).2.2.1).2) ≠ ((ranyP d nm).2.2.2))))))) (ag := true) (c := ((decide (((ranyP d nm).2.2.2) ≠ (0 : Int))) && ((decide (((funcP d nm t).2) ≠ ((ranyP d nm).2.2.2))) || (decide (((funcP d nm (ranyP d nm).2.2.1).2) ≠ ((ranyP d nm).2.2.2)))))) (v := (.bool (decide (((ranyP d nm).2.2.2) = (0 : Int))))) hf rfl rfl rfl (fun hact => (r_move (gb_ev hact rfl))) rfl rfl ?_; clear hf fa; intro fa hf
        refine sqgT (act := ((!((decide (((ranyP d nm).2.2.2) ≠ (0 : Int))) && ((decide (((funcP d nm t).2) ≠ ((ranyP d nm).2.2.2))) || (decide (((funcP d nm (ranyP d nm).2.2.1).2) ≠ ((ranyP d nm).2.2.2)))))) && (decide (((ranyP d nm).2.2.2) = (0 : Int))))) (ag := (!((decide (((ranyP d nm).2.2.2) ≠ (0 : Int))) && ((decide (((funcP d nm t).2) ≠ ((ranyP d nm).2.2.2))) || (decide (((funcP d nm (ranyP d nm).2.2.1).2) ≠ ((ranyP d nm).2.2.2))))))) (c := (decide (((ranyP d nm).2.2.2) = (0 : Int)))) (v := (.int .i64 ((funcP d nm (ranyP d nm).2.2.1).2))) hf rfl rfl rfl (fun hact => (r_move rfl)) rfl rfl ?_; clear hf fa; intro fa hf
        refine sqgT (act := ((!((decide (((ranyP d nm).2.2.2) ≠ (0 : Int))) && ((decide (((funcP d nm t).2) ≠ ((ranyP d nm).2.2.2))) || (decide (((funcP d nm (ranyP d nm).2.2.1).2) ≠ ((ranyP d nm).2.2.2)))))) && (decide (((ranyP d nm).2.2.2) = (0 : Int))))) (ag := (!((decide (((ranyP d nm).2.2.2) ≠ (0 : Int))) && ((decide (((funcP d nm t).2) ≠ ((ranyP d nm).2.2.2))) || (decide (((funcP d nm (ranyP d nm).2.2.1).2) ≠ ((ranyP d nm).2.2.2))))))) (c := (decide (((ranyP d nm).2.2.2) = (0 : Int)))) (v := (.bool (decide (((funcP d nm (ranyP d nm).2.2.1).2) ≠ (0 : Int))))) hf rfl rfl rfl (fun hact => (r_ne (gb_ev hact rfl) rfl)) rfl rfl ?_; clear hf fa; intro fa hf
        refine sqgT (act := ((!((decide (((ranyP d nm).2.2.2) ≠ (0 : Int))) && ((decide (((funcP d nm t).2) ≠ ((ranyP d nm).2.2.2))) || (decide (((funcP d nm (ranyP d nm).2.2.1).2) ≠ ((ranyP d nm).2.2.2)))))) && (decide (((ranyP d nm).2.2.2) = (0 : Int))))) (ag := (!((decide (((ranyP d nm).2.2.2) ≠ (0 : Int))) && ((decide (((funcP d nm t).2) ≠ ((ranyP d nm).2.2.2))) || (decide (((funcP d nm (ranyP d nm).2.2.1).2) ≠ ((ranyP d nm).2.2.2))))))) (c := (decide (((ranyP d nm).2.2.2) = (0 : Int)))) (v := (.bool (decide (((funcP d nm (ranyP d nm).2.2.1).2) ≠ (0 : Int))))) hf rfl rfl rfl (fun hact => (r_move (gb_ev hact rfl))) rfl rfl ?_; clear hf fa; intro fa hf
        refine sqgF (act := (((!((decide (((ranyP d nm).2.2.2) ≠ (0 : Int))) && ((decide (((funcP d nm t).2) ≠ ((ranyP d nm).2.2.2))) || (decide (((funcP d nm (ranyP d nm).2.2.1).2) ≠ ((ranyP d nm).2.2.2)))))) && (decide (((ranyP d nm).2.2.2) = (0 : Int)))) && !(decide (((funcP d nm (ranyP d nm).2.2.1).2) ≠ (0 : Int))))) (ag := ((!((decide (((ranyP d nm).2.2.2) ≠ (0 : Int))) && ((decide (((funcP d nm t).2) ≠ ((ranyP d nm).2.2.2))) || (decide (((funcP d nm (ranyP d nm).2.2.1).2) ≠ ((ranyP d nm).2.2.2)))))) && (decide (((ranyP d nm).2.2.2) = (0 : Int))))) (c := (decide (((funcP d nm (ranyP d nm).2.2.1).2) ≠ (0 : Int)))) (v := (.agg #[(.int .i64 ((funcP d nm (ranyP d nm).2.2.1).1.1)), (.int .u32 ((funcP d nm (ranyP d nm).2.2.1).1.2.1))])) hf rfl rfl rfl (fun hact => (r_loadA (cs := [(.int .i64 ((funcP d nm (ranyP d nm).2.2.1).1.1)), (.int .u32 ((funcP d nm (ranyP d nm).2.2.1).1.2.1))]) rfl Try.underlying49 rfl (by kernel_rfl) (cellsAt_blk hk27))) rfl rfl ?_; clear hf fa; intro fa hf
        refine sqgF (act := (((!((decide (((ranyP d nm).2.2.2) ≠ (0 : Int))) && ((decide (((funcP d nm t).2) ≠ ((ranyP d nm).2.2.2))) || (decide (((funcP d nm (ranyP d nm).2.2.1).2) ≠ ((ranyP d nm).2.2.2)))))) && (decide (((ranyP d nm).2.2.2) = (0 : Int)))) && !(decide (((funcP d nm (ranyP d nm).2.2.1).2) ≠ (0 : Int))))) (ag := ((!((decide (((ranyP d nm).2.2.2) ≠ (0 : Int))) && ((decide (((funcP d nm t).2) ≠ ((ranyP d nm).2.2.2))) || (decide (((funcP d nm (ranyP d nm).2.2.1).2) ≠ ((ranyP d nm).2.2.2)))))) && (decide (((ranyP d nm).2.2.2) = (0 : Int))))) (c := (decide (((funcP d nm (ranyP d nm).2.2.1).2) ≠ (0 : Int)))) (v := (.agg #[(.int .i64 ((ranyP d nm).1)), (.int .u32 ((ranyP d nm).2.1))])) hf rfl rfl rfl (fun hact => (r_loadA (cs := [(.int .i64 ((ranyP d nm).1)), (.int .u32 ((ranyP d nm).2.1))]) rfl Try.underlying49 rfl (by kernel_rfl) (cellsAt_blk hk20))) rfl rfl ?_; clear hf fa; intro fa hf
        refine sqgF (act := (((!((decide (((ranyP d nm).2.2.2) ≠ (0 : Int))) && ((decide (((funcP d nm t).2) ≠ ((ranyP d nm).2.2.2))) || (decide (((funcP d nm (ranyP d nm).2.2.1).2) ≠ ((ranyP d nm).2.2.2)))))) && (decide (((ranyP d nm).2.2.2) = (0 : Int)))) && !(decide (((funcP d nm (ranyP d nm).2.2.1).2) ≠ (0 : Int))))) (ag := ((!((decide (((ranyP d nm).2.2.2) ≠ (0 : Int))) && ((decide (((funcP d nm t).2) ≠ ((ranyP d nm).2.2.2))) || (decide (((funcP d nm (ranyP d nm).2.2.1).2) ≠ ((ranyP d nm).2.2.2)))))) && (decide (((ranyP d nm).2.2.2) = (0 : Int))))) (c := (decide (((funcP d nm (ranyP d nm).2.2.1).2) ≠ (0 : Int)))) (v := (.bool (!((decide (((funcP d nm (ranyP d nm).2.2.1).1.1) = ((ranyP d nm).1))) && (decide (((funcP d nm (ranyP d nm).2.2.1).1.2.1) = ((ranyP d nm).2.1))))))) hf rfl rfl rfl (fun hact => (r_ane (k := 5) (gb_ev hact rfl) (gb_ev hact rfl) (by kernel_rfl) (eqt_struct (xs := #[(.int .i64 ((funcP d nm (ranyP d nm).2.2.1).1.1)), (.int .u32 ((funcP d nm (ranyP d nm).2.2.1).1.2.1))]) (ys := #[(.int .i64 ((ranyP d nm).1)), (.int .u32 ((ranyP d nm).2.1))]) Try.underlying49 (by kernel_rfl) (eqf_cons (by kernel_rfl) (fun _ => by kernel_rfl) (fun _ => by kernel_rfl) (eqt_int (kk := .i64) (a := ((funcP d nm (ranyP d nm).2.2.1).1.1)) (b := ((ranyP d nm).1)) Try.underlying3) (eqf_one (by kernel_rfl) (fun _ => by kernel_rfl) (fun _ => by kernel_rfl) (eqt_int (kk := .u32) (a := ((funcP d nm (ranyP d nm).2.2.1).1.2.1)) (b := ((ranyP d nm).2.1)) Try.underlying44)))) rfl)) rfl rfl ?_; clear hf fa; intro fa hf
        refine sqgT (act := ((!((decide (((ranyP d nm).2.2.2) ≠ (0 : Int))) && ((decide (((funcP d nm t).2) ≠ ((ranyP d nm).2.2.2))) || (decide (((funcP d nm (ranyP d nm).2.2.1).2) ≠ ((ranyP d nm).2.2.2)))))) && (decide (((ranyP d nm).2.2.2) = (0 : Int))))) (ag := (!((decide (((ranyP d nm).2.2.2) ≠ (0 : Int))) && ((decide (((funcP d nm t).2) ≠ ((ranyP d nm).2.2.2))) || (decide (((funcP d nm (ranyP d nm).2.2.1).2) ≠ ((ranyP d nm).2.2.2))))))) (c := (decide (((ranyP d nm).2.2.2) = (0 : Int)))) (v := (.bool ((decide (((funcP d nm (ranyP d nm).2.2.1).2) ≠ (0 : Int))) || (!((decide (((funcP d nm (ranyP d nm).2.2.1).1.1) = ((ranyP d nm).1))) && (decide (((funcP d nm (ranyP d nm).2.2.1).1.2.1) = ((ranyP d nm).2.1)))))))) hf rfl rfl rfl (fun hact => (r_pickO2 (q := ((!((decide (((ranyP d nm).2.2.2) ≠ (0 : Int))) && ((decide (((funcP d nm t).2) ≠ ((ranyP d nm).2.2.2))) || (decide (((funcP d nm (ranyP d nm).2.2.1).2) ≠ ((ranyP d nm).2.2.2)))))) && (decide (((ranyP d nm).2.2.2) = (0 : Int))))) (b := (decide (((funcP d nm (ranyP d nm).2.2.1).2) ≠ (0 : Int)))) (e := (!((decide (((funcP d nm (ranyP d nm).2.2.1).1.1) = ((ranyP d nm).1))) && (decide (((funcP d nm (ranyP d nm).2.2.1).1.2.1) = ((ranyP d nm).2.1)))))) hact rfl rfl rfl)) rfl rfl ?_; clear hf fa; intro fa hf
        refine sqgT (act := ((!((decide (((ranyP d nm).2.2.2) ≠ (0 : Int))) && ((decide (((funcP d nm t).2) ≠ ((ranyP d nm).2.2.2))) || (decide (((funcP d nm (ranyP d nm).2.2.1).2) ≠ ((ranyP d nm).2.2.2)))))) && (decide (((ranyP d nm).2.2.2) = (0 : Int))))) (ag := (!((decide (((ranyP d nm).2.2.2) ≠ (0 : Int))) && ((decide (((funcP d nm t).2) ≠ ((ranyP d nm).2.2.2))) || (decide (((funcP d nm (ranyP d nm).2.2.1).2) ≠ ((ranyP d nm).2.2.2))))))) (c := (decide (((ranyP d nm).2.2.2) = (0 : Int)))) (v := (.bool ((decide (((funcP d nm (ranyP d nm).2.2.1).2) ≠ (0 : Int))) || (!((decide (((funcP d nm (ranyP d nm).2.2.1).1.1) = ((ranyP d nm).1))) && (decide (((funcP d nm (ranyP d nm).2.2.1).1.2.1) = ((ranyP d nm).2.1)))))))) hf rfl rfl rfl (fun hact => (r_move (gb_ev hact rfl))) rfl rfl ?_; clear hf fa; intro fa hf
        refine sqgF (act := (((!((decide (((ranyP d nm).2.2.2) ≠ (0 : Int))) && ((decide (((funcP d nm t).2) ≠ ((ranyP d nm).2.2.2))) || (decide (((funcP d nm (ranyP d nm).2.2.1).2) ≠ ((ranyP d nm).2.2.2)))))) && (decide (((ranyP d nm).2.2.2) = (0 : Int)))) && !((decide (((funcP d nm (ranyP d nm).2.2.1).2) ≠ (0 : Int))) || (!((decide (((funcP d nm (ranyP d nm).2.2.1).1.1) = ((ranyP d nm).1))) && (decide (((funcP d nm (ranyP d nm).2.2.1).1.2.1) = ((ranyP d nm).2.1)))))))) (ag := ((!((decide (((ranyP d nm).2.2.2) ≠ (0 : Int))) && ((decide (((funcP d nm t).2) ≠ ((ranyP d nm).2.2.2))) || (decide (((funcP d nm (ranyP d nm).2.2.1).2) ≠ ((ranyP d nm).2.2.2)))))) && (decide (((ranyP d nm).2.2.2) = (0 : Int))))) (c := ((decide (((funcP d nm (ranyP d nm).2.2.1).2) ≠ (0 : Int))) || (!((decide (((funcP d nm (ranyP d nm).2.2.1).1.1) = ((ranyP d nm).1))) && (decide (((funcP d nm (ranyP d nm).2.2.1).1.2.1) = ((ranyP d nm).2.1))))))) (v := (.int .i64 ((funcP d nm t).2))) hf rfl rfl rfl (fun hact => (r_move rfl)) rfl rfl ?_; clear hf fa; intro fa hf
        refine sqgF (act := (((!((decide (((ranyP d nm).2.2.2) ≠ (0 : Int))) && ((decide (((funcP d nm t).2) ≠ ((ranyP d nm).2.2.2))) || (decide (((funcP d nm (ranyP d nm).2.2.1).2) ≠ ((ranyP d nm).2.2.2)))))) && (decide (((ranyP d nm).2.2.2) = (0 : Int)))) && !((decide (((funcP d nm (ranyP d nm).2.2.1).2) ≠ (0 : Int))) || (!((decide (((funcP d nm (ranyP d nm).2.2.1).1.1) = ((ranyP d nm).1))) && (decide (((funcP d nm (ranyP d nm).2.2.1).1.2.1) = ((ranyP d nm).2.1)))))))) (ag := ((!((decide (((ranyP d nm).2.2.2) ≠ (0 : Int))) && ((decide (((funcP d nm t).2) ≠ ((ranyP d nm).2.2.2))) || (decide (((funcP d nm (ranyP d nm).2.2.1).2) ≠ ((ranyP d nm).2.2.2)))))) && (decide (((ranyP d nm).2.2.2) = (0 : Int))))) (c := ((decide (((funcP d nm (ranyP d nm).2.2.1).2) ≠ (0 : Int))) || (!((decide (((funcP d nm (ranyP d nm).2.2.1).1.1) = ((ranyP d nm).1))) && (decide (((funcP d nm (ranyP d nm).2.2.1).1.2.1) = ((ranyP d nm).2.1))))))) (v := (.bool (decide (((funcP d nm t).2) = (0 : Int))))) hf rfl rfl rfl (fun hact => (r_eq (gb_ev hact rfl) rfl)) rfl rfl ?_; clear hf fa; intro fa hf
        refine sqgF (act := (((!((decide (((ranyP d nm).2.2.2) ≠ (0 : Int))) && ((decide (((funcP d nm t).2) ≠ ((ranyP d nm).2.2.2))) || (decide (((funcP d nm (ranyP d nm).2.2.1).2) ≠ ((ranyP d nm).2.2.2)))))) && (decide (((ranyP d nm).2.2.2) = (0 : Int)))) && !((decide (((funcP d nm (ranyP d nm).2.2.1).2) ≠ (0 : Int))) || (!((decide (((funcP d nm (ranyP d nm).2.2.1).1.1) = ((ranyP d nm).1))) && (decide (((funcP d nm (ranyP d nm).2.2.1).1.2.1) = ((ranyP d nm).2.1)))))))) (ag := ((!((decide (((ranyP d nm).2.2.2) ≠ (0 : Int))) && ((decide (((funcP d nm t).2) ≠ ((ranyP d nm).2.2.2))) || (decide (((funcP d nm (ranyP d nm).2.2.1).2) ≠ ((ranyP d nm).2.2.2)))))) && (decide (((ranyP d nm).2.2.2) = (0 : Int))))) (c := ((decide (((funcP d nm (ranyP d nm).2.2.1).2) ≠ (0 : Int))) || (!((decide (((funcP d nm (ranyP d nm).2.2.1).1.1) = ((ranyP d nm).1))) && (decide (((funcP d nm (ranyP d nm).2.2.1).1.2.1) = ((ranyP d nm).2.1))))))) (v := (.agg #[(.string t.1), (.string t.2.1)])) hf rfl rfl rfl (fun hact => (r_loadA (cs := [(.string t.1), (.string t.2.1)]) rfl Try.underlying78 rfl (by kernel_rfl) (cellsAt_blk hk1))) rfl rfl ?_; clear hf fa; intro fa hf
        refine sqgF (act := (((!((decide (((ranyP d nm).2.2.2) ≠ (0 : Int))) && ((decide (((funcP d nm t).2) ≠ ((ranyP d nm).2.2.2))) || (decide (((funcP d nm (ranyP d nm).2.2.1).2) ≠ ((ranyP d nm).2.2.2)))))) && (decide (((ranyP d nm).2.2.2) = (0 : Int)))) && !((decide (((funcP d nm (ranyP d nm).2.2.1).2) ≠ (0 : Int))) || (!((decide (((funcP d nm (ranyP d nm).2.2.1).1.1) = ((ranyP d nm).1))) && (decide (((funcP d nm (ranyP d nm).2.2.1).1.2.1) = ((ranyP d nm).2.1)))))))) (ag := ((!((decide (((ranyP d nm).2.2.2) ≠ (0 : Int))) && ((decide (((funcP d nm t).2) ≠ ((ranyP d nm).2.2.2))) || (decide (((funcP d nm (ranyP d nm).2.2.1).2) ≠ ((ranyP d nm).2.2.2)))))) && (decide (((ranyP d nm).2.2.2) = (0 : Int))))) (c := ((decide (((funcP d nm (ranyP d nm).2.2.1).2) ≠ (0 : Int))) || (!((decide (((funcP d nm (ranyP d nm).2.2.1).1.1) = ((ranyP d nm).1))) && (decide (((funcP d nm (ranyP d nm).2.2.1).1.2.1) = ((ranyP d nm).2.1))))))) (v := (.agg #[(.string (ranyP d nm).2.2.1.1), (.string (ranyP d nm).2.2.1.2.1)])) hf rfl rfl rfl (fun hact => (r_loadA (cs := [(.string (ranyP d nm).2.2.1.1), (.string (ranyP d nm).2.2.1.2.1)]) rfl Try.underlying78 rfl (by kernel_rfl) (cellsAt_blk hk21))) rfl rfl ?_; clear hf fa; intro fa hf
        refine sqgF (act := (((!((decide (((ranyP d nm).2.2.2) ≠ (0 : Int))) && ((decide (((funcP d nm t).2) ≠ ((ranyP d nm).2.2.2))) || (decide (((funcP d nm (ranyP d nm).2.2.1).2) ≠ ((ranyP d nm).2.2.2)))))) && (decide (((ranyP d nm).2.2.2) = (0 : Int)))) && !((decide (((funcP d nm (ranyP d nm).2.2.1).2) ≠ (0 : Int))) || (!((decide (((funcP d nm (ranyP d nm).2.2.1).1.1) = ((ranyP d nm).1))) && (decide (((funcP d nm (ranyP d nm).2.2.1).1.2.1) = ((ranyP d nm).2.1)))))))) (ag := ((!((decide (((ranyP d nm).2.2.2) ≠ (0 : Int))) && ((decide (((funcP d nm t).2) ≠ ((ranyP d nm).2.2.2))) || (decide (((funcP d nm (ranyP d nm).2.2.1).2) ≠ ((ranyP d nm).2.2.2)))))) && (decide (((ranyP d nm).2.2.2) = (0 : Int))))) (c := ((decide (((funcP d nm (ranyP d nm).2.2.1).2) ≠ (0 : Int))) || (!((decide (((funcP d nm (ranyP d nm).2.2.1).1.1) = ((ranyP d nm).1))) && (decide (((funcP d nm (ranyP d nm).2.2.1).1.2.1) = ((ranyP d nm).2.1))))))) (v := (.bool ((decide (t.1 = (ranyP d nm).2.2.1.1)) && (decide (t.2.1 = (ranyP d nm).2.2.1.2.1))))) hf rfl rfl rfl (fun hact => (r_aeq (k := 5) (gb_ev hact rfl) (gb_ev hact rfl) (by kernel_rfl) (eqt_struct (xs := #[(.string t.1), (.string t.2.1)]) (ys := #[(.string (ranyP d nm).2.2.1.1), (.string (ranyP d nm).2.2.1.2.1)]) Try.underlying78 (by kernel_rfl) (eqf_cons (by kernel_rfl) (fun _ => by kernel_rfl) (fun _ => by kernel_rfl) (eqt_str (a := t.1) (b := (ranyP d nm).2.2.1.1) Try.underlying9) (eqf_one (by kernel_rfl) (fun _ => by kernel_rfl) (fun _ => by kernel_rfl) (eqt_str (a := t.2.1) (b := (ranyP d nm).2.2.1.2.1) Try.underlying9)))) rfl)) rfl rfl ?_; clear hf fa; intro fa hf
        refine sqgF (act := (((!((decide (((ranyP d nm).2.2.2) ≠ (0 : Int))) && ((decide (((funcP d nm t).2) ≠ ((ranyP d nm).2.2.2))) || (decide (((funcP d nm (ranyP d nm).2.2.1).2) ≠ ((ranyP d nm).2.2.2)))))) && (decide (((ranyP d nm).2.2.2) = (0 : Int)))) && !((decide (((funcP d nm (ranyP d nm).2.2.1).2) ≠ (0 : Int))) || (!((decide (((funcP d nm (ranyP d nm).2.2.1).1.1) = ((ranyP d nm).1))) && (decide (((funcP d nm (ranyP d nm).2.2.1).1.2.1) = ((ranyP d nm).2.1)))))))) (ag := ((!((decide (((ranyP d nm).2.2.2) ≠ (0 : Int))) && ((decide (((funcP d nm t).2) ≠ ((ranyP d nm).2.2.2))) || (decide (((funcP d nm (ranyP d nm).2.2.1).2) ≠ ((ranyP d nm).2.2.2)))))) && (decide (((ranyP d nm).2.2.2) = (0 : Int))))) (c := ((decide (((funcP d nm (ranyP d nm).2.2.1).2) ≠ (0 : Int))) || (!((decide (((funcP d nm (ranyP d nm).2.2.1).1.1) = ((ranyP d nm).1))) && (decide (((funcP d nm (ranyP d nm).2.2.1).1.2.1) = ((ranyP d nm).2.1))))))) (v := (.bool (!((decide (((funcP d nm t).2) = (0 : Int))) == ((decide (t.1 = (ranyP d nm).2.2.1.1)) && (decide (t.2.1 = (ranyP d nm).2.2.1.2.1))))))) hf rfl rfl rfl (fun hact => (r_bne Try.underlying4 (gb_ev hact rfl) (gb_ev hact rfl))) rfl rfl ?_; clear hf fa; intro fa hf
        refine sqgT (act := ((!((decide (((ranyP d nm).2.2.2) ≠ (0 : Int))) && ((decide (((funcP d nm t).2) ≠ ((ranyP d nm).2.2.2))) || (decide (((funcP d nm (ranyP d nm).2.2.1).2) ≠ ((ranyP d nm).2.2.2)))))) && (decide (((ranyP d nm).2.2.2) = (0 : Int))))) (ag := (!((decide (((ranyP d nm).2.2.2) ≠ (0 : Int))) && ((decide (((funcP d nm t).2) ≠ ((ranyP d nm).2.2.2))) || (decide (((funcP d nm (ranyP d nm).2.2.1).2) ≠ ((ranyP d nm).2.2.2))))))) (c := (decide (((ranyP d nm).2.2.2) = (0 : Int)))) (v := (.bool (((decide (((funcP d nm (ranyP d nm).2.2.1).2) ≠ (0 : Int))) || (!((decide (((funcP d nm (ranyP d nm).2.2.1).1.1) = ((ranyP d nm).1))) && (decide (((funcP d nm (ranyP d nm).2.2.1).1.2.1) = ((ranyP d nm).2.1)))))) || (!((decide (((funcP d nm t).2) = (0 : Int))) == ((decide (t.1 = (ranyP d nm).2.2.1.1)) && (decide (t.2.1 = (ranyP d nm).2.2.1.2.1)))))))) hf rfl rfl rfl (fun hact => (r_pickO2 (q := ((!((decide (((ranyP d nm).2.2.2) ≠ (0 : Int))) && ((decide (((funcP d nm t).2) ≠ ((ranyP d nm).2.2.2))) || (decide (((funcP d nm (ranyP d nm).2.2.1).2) ≠ ((ranyP d nm).2.2.2)))))) && (decide (((ranyP d nm).2.2.2) = (0 : Int))))) (b := ((decide (((funcP d nm (ranyP d nm).2.2.1).2) ≠ (0 : Int))) || (!((decide (((funcP d nm (ranyP d nm).2.2.1).1.1) = ((ranyP d nm).1))) && (decide (((funcP d nm (ranyP d nm).2.2.1).1.2.1) = ((ranyP d nm).2.1))))))) (e := (!((decide (((funcP d nm t).2) = (0 : Int))) == ((decide (t.1 = (ranyP d nm).2.2.1.1)) && (decide (t.2.1 = (ranyP d nm).2.2.1.2.1)))))) hact rfl rfl rfl)) rfl rfl ?_; clear hf fa; intro fa hf
        refine sqgT (act := ((!((decide (((ranyP d nm).2.2.2) ≠ (0 : Int))) && ((decide (((funcP d nm t).2) ≠ ((ranyP d nm).2.2.2))) || (decide (((funcP d nm (ranyP d nm).2.2.1).2) ≠ ((ranyP d nm).2.2.2)))))) && (decide (((ranyP d nm).2.2.2) = (0 : Int))))) (ag := (!((decide (((ranyP d nm).2.2.2) ≠ (0 : Int))) && ((decide (((funcP d nm t).2) ≠ ((ranyP d nm).2.2.2))) || (decide (((funcP d nm (ranyP d nm).2.2.1).2) ≠ ((ranyP d nm).2.2.2))))))) (c := (decide (((ranyP d nm).2.2.2) = (0 : Int)))) (v := (.bool (((decide (((funcP d nm (ranyP d nm).2.2.1).2) ≠ (0 : Int))) || (!((decide (((funcP d nm (ranyP d nm).2.2.1).1.1) = ((ranyP d nm).1))) && (decide (((funcP d nm (ranyP d nm).2.2.1).1.2.1) = ((ranyP d nm).2.1)))))) || (!((decide (((funcP d nm t).2) = (0 : Int))) == ((decide (t.1 = (ranyP d nm).2.2.1.1)) && (decide (t.2.1 = (ranyP d nm).2.2.1.2.1)))))))) hf rfl rfl rfl (fun hact => (r_move (gb_ev hact rfl))) rfl rfl ?_; clear hf fa; intro fa hf
        refine sqgF (act := (((!((decide (((ranyP d nm).2.2.2) ≠ (0 : Int))) && ((decide (((funcP d nm t).2) ≠ ((ranyP d nm).2.2.2))) || (decide (((funcP d nm (ranyP d nm).2.2.1).2) ≠ ((ranyP d nm).2.2.2)))))) && (decide (((ranyP d nm).2.2.2) = (0 : Int)))) && !(((decide (((funcP d nm (ranyP d nm).2.2.1).2) ≠ (0 : Int))) || (!((decide (((funcP d nm (ranyP d nm).2.2.1).1.1) = ((ranyP d nm).1))) && (decide (((funcP d nm (ranyP d nm).2.2.1).1.2.1) = ((ranyP d nm).2.1)))))) || (!((decide (((funcP d nm t).2) = (0 : Int))) == ((decide (t.1 = (ranyP d nm).2.2.1.1)) && (decide (t.2.1 = (ranyP d nm).2.2.1.2.1)))))))) (ag := ((!((decide (((ranyP d nm).2.2.2) ≠ (0 : Int))) && ((decide (((funcP d nm t).2) ≠ ((ranyP d nm).2.2.2))) || (decide (((funcP d nm (ranyP d nm).2.2.1).2) ≠ ((ranyP d nm).2.2.2)))))) && (decide (((ranyP d nm).2.2.2) = (0 : Int))))) (c := (((decide (((funcP d nm (ranyP d nm).2.2.1).2) ≠ (0 : Int))) || (!((decide (((funcP d nm (ranyP d nm).2.2.1).1.1) = ((ranyP d nm).1))) && (decide (((funcP d nm (ranyP d nm).2.2.1).1.2.1) = ((ranyP d nm).2.1)))))) || (!((decide (((funcP d nm t).2) = (0 : Int))) == ((decide (t.1 = (ranyP d nm).2.2.1.1)) && (decide (t.2.1 = (ranyP d nm).2.2.1.2.1))))))) (v := (.int .i64 ((funcP d nm t).2))) hf rfl rfl rfl (fun hact => (r_move rfl)) rfl rfl ?_; clear hf fa; intro fa hf
        refine sqgF (act := (((!((decide (((ranyP d nm).2.2.2) ≠ (0 : Int))) && ((decide (((funcP d nm t).2) ≠ ((ranyP d nm).2.2.2))) || (decide (((funcP d nm (ranyP d nm).2.2.1).2) ≠ ((ranyP d nm).2.2.2)))))) && (decide (((ranyP d nm).2.2.2) = (0 : Int)))) && !(((decide (((funcP d nm (ranyP d nm).2.2.1).2) ≠ (0 : Int))) || (!((decide (((funcP d nm (ranyP d nm).2.2.1).1.1) = ((ranyP d nm).1))) && (decide (((funcP d nm (ranyP d nm).2.2.1).1.2.1) = ((ranyP d nm).2.1)))))) || (!((decide (((funcP d nm t).2) = (0 : Int))) == ((decide (t.1 = (ranyP d nm).2.2.1.1)) && (decide (t.2.1 = (ranyP d nm).2.2.1.2.1)))))))) (ag := ((!((decide (((ranyP d nm).2.2.2) ≠ (0 : Int))) && ((decide (((funcP d nm t).2) ≠ ((ranyP d nm).2.2.2))) || (decide (((funcP d nm (ranyP d nm).2.2.1).2) ≠ ((ranyP d nm).2.2.2)))))) && (decide (((ranyP d nm).2.2.2) = (0 : Int))))) (c := (((decide (((funcP d nm (ranyP d nm).2.2.1).2) ≠ (0 : Int))) || (!((decide (((funcP d nm (ranyP d nm).2.2.1).1.1) = ((ranyP d nm).1))) && (decide (((funcP d nm (ranyP d nm).2.2.1).1.2.1) = ((ranyP d nm).2.1)))))) || (!((decide (((funcP d nm t).2) = (0 : Int))) == ((decide (t.1 = (ranyP d nm).2.2.1.1)) && (decide (t.2.1 = (ranyP d nm).2.2.1.2.1))))))) (v := (.bool (decide (((funcP d nm t).2) ≠ (0 : Int))))) hf rfl rfl rfl (fun hact => (r_ne (gb_ev hact rfl) rfl)) rfl rfl ?_; clear hf fa; intro fa hf
        refine sqgF (act := (((!((decide (((ranyP d nm).2.2.2) ≠ (0 : Int))) && ((decide (((funcP d nm t).2) ≠ ((ranyP d nm).2.2.2))) || (decide (((funcP d nm (ranyP d nm).2.2.1).2) ≠ ((ranyP d nm).2.2.2)))))) && (decide (((ranyP d nm).2.2.2) = (0 : Int)))) && !(((decide (((funcP d nm (ranyP d nm).2.2.1).2) ≠ (0 : Int))) || (!((decide (((funcP d nm (ranyP d nm).2.2.1).1.1) = ((ranyP d nm).1))) && (decide (((funcP d nm (ranyP d nm).2.2.1).1.2.1) = ((ranyP d nm).2.1)))))) || (!((decide (((funcP d nm t).2) = (0 : Int))) == ((decide (t.1 = (ranyP d nm).2.2.1.1)) && (decide (t.2.1 = (ranyP d nm).2.2.1.2.1)))))))) (ag := ((!((decide (((ranyP d nm).2.2.2) ≠ (0 : Int))) && ((decide (((funcP d nm t).2) ≠ ((ranyP d nm).2.2.2))) || (decide (((funcP d nm (ranyP d nm).2.2.1).2) ≠ ((ranyP d nm).2.2.2)))))) && (decide (((ranyP d nm).2.2.2) = (0 : Int))))) (c := (((decide (((funcP d nm (ranyP d nm).2.2.1).2) ≠ (0 : Int))) || (!((decide (((funcP d nm (ranyP d nm).2.2.1).1.1) = ((ranyP d nm).1))) && (decide (((funcP d nm (ranyP d nm).2.2.1).1.2.1) = ((ranyP d nm).2.1)))))) || (!((decide (((funcP d nm t).2) = (0 : Int))) == ((decide (t.1 = (ranyP d nm).2.2.1.1)) && (decide (t.2.1 = (ranyP d nm).2.2.1.2.1))))))) (v := (.bool (decide (((funcP d nm t).2) ≠ (0 : Int))))) hf rfl rfl rfl (fun hact => (r_move (gb_ev hact rfl))) rfl rfl ?_; clear hf fa; intro fa hf
        refine sqgT (act := ((((!((decide (((ranyP d nm).2.2.2) ≠ (0 : Int))) && ((decide (((funcP d nm t).2) ≠ ((ranyP d nm).2.2.2))) || (decide (((funcP d nm (ranyP d nm).2.2.1).2) ≠ ((ranyP d nm).2.2.2)))))) && (decide (((ranyP d nm).2.2.2) = (0 : Int)))) && !(((decide (((funcP d nm (ranyP d nm).2.2.1).2) ≠ (0 : Int))) || (!((decide (((funcP d nm (ranyP d nm).2.2.1).1.1) = ((ranyP d nm).1))) && (decide (((funcP d nm (ranyP d nm).2.2.1).1.2.1) = ((ranyP d nm).2.1)))))) || (!((decide (((funcP d nm t).2) = (0 : Int))) == ((decide (t.1 = (ranyP d nm).2.2.1.1)) && (decide (t.2.1 = (ranyP d nm).2.2.1.2.1))))))) && (decide (((funcP d nm t).2) ≠ (0 : Int))))) (ag := (((!((decide (((ranyP d nm).2.2.2) ≠ (0 : Int))) && ((decide (((funcP d nm t).2) ≠ ((ranyP d nm).2.2.2))) || (decide (((funcP d nm (ranyP d nm).2.2.1).2) ≠ ((ranyP d nm).2.2.2)))))) && (decide (((ranyP d nm).2.2.2) = (0 : Int)))) && !(((decide (((funcP d nm (ranyP d nm).2.2.1).2) ≠ (0 : Int))) || (!((decide (((funcP d nm (ranyP d nm).2.2.1).1.1) = ((ranyP d nm).1))) && (decide (((funcP d nm (ranyP d nm).2.2.1).1.2.1) = ((ranyP d nm).2.1)))))) || (!((decide (((funcP d nm t).2) = (0 : Int))) == ((decide (t.1 = (ranyP d nm).2.2.1.1)) && (decide (t.2.1 = (ranyP d nm).2.2.1.2.1)))))))) (c := (decide (((funcP d nm t).2) ≠ (0 : Int)))) (v := (.int .i64 ((funcP d nm t).2))) hf rfl rfl rfl (fun hact => (r_move rfl)) rfl rfl ?_; clear hf fa; intro fa hf
        refine sqgT (act := ((((!((decide (((ranyP d nm).2.2.2) ≠ (0 : Int))) && ((decide (((funcP d nm t).2) ≠ ((ranyP d nm).2.2.2))) || (decide (((funcP d nm (ranyP d nm).2.2.1).2) ≠ ((ranyP d nm).2.2.2)))))) && (decide (((ranyP d nm).2.2.2) = (0 : Int)))) && !(((decide (((funcP d nm (ranyP d nm).2.2.1).2) ≠ (0 : Int))) || (!((decide (((funcP d nm (ranyP d nm).2.2.1).1.1) = ((ranyP d nm).1))) && (decide (((funcP d nm (ranyP d nm).2.2.1).1.2.1) = ((ranyP d nm).2.1)))))) || (!((decide (((funcP d nm t).2) = (0 : Int))) == ((decide (t.1 = (ranyP d nm).2.2.1.1)) && (decide (t.2.1 = (ranyP d nm).2.2.1.2.1))))))) && (decide (((funcP d nm t).2) ≠ (0 : Int))))) (ag := (((!((decide (((ranyP d nm).2.2.2) ≠ (0 : Int))) && ((decide (((funcP d nm t).2) ≠ ((ranyP d nm).2.2.2))) || (decide (((funcP d nm (ranyP d nm).2.2.1).2) ≠ ((ranyP d nm).2.2.2)))))) && (decide (((ranyP d nm).2.2.2) = (0 : Int)))) && !(((decide (((funcP d nm (ranyP d nm).2.2.1).2) ≠ (0 : Int))) || (!((decide (((funcP d nm (ranyP d nm).2.2.1).1.1) = ((ranyP d nm).1))) && (decide (((funcP d nm (ranyP d nm).2.2.1).1.2.1) = ((ranyP d nm).2.1)))))) || (!((decide (((funcP d nm t).2) = (0 : Int))) == ((decide (t.1 = (ranyP d nm).2.2.1.1)) && (decide (t.2.1 = (ranyP d nm).2.2.1.2.1)))))))) (c := (decide (((funcP d nm t).2) ≠ (0 : Int)))) (v := (.bool (decide (((funcP d nm t).2) ≠ (7 : Int))))) hf rfl rfl rfl (fun hact => (r_ne (gb_ev hact rfl) rfl)) rfl rfl ?_; clear hf fa; intro fa hf
        refine sqgF (act := (((!((decide (((ranyP d nm).2.2.2) ≠ (0 : Int))) && ((decide (((funcP d nm t).2) ≠ ((ranyP d nm).2.2.2))) || (decide (((funcP d nm (ranyP d nm).2.2.1).2) ≠ ((ranyP d nm).2.2.2)))))) && (decide (((ranyP d nm).2.2.2) = (0 : Int)))) && !(((decide (((funcP d nm (ranyP d nm).2.2.1).2) ≠ (0 : Int))) || (!((decide (((funcP d nm (ranyP d nm).2.2.1).1.1) = ((ranyP d nm).1))) && (decide (((funcP d nm (ranyP d nm).2.2.1).1.2.1) = ((ranyP d nm).2.1)))))) || (!((decide (((funcP d nm t).2) = (0 : Int))) == ((decide (t.1 = (ranyP d nm).2.2.1.1)) && (decide (t.2.1 = (ranyP d nm).2.2.1.2.1)))))))) (ag := ((!((decide (((ranyP d nm).2.2.2) ≠ (0 : Int))) && ((decide (((funcP d nm t).2) ≠ ((ranyP d nm).2.2.2))) || (decide (((funcP d nm (ranyP d nm).2.2.1).2) ≠ ((ranyP d nm).2.2.2)))))) && (decide (((ranyP d nm).2.2.2) = (0 : Int))))) (c := (((decide (((funcP d nm (ranyP d nm).2.2.1).2) ≠ (0 : Int))) || (!((decide (((funcP d nm (ranyP d nm).2.2.1).1.1) = ((ranyP d nm).1))) && (decide (((funcP d nm (ranyP d nm).2.2.1).1.2.1) = ((ranyP d nm).2.1)))))) || (!((decide (((funcP d nm t).2) = (0 : Int))) == ((decide (t.1 = (ranyP d nm).2.2.1.1)) && (decide (t.2.1 = (ranyP d nm).2.2.1.2.1))))))) (v := (.bool ((decide (((funcP d nm t).2) ≠ (0 : Int))) && (decide (((funcP d nm t).2) ≠ (7 : Int)))))) hf rfl rfl rfl (fun hact => (r_pickA2 (q := (((!((decide (((ranyP d nm).2.2.2) ≠ (0 : Int))) && ((decide (((funcP d nm t).2) ≠ ((ranyP d nm).2.2.2))) || (decide (((funcP d nm (ranyP d nm).2.2.1).2) ≠ ((ranyP d nm).2.2.2)))))) && (decide (((ranyP d nm).2.2.2) = (0 : Int)))) && !(((decide (((funcP d nm (ranyP d nm).2.2.1).2) ≠ (0 : Int))) || (!((decide (((funcP d nm (ranyP d nm).2.2.1).1.1) = ((ranyP d nm).1))) && (decide (((funcP d nm (ranyP d nm).2.2.1).1.2.1) = ((ranyP d nm).2.1)))))) || (!((decide (((funcP d nm t).2) = (0 : Int))) == ((decide (t.1 = (ranyP d nm).2.2.1.1)) && (decide (t.2.1 = (ranyP d nm).2.2.1.2.1)))))))) (b := (decide (((funcP d nm t).2) ≠ (0 : Int)))) (e := (decide (((funcP d nm t).2) ≠ (7 : Int)))) hact rfl rfl rfl)) rfl rfl ?_; clear hf fa; intro fa hf
        refine sqgT (act := ((!((decide (((ranyP d nm).2.2.2) ≠ (0 : Int))) && ((decide (((funcP d nm t).2) ≠ ((ranyP d nm).2.2.2))) || (decide (((funcP d nm (ranyP d nm).2.2.1).2) ≠ ((ranyP d nm).2.2.2)))))) && (decide (((ranyP d nm).2.2.2) = (0 : Int))))) (ag := (!((decide (((ranyP d nm).2.2.2) ≠ (0 : Int))) && ((decide (((funcP d nm t).2) ≠ ((ranyP d nm).2.2.2))) || (decide (((funcP d nm (ranyP d nm).2.2.1).2) ≠ ((ranyP d nm).2.2.2))))))) (c := (decide (((ranyP d nm).2.2.2) = (0 : Int)))) (v := (.bool ((((decide (((funcP d nm (ranyP d nm).2.2.1).2) ≠ (0 : Int))) || (!((decide (((funcP d nm (ranyP d nm).2.2.1).1.1) = ((ranyP d nm).1))) && (decide (((funcP d nm (ranyP d nm).2.2.1).1.2.1) = ((ranyP d nm).2.1)))))) || (!((decide (((funcP d nm t).2) = (0 : Int))) == ((decide (t.1 = (ranyP d nm).2.2.1.1)) && (decide (t.2.1 = (ranyP d nm).2.2.1.2.1)))))) || ((decide (((funcP d nm t).2) ≠ (0 : Int))) && (decide (((funcP d nm t).2) ≠ (7 : Int))))))) hf rfl rfl rfl (fun hact => (r_pickO2 (q := ((!((decide (((ranyP d nm).2.2.2) ≠ (0 : Int))) && ((decide (((funcP d nm t).2) ≠ ((ranyP d nm).2.2.2))) || (decide (((funcP d nm (ranyP d nm).2.2.1).2) ≠ ((ranyP d nm).2.2.2)))))) && (decide (((ranyP d nm).2.2.2) = (0 : Int))))) (b := (((decide (((funcP d nm (ranyP d nm).2.2.1).2) ≠ (0 : Int))) || (!((decide (((funcP d nm (ranyP d nm).2.2.1).1.1) = ((ranyP d nm).1))) && (decide (((funcP d nm (ranyP d nm).2.2.1).1.2.1) = ((ranyP d nm).2.1)))))) || (!((decide (((funcP d nm t).2) = (0 : Int))) == ((decide (t.1 = (ranyP d nm).2.2.1.1)) && (decide (t.2.1 = (ranyP d nm).2.2.1.2.1))))))) (e := ((decide (((funcP d nm t).2) ≠ (0 : Int))) && (decide (((funcP d nm t).2) ≠ (7 : Int))))) hact rfl rfl rfl)) rfl rfl ?_; clear hf fa; intro fa hf
        refine sqgT (act := ((!((decide (((ranyP d nm).2.2.2) ≠ (0 : Int))) && ((decide (((funcP d nm t).2) ≠ ((ranyP d nm).2.2.2))) || (decide (((funcP d nm (ranyP d nm).2.2.1).2) ≠ ((ranyP d nm).2.2.2)))))) && (decide (((ranyP d nm).2.2.2) = (0 : Int))))) (ag := (!((decide (((ranyP d nm).2.2.2) ≠ (0 : Int))) && ((decide (((funcP d nm t).2) ≠ ((ranyP d nm).2.2.2))) || (decide (((funcP d nm (ranyP d nm).2.2.1).2) ≠ ((ranyP d nm).2.2.2))))))) (c := (decide (((ranyP d nm).2.2.2) = (0 : Int)))) (v := (.bool ((((decide (((funcP d nm (ranyP d nm).2.2.1).2) ≠ (0 : Int))) || (!((decide (((funcP d nm (ranyP d nm).2.2.1).1.1) = ((ranyP d nm).1))) && (decide (((funcP d nm (ranyP d nm).2.2.1).1.2.1) = ((ranyP d nm).2.1)))))) || (!((decide (((funcP d nm t).2) = (0 : Int))) == ((decide (t.1 = (ranyP d nm).2.2.1.1)) && (decide (t.2.1 = (ranyP d nm).2.2.1.2.1)))))) || ((decide (((funcP d nm t).2) ≠ (0 : Int))) && (decide (((funcP d nm t).2) ≠ (7 : Int))))))) hf rfl rfl rfl (fun hact => (r_move (gb_ev hact rfl))) rfl rfl ?_; clear hf fa; intro fa hf
        refine sqgF (act := (((!((decide (((ranyP d nm).2.2.2) ≠ (0 : Int))) && ((decide (((funcP d nm t).2) ≠ ((ranyP d nm).2.2.2))) || (decide (((funcP d nm (ranyP d nm).2.2.1).2) ≠ ((ranyP d nm).2.2.2)))))) && (decide (((ranyP d nm).2.2.2) = (0 : Int)))) && !((((decide (((funcP d nm (ranyP d nm).2.2.1).2) ≠ (0 : Int))) || (!((decide (((funcP d nm (ranyP d nm).2.2.1).1.1) = ((ranyP d nm).1))) && (decide (((funcP d nm (ranyP d nm).2.2.1).1.2.1) = ((ranyP d nm).2.1)))))) || (!((decide (((funcP d nm t).2) = (0 : Int))) == ((decide (t.1 = (ranyP d nm).2.2.1.1)) && (decide (t.2.1 = (ranyP d nm).2.2.1.2.1)))))) || ((decide (((funcP d nm t).2) ≠ (0 : Int))) && (decide (((funcP d nm t).2) ≠ (7 : Int))))))) (ag := ((!((decide (((ranyP d nm).2.2.2) ≠ (0 : Int))) && ((decide (((funcP d nm t).2) ≠ ((ranyP d nm).2.2.2))) || (decide (((funcP d nm (ranyP d nm).2.2.1).2) ≠ ((ranyP d nm).2.2.2)))))) && (decide (((ranyP d nm).2.2.2) = (0 : Int))))) (c := ((((decide (((funcP d nm (ranyP d nm).2.2.1).2) ≠ (0 : Int))) || (!((decide (((funcP d nm (ranyP d nm).2.2.1).1.1) = ((ranyP d nm).1))) && (decide (((funcP d nm (ranyP d nm).2.2.1).1.2.1) = ((ranyP d nm).2.1)))))) || (!((decide (((funcP d nm t).2) = (0 : Int))) == ((decide (t.1 = (ranyP d nm).2.2.1.1)) && (decide (t.2.1 = (ranyP d nm).2.2.1.2.1)))))) || ((decide (((funcP d nm t).2) ≠ (0 : Int))) && (decide (((funcP d nm t).2) ≠ (7 : Int)))))) (v := (.int .i64 ((funcP d nm t).2))) hf rfl rfl rfl (fun hact => (r_move rfl)) rfl rfl ?_; clear hf fa; intro fa hf
        refine sqgF (act := (((!((decide (((ranyP d nm).2.2.2) ≠ (0 : Int))) && ((decide (((funcP d nm t).2) ≠ ((ranyP d nm).2.2.2))) || (decide (((funcP d nm (ranyP d nm).2.2.1).2) ≠ ((ranyP d nm).2.2.2)))))) && (decide (((ranyP d nm).2.2.2) = (0 : Int)))) && !((((decide (((funcP d nm (ranyP d nm).2.2.1).2) ≠ (0 : Int))) || (!((decide (((funcP d nm (ranyP d nm).2.2.1).1.1) = ((ranyP d nm).1))) && (decide (((funcP d nm (ranyP d nm).2.2.1).1.2.1) = ((ranyP d nm).2.1)))))) || (!((decide (((funcP d nm t).2) = (0 : Int))) == ((decide (t.1 = (ranyP d nm).2.2.1.1)) && (decide (t.2.1 = (ranyP d nm).2.2.1.2.1)))))) || ((decide (((funcP d nm t).2) ≠ (0 : Int))) && (decide (((funcP d nm t).2) ≠ (7 : Int))))))) (ag := ((!((decide (((ranyP d nm).2.2.2) ≠ (0 : Int))) && ((decide (((funcP d nm t).2) ≠ ((ranyP d nm).2.2.2))) || (decide (((funcP d nm (ranyP d nm).2.2.1).2) ≠ ((ranyP d nm).2.2.2)))))) && (decide (((ranyP d nm).2.2.2) = (0 : Int))))) (c := ((((decide (((funcP d nm (ranyP d nm).2.2.1).2) ≠ (0 : Int))) || (!((decide (((funcP d nm (ranyP d nm).2.2.1).1.1) = ((ranyP d nm).1))) && (decide (((funcP d nm (ranyP d nm).2.2.1).1.2.1) = ((ranyP d nm).2.1)))))) || (!((decide (((funcP d nm t).2) = (0 : Int))) == ((decide (t.1 = (ranyP d nm).2.2.1.1)) && (decide (t.2.1 = (ranyP d nm).2.2.1.2.1)))))) || ((decide (((funcP d nm t).2) ≠ (0 : Int))) && (decide (((funcP d nm t).2) ≠ (7 : Int)))))) (v := (.bool (decide (((funcP d nm t).2) = (0 : Int))))) hf rfl rfl rfl (fun hact => (r_eq (gb_ev hact rfl) rfl)) rfl rfl ?_; clear hf fa; intro fa hf
        refine sqgF (act := (((!((decide (((ranyP d nm).2.2.2) ≠ (0 : Int))) && ((decide (((funcP d nm t).2) ≠ ((ranyP d nm).2.2.2))) || (decide (((funcP d nm (ranyP d nm).2.2.1).2) ≠ ((ranyP d nm).2.2.2)))))) && (decide (((ranyP d nm).2.2.2) = (0 : Int)))) && !((((decide (((funcP d nm (ranyP d nm).2.2.1).2) ≠ (0 : Int))) || (!((decide (((funcP d nm (ranyP d nm).2.2.1).1.1) = ((ranyP d nm).1))) && (decide (((funcP d nm (ranyP d nm).2.2.1).1.2.1) = ((ranyP d nm).2.1)))))) || (!((decide (((funcP d nm t).2) = (0 : Int))) == ((decide (t.1 = (ranyP d nm).2.2.1.1)) && (decide (t.2.1 = (ranyP d nm).2.2.1.2.1)))))) || ((decide (((funcP d nm t).2) ≠ (0 : Int))) && (decide (((funcP d nm t).2) ≠ (7 : Int))))))) (ag := ((!((decide (((ranyP d nm).2.2.2) ≠ (0 : Int))) && ((decide (((funcP d nm t).2) ≠ ((ranyP d nm).2.2.2))) || (decide (((funcP d nm (ranyP d nm).2.2.1).2) ≠ ((ranyP d nm).2.2.2)))))) && (decide (((ranyP d nm).2.2.2) = (0 : Int))))) (c := ((((decide (((funcP d nm (ranyP d nm).2.2.1).2) ≠ (0 : Int))) || (!((decide (((funcP d nm (ranyP d nm).2.2.1).1.1) = ((ranyP d nm).1))) && (decide (((funcP d nm (ranyP d nm).2.2.1).1.2.1) = ((ranyP d nm).2.1)))))) || (!((decide (((funcP d nm t).2) = (0 : Int))) == ((decide (t.1 = (ranyP d nm).2.2.1.1)) && (decide (t.2.1 = (ranyP d nm).2.2.1.2.1)))))) || ((decide (((funcP d nm t).2) ≠ (0 : Int))) && (decide (((funcP d nm t).2) ≠ (7 : Int)))))) (v := (.bool (decide (((funcP d nm t).2) = (0 : Int))))) hf rfl rfl rfl (fun hact => (r_move (gb_ev hact rfl))) rfl rfl ?_; clear hf fa; intro fa hf
        refine sqgT (act := ((((!((decide (((ranyP d nm).2.2.2) ≠ (0 : Int))) && ((decide (((funcP d nm t).2) ≠ ((ranyP d nm).2.2.2))) || (decide (((funcP d nm (ranyP d nm).2.2.1).2) ≠ ((ranyP d nm).2.2.2)))))) && (decide (((ranyP d nm).2.2.2) = (0 : Int)))) && !((((decide (((funcP d nm (ranyP d nm).2.2.1).2) ≠ (0 : Int))) || (!((decide (((funcP d nm (ranyP d nm).2.2.1).1.1) = ((ranyP d nm).1))) && (decide (((funcP d nm (ranyP d nm).2.2.1).1.2.1) = ((ranyP d nm).2.1)))))) || (!((decide (((funcP d nm t).2) = (0 : Int))) == ((decide (t.1 = (ranyP d nm).2.2.1.1)) && (decide (t.2.1 = (ranyP d nm).2.2.1.2.1)))))) || ((decide (((funcP d nm t).2) ≠ (0 : Int))) && (decide (((funcP d nm t).2) ≠ (7 : Int)))))) && (decide (((funcP d nm t).2) = (0 : Int))))) (ag := (((!((decide (((ranyP d nm).2.2.2) ≠ (0 : Int))) && ((decide (((funcP d nm t).2) ≠ ((ranyP d nm).2.2.2))) || (decide (((funcP d nm (ranyP d nm).2.2.1).2) ≠ ((ranyP d nm).2.2.2)))))) && (decide (((ranyP d nm).2.2.2) = (0 : Int)))) && !((((decide (((funcP d nm (ranyP d nm).2.2.1).2) ≠ (0 : Int))) || (!((decide (((funcP d nm (ranyP d nm).2.2.1).1.1) = ((ranyP d nm).1))) && (decide (((funcP d nm (ranyP d nm).2.2.1).1.2.1) = ((ranyP d nm).2.1)))))) || (!((decide (((funcP d nm t).2) = (0 : Int))) == ((decide (t.1 = (ranyP d nm).2.2.1.1)) && (decide (t.2.1 = (ranyP d nm).2.2.1.2.1)))))) || ((decide (((funcP d nm t).2) ≠ (0 : Int))) && (decide (((funcP d nm t).2) ≠ (7 : Int))))))) (c := (decide (((funcP d nm t).2) = (0 : Int)))) (v := (.agg #[(.int .i64 ((funcP d nm t).1.1)), (.int .u32 ((funcP d nm t).1.2.1))])) hf rfl rfl rfl (fun hact => (r_loadA (cs := [(.int .i64 ((funcP d nm t).1.1)), (.int .u32 ((funcP d nm t).1.2.1))]) rfl Try.underlying49 rfl (by kernel_rfl) (cellsAt_blk hk25))) rfl rfl ?_; clear hf fa; intro fa hf
        refine sqgT (act := ((((!((decide (((ranyP d nm).2.2.2) ≠ (0 : Int))) && ((decide (((funcP d nm t).2) ≠ ((ranyP d nm).2.2.2))) || (decide (((funcP d nm (ranyP d nm).2.2.1).2) ≠ ((ranyP d nm).2.2.2)))))) && (decide (((ranyP d nm).2.2.2) = (0 : Int)))) && !((((decide (((funcP d nm (ranyP d nm).2.2.1).2) ≠ (0 : Int))) || (!((decide (((funcP d nm (ranyP d nm).2.2.1).1.1) = ((ranyP d nm).1))) && (decide (((funcP d nm (ranyP d nm).2.2.1).1.2.1) = ((ranyP d nm).2.1)))))) || (!((decide (((funcP d nm t).2) = (0 : Int))) == ((decide (t.1 = (ranyP d nm).2.2.1.1)) && (decide (t.2.1 = (ranyP d nm).2.2.1.2.1)))))) || ((decide (((funcP d nm t).2) ≠ (0 : Int))) && (decide (((funcP d nm t).2) ≠ (7 : Int)))))) && (decide (((funcP d nm t).2) = (0 : Int))))) (ag := (((!((decide (((ranyP d nm).2.2.2) ≠ (0 : Int))) && ((decide (((funcP d nm t).2) ≠ ((ranyP d nm).2.2.2))) || (decide (((funcP d nm (ranyP d nm).2.2.1).2) ≠ ((ranyP d nm).2.2.2)))))) && (decide (((ranyP d nm).2.2.2) = (0 : Int)))) && !((((decide (((funcP d nm (ranyP d nm).2.2.1).2) ≠ (0 : Int))) || (!((decide (((funcP d nm (ranyP d nm).2.2.1).1.1) = ((ranyP d nm).1))) && (decide (((funcP d nm (ranyP d nm).2.2.1).1.2.1) = ((ranyP d nm).2.1)))))) || (!((decide (((funcP d nm t).2) = (0 : Int))) == ((decide (t.1 = (ranyP d nm).2.2.1.1)) && (decide (t.2.1 = (ranyP d nm).2.2.1.2.1)))))) || ((decide (((funcP d nm t).2) ≠ (0 : Int))) && (decide (((funcP d nm t).2) ≠ (7 : Int))))))) (c := (decide (((funcP d nm t).2) = (0 : Int)))) (v := (.agg #[(.int .i64 ((ranyP d nm).1)), (.int .u32 ((ranyP d nm).2.1))])) hf rfl rfl rfl (fun hact => (r_loadA (cs := [(.int .i64 ((ranyP d nm).1)), (.int .u32 ((ranyP d nm).2.1))]) rfl Try.underlying49 rfl (by kernel_rfl) (cellsAt_blk hk20))) rfl rfl ?_; clear hf fa; intro fa hf
        refine sqgT (act := ((((!((decide (((ranyP d nm).2.2.2) ≠ (0 : Int))) && ((decide (((funcP d nm t).2) ≠ ((ranyP d nm).2.2.2))) || (decide (((funcP d nm (ranyP d nm).2.2.1).2) ≠ ((ranyP d nm).2.2.2)))))) && (decide (((ranyP d nm).2.2.2) = (0 : Int)))) && !((((decide (((funcP d nm (ranyP d nm).2.2.1).2) ≠ (0 : Int))) || (!((decide (((funcP d nm (ranyP d nm).2.2.1).1.1) = ((ranyP d nm).1))) && (decide (((funcP d nm (ranyP d nm).2.2.1).1.2.1) = ((ranyP d nm).2.1)))))) || (!((decide (((funcP d nm t).2) = (0 : Int))) == ((decide (t.1 = (ranyP d nm).2.2.1.1)) && (decide (t.2.1 = (ranyP d nm).2.2.1.2.1)))))) || ((decide (((funcP d nm t).2) ≠ (0 : Int))) && (decide (((funcP d nm t).2) ≠ (7 : Int)))))) && (decide (((funcP d nm t).2) = (0 : Int))))) (ag := (((!((decide (((ranyP d nm).2.2.2) ≠ (0 : Int))) && ((decide (((funcP d nm t).2) ≠ ((ranyP d nm).2.2.2))) || (decide (((funcP d nm (ranyP d nm).2.2.1).2) ≠ ((ranyP d nm).2.2.2)))))) && (decide (((ranyP d nm).2.2.2) = (0 : Int)))) && !((((decide (((funcP d nm (ranyP d nm).2.2.1).2) ≠ (0 : Int))) || (!((decide (((funcP d nm (ranyP d nm).2.2.1).1.1) = ((ranyP d nm).1))) && (decide (((funcP d nm (ranyP d nm).2.2.1).1.2.1) = ((ranyP d nm).2.1)))))) || (!((decide (((funcP d nm t).2) = (0 : Int))) == ((decide (t.1 = (ranyP d nm).2.2.1.1)) && (decide (t.2.1 = (ranyP d nm).2.2.1.2.1)))))) || ((decide (((funcP d nm t).2) ≠ (0 : Int))) && (decide (((funcP d nm t).2) ≠ (7 : Int))))))) (c := (decide (((funcP d nm t).2) = (0 : Int)))) (v := (.bool (!((decide (((funcP d nm t).1.1) = ((ranyP d nm).1))) && (decide (((funcP d nm t).1.2.1) = ((ranyP d nm).2.1))))))) hf rfl rfl rfl (fun hact => (r_ane (k := 5) (gb_ev hact rfl) (gb_ev hact rfl) (by kernel_rfl) (eqt_struct (xs := #[(.int .i64 ((funcP d nm t).1.1)), (.int .u32 ((funcP d nm t).1.2.1))]) (ys := #[(.int .i64 ((ranyP d nm).1)), (.int .u32 ((ranyP d nm).2.1))]) Try.underlying49 (by kernel_rfl) (eqf_cons (by kernel_rfl) (fun _ => by kernel_rfl) (fun _ => by kernel_rfl) (eqt_int (kk := .i64) (a := ((funcP d nm t).1.1)) (b := ((ranyP d nm).1)) Try.underlying3) (eqf_one (by kernel_rfl) (fun _ => by kernel_rfl) (fun _ => by kernel_rfl) (eqt_int (kk := .u32) (a := ((funcP d nm t).1.2.1)) (b := ((ranyP d nm).2.1)) Try.underlying44)))) rfl)) rfl rfl ?_; clear hf fa; intro fa hf
        refine sqgF (act := (((!((decide (((ranyP d nm).2.2.2) ≠ (0 : Int))) && ((decide (((funcP d nm t).2) ≠ ((ranyP d nm).2.2.2))) || (decide (((funcP d nm (ranyP d nm).2.2.1).2) ≠ ((ranyP d nm).2.2.2)))))) && (decide (((ranyP d nm).2.2.2) = (0 : Int)))) && !((((decide (((funcP d nm (ranyP d nm).2.2.1).2) ≠ (0 : Int))) || (!((decide (((funcP d nm (ranyP d nm).2.2.1).1.1) = ((ranyP d nm).1))) && (decide (((funcP d nm (ranyP d nm).2.2.1).1.2.1) = ((ranyP d nm).2.1)))))) || (!((decide (((funcP d nm t).2) = (0 : Int))) == ((decide (t.1 = (ranyP d nm).2.2.1.1)) && (decide (t.2.1 = (ranyP d nm).2.2.1.2.1)))))) || ((decide (((funcP d nm t).2) ≠ (0 : Int))) && (decide (((funcP d nm t).2) ≠ (7 : Int))))))) (ag := ((!((decide (((ranyP d nm).2.2.2) ≠ (0 : Int))) && ((decide (((funcP d nm t).2) ≠ ((ranyP d nm).2.2.2))) || (decide (((funcP d nm (ranyP d nm).2.2.1).2) ≠ ((ranyP d nm).2.2.2)))))) && (decide (((ranyP d nm).2.2.2) = (0 : Int))))) (c := ((((decide (((funcP d nm (ranyP d nm).2.2.1).2) ≠ (0 : Int))) || (!((decide (((funcP d nm (ranyP d nm).2.2.1).1.1) = ((ranyP d nm).1))) && (decide (((funcP d nm (ranyP d nm).2.2.1).1.2.1) = ((ranyP d nm).2.1)))))) || (!((decide (((funcP d nm t).2) = (0 : Int))) == ((decide (t.1 = (ranyP d nm).2.2.1.1)) && (decide (t.2.1 = (ranyP d nm).2.2.1.2.1)))))) || ((decide (((funcP d nm t).2) ≠ (0 : Int))) && (decide (((funcP d nm t).2) ≠ (7 : Int)))))) (v := (.bool ((decide (((funcP d nm t).2) = (0 : Int))) && (!((decide (((funcP d nm t).1.1) = ((ranyP d nm).1))) && (decide (((funcP d nm t).1.2.1) = ((ranyP d nm).2.1)))))))) hf rfl rfl rfl (fun hact => (r_pickA2 (q := (((!((decide (((ranyP d nm).2.2.2) ≠ (0 : Int))) && ((decide (((funcP d nm t).2) ≠ ((ranyP d nm).2.2.2))) || (decide (((funcP d nm (ranyP d nm).2.2.1).2) ≠ ((ranyP d nm).2.2.2)))))) && (decide (((ranyP d nm).2.2.2) = (0 : Int)))) && !((((decide (((funcP d nm (ranyP d nm).2.2.1).2) ≠ (0 : Int))) || (!((decide (((funcP d nm (ranyP d nm).2.2.1).1.1) = ((ranyP d nm).1))) && (decide (((funcP d nm (ranyP d nm).2.2.1).1.2.1) = ((ranyP d nm).2.1)))))) || (!((decide (((funcP d nm t).2) = (0 : Int))) == ((decide (t.1 = (ranyP d nm).2.2.1.1)) && (decide (t.2.1 = (ranyP d nm).2.2.1.2.1)))))) || ((decide (((funcP d nm t).2) ≠ (0 : Int))) && (decide (((funcP d nm t).2) ≠ (7 : Int))))))) (b := (decide (((funcP d nm t).2) = (0 : Int)))) (e := (!((decide (((funcP d nm t).1.1) = ((ranyP d nm).1))) && (decide (((funcP d nm t).1.2.1) = ((ranyP d nm).2.1)))))) hact rfl rfl rfl)) rfl rfl ?_; clear hf fa; intro fa hf
        refine sqgT (act := ((!((decide (((ranyP d nm).2.2.2) ≠ (0 : Int))) && ((decide (((funcP d nm t).2) ≠ ((ranyP d nm).2.2.2))) || (decide (((funcP d nm (ranyP d nm).2.2.1).2) ≠ ((ranyP d nm).2.2.2)))))) && (decide (((ranyP d nm).2.2.2) = (0 : Int))))) (ag := (!((decide (((ranyP d nm).2.2.2) ≠ (0 : Int))) && ((decide (((funcP d nm t).2) ≠ ((ranyP d nm).2.2.2))) || (decide (((funcP d nm (ranyP d nm).2.2.1).2) ≠ ((ranyP d nm).2.2.2))))))) (c := (decide (((ranyP d nm).2.2.2) = (0 : Int)))) (v := (.bool (((((decide (((funcP d nm (ranyP d nm).2.2.1).2) ≠ (0 : Int))) || (!((decide (((funcP d nm (ranyP d nm).2.2.1).1.1) = ((ranyP d nm).1))) && (decide (((funcP d nm (ranyP d nm).2.2.1).1.2.1) = ((ranyP d nm).2.1)))))) || (!((decide (((funcP d nm t).2) = (0 : Int))) == ((decide (t.1 = (ranyP d nm).2.2.1.1)) && (decide (t.2.1 = (ranyP d nm).2.2.1.2.1)))))) || ((decide (((funcP d nm t).2) ≠ (0 : Int))) && (decide (((funcP d nm t).2) ≠ (7 : Int))))) || ((decide (((funcP d nm t).2) = (0 : Int))) && (!((decide (((funcP d nm t).1.1) = ((ranyP d nm).1))) && (decide (((funcP d nm t).1.2.1) = ((ranyP d nm).2.1))))))))) hf rfl rfl rfl (fun hact => (r_pickO2 (q := ((!((decide (((ranyP d nm).2.2.2) ≠ (0 : Int))) && ((decide (((funcP d nm t).2) ≠ ((ranyP d nm).2.2.2))) || (decide (((funcP d nm (ranyP d nm).2.2.1).2) ≠ ((ranyP d nm).2.2.2)))))) && (decide (((ranyP d nm).2.2.2) = (0 : Int))))) (b := ((((decide (((funcP d nm (ranyP d nm).2.2.1).2) ≠ (0 : Int))) || (!((decide (((funcP d nm (ranyP d nm).2.2.1).1.1) = ((ranyP d nm).1))) && (decide (((funcP d nm (ranyP d nm).2.2.1).1.2.1) = ((ranyP d nm).2.1)))))) || (!((decide (((funcP d nm t).2) = (0 : Int))) == ((decide (t.1 = (ranyP d nm).2.2.1.1)) && (decide (t.2.1 = (ranyP d nm).2.2.1.2.1)))))) || ((decide (((funcP d nm t).2) ≠ (0 : Int))) && (decide (((funcP d nm t).2) ≠ (7 : Int)))))) (e := ((decide (((funcP d nm t).2) = (0 : Int))) && (!((decide (((funcP d nm t).1.1) = ((ranyP d nm).1))) && (decide (((funcP d nm t).1.2.1) = ((ranyP d nm).2.1))))))) hact rfl rfl rfl)) rfl rfl ?_; clear hf fa; intro fa hf
        refine sqgF (act := (!((decide (((ranyP d nm).2.2.2) ≠ (0 : Int))) && ((decide (((funcP d nm t).2) ≠ ((ranyP d nm).2.2.2))) || (decide (((funcP d nm (ranyP d nm).2.2.1).2) ≠ ((ranyP d nm).2.2.2))))))) (ag := true) (c := ((decide (((ranyP d nm).2.2.2) ≠ (0 : Int))) && ((decide (((funcP d nm t).2) ≠ ((ranyP d nm).2.2.2))) || (decide (((funcP d nm (ranyP d nm).2.2.1).2) ≠ ((ranyP d nm).2.2.2)))))) (v := (.bool ((decide (((ranyP d nm).2.2.2) = (0 : Int))) && (((((decide (((funcP d nm (ranyP d nm).2.2.1).2) ≠ (0 : Int))) || (!((decide (((funcP d nm (ranyP d nm).2.2.1).1.1) = ((ranyP d nm).1))) && (decide (((funcP d nm (ranyP d nm).2.2.1).1.2.1) = ((ranyP d nm).2.1)))))) || (!((decide (((funcP d nm t).2) = (0 : Int))) == ((decide (t.1 = (ranyP d nm).2.2.1.1)) && (decide (t.2.1 = (ranyP d nm).2.2.1.2.1)))))) || ((decide (((funcP d nm t).2) ≠ (0 : Int))) && (decide (((funcP d nm t).2) ≠ (7 : Int))))) || ((decide (((funcP d nm t).2) = (0 : Int))) && (!((decide (((funcP d nm t).1.1) = ((ranyP d nm).1))) && (decide (((funcP d nm t).1.2.1) = ((ranyP d nm).2.1)))))))))) hf rfl rfl rfl (fun hact => (r_pickA2 (q := (!((decide (((ranyP d nm).2.2.2) ≠ (0 : Int))) && ((decide (((funcP d nm t).2) ≠ ((ranyP d nm).2.2.2))) || (decide (((funcP d nm (ranyP d nm).2.2.1).2) ≠ ((ranyP d nm).2.2.2))))))) (b := (decide (((ranyP d nm).2.2.2) = (0 : Int)))) (e := (((((decide (((funcP d nm (ranyP d nm).2.2.1).2) ≠ (0 : Int))) || (!((decide (((funcP d nm (ranyP d nm).2.2.1).1.1) = ((ranyP d nm).1))) && (decide (((funcP d nm (ranyP d nm).2.2.1).1.2.1) = ((ranyP d nm).2.1)))))) || (!((decide (((funcP d nm t).2) = (0 : Int))) == ((decide (t.1 = (ranyP d nm).2.2.1.1)) && (decide (t.2.1 = (ranyP d nm).2.2.1.2.1)))))) || ((decide (((funcP d nm t).2) ≠ (0 : Int))) && (decide (((funcP d nm t).2) ≠ (7 : Int))))) || ((decide (((funcP d nm t).2) = (0 : Int))) && (!((decide (((funcP d nm t).1.1) = ((ranyP d nm).1))) && (decide (((funcP d nm t).1.2.1) = ((ranyP d nm).2.1)))))))) hact rfl rfl rfl)) rfl rfl ?_; clear hf fa; intro fa hf
        refine sqv hf (r_pickO (b := ((decide (((ranyP d nm).2.2.2) ≠ (0 : Int))) && ((decide (((funcP d nm t).2) ≠ ((ranyP d nm).2.2.2))) || (decide (((funcP d nm (ranyP d nm).2.2.1).2) ≠ ((ranyP d nm).2.2.2)))))) (e := ((decide (((ranyP d nm).2.2.2) = (0 : Int))) && (((((decide (((funcP d nm (ranyP d nm).2.2.1).2) ≠ (0 : Int))) || (!((decide (((funcP d nm (ranyP d nm).2.2.1).1.1) = ((ranyP d nm).1))) && (decide (((funcP d nm (ranyP d nm).2.2.1).1.2.1) = ((ranyP d nm).2.1)))))) || (!((decide (((funcP d nm t).2) = (0 : Int))) == ((decide (t.1 = (ranyP d nm).2.2.1.1)) && (decide (t.2.1 = (ranyP d nm).2.2.1.2.1)))))) || ((decide (((funcP d nm t).2) ≠ (0 : Int))) && (decide (((funcP d nm t).2) ≠ (7 : Int))))) || ((decide (((funcP d nm t).2) = (0 : Int))) && (!((decide (((funcP d nm t).1.1) = ((ranyP d nm).1))) && (decide (((funcP d nm t).1.2.1) = ((ranyP d nm).2.1))))))))) rfl rfl rfl) rfl rfl rfl ?_; clear hf fa; intro fa hf
        apply wpList_nil
        (try simp only [Exit.then, Exit.inBlock, ↓reduceIte, Nat.reduceEqDiff])
        refine hK33 _ _ ?_
        refine wp_cond_false ((hf.ev rfl).trans (congrArg Value.bool (show (((decide (((ranyP d nm).2.2.2) ≠ (0 : Int))) && ((decide (((funcP d nm t).2) ≠ ((ranyP d nm).2.2.2))) || (decide (((funcP d nm (ranyP d nm).2.2.1).2) ≠ ((ranyP d nm).2.2.2))))) || ((decide (((ranyP d nm).2.2.2) = (0 : Int))) && (((((decide (((funcP d nm (ranyP d nm).2.2.1).2) ≠ (0 : Int))) || (!((decide (((funcP d nm (ranyP d nm).2.2.1).1.1) = ((ranyP d nm).1))) && (decide (((funcP d nm (ranyP d nm).2.2.1).1.2.1) = ((ranyP d nm).2.1)))))) || (!((decide (((funcP d nm t).2) = (0 : Int))) == ((decide (t.1 = (ranyP d nm).2.2.1.1)) && (decide (t.2.1 = (ranyP d nm).2.2.1.2.1)))))) || ((decide (((funcP d nm t).2) ≠ (0 : Int))) && (decide (((funcP d nm t).2) ≠ (7 : Int))))) || ((decide (((funcP d nm t).2) = (0 : Int))) && (!((decide (((funcP d nm t).1.1) = ((ranyP d nm).1))) && (decide (((funcP d nm t).1.2.1) = ((ranyP d nm).2.1))))))))) = false from (by
          unfold funcP
          by_cases h0 : (ranyP d nm).2.2.2 = 0
          · rw [h0]
            by_cases h1 : (ranyP d nm).2.2.1.1 = t.1
            · by_cases h2 : (ranyP d nm).2.2.1.2.1 = t.2.1
              · simp [h1, h2]
              · have h3 : ¬ t.2.1 = (ranyP d nm).2.2.1.2.1 := fun e => h2 e.symm
                simp [h1, h2, h3]
            · have h3 : ¬ t.1 = (ranyP d nm).2.2.1.1 := fun e => h1 e.symm
              simp [h1, h3]
          · simp [h0])))) ?_
        refine wp_skip ?_
        (try simp only [Exit.then, Exit.inBlock, ↓reduceIte, Nat.reduceEqDiff])
        refine hK32 _ _ ?_
        refine wp_seq_k (fun K34 hK34 => ?_)
        refine wp_region_lit ?_
        refine sqv hf (r_move rfl) rfl rfl rfl ?_; clear hf fa; intro fa hf
        refine sqv hf (r_move rfl) rfl rfl rfl ?_; clear hf fa; intro fa hf
        refine sqdt hf (d_callB (v := (.tuple #[(.agg #[(.int .i64 ((rdataP d nm).1)), (.int .u32 ((rdataP d nm).2.1))]), (.int .i64 ((rdataP d nm).2.2))])) (vs := [(.slice ua ul.length uc), (.string nm)]) rfl Try.func54 (by kernel_rfl) (by kernel_rfl) (by have h := data_any ul nm _ ua ul.length uc (Row.rd (by intros; rfl) hr1) rfl (by omega) (fun u hu => hUM _ hb u hu); rw [data_eq nm hum] at h; exact h)) rfl rfl rfl ?_; clear hf fa; rintro fa _ w46 ⟨rfl, he33⟩ hf
        replace hk1 := blk_ext hk1 he33
        replace hk17 := blk_ext hk17 he33
        replace hk20 := blk_ext hk20 he33
        replace hk21 := blk_ext hk21 he33
        replace hk23 := blk_ext hk23 he33
        replace hk25 := blk_ext hk25 he33
        replace hk27 := blk_ext hk27 he33
        replace hr1 := Row.ext hr1 he33
        replace hb := hb.trans (Below.mono he33 hb.size)
        refine sqv hf (r_move rfl) rfl rfl rfl ?_; clear hf fa; intro fa hf
        refine sqv hf (r_extract rfl (i := 0) rfl) rfl rfl rfl ?_; clear hf fa; intro fa hf
        refine sqv hf (r_extract rfl (i := 1) rfl) rfl rfl rfl ?_; clear hf fa; intro fa hf
        refine sqdt hf (d_alloc (z := (.agg #[(.int .i64 (0 : Int)), (.int .u32 (0 : Int))])) (cs := #[(.int .i64 (0 : Int)), (.int .u32 (0 : Int))]) (by kernel_rfl) rfl) rfl rfl rfl ?_; clear hf fa; rintro fa _ w47 ⟨b15, rfl, hle15, hk28, he34⟩ hf
        have hBb15 : w.heap.size ≤ b15 := Nat.le_trans hb.size hle15
        have : b1 < b15 := Nat.lt_of_lt_of_le (blk_lt hk1) hle15
        have : b9 < b15 := Nat.lt_of_lt_of_le (blk_lt hk17) hle15
        have : b10 < b15 := Nat.lt_of_lt_of_le (blk_lt hk20) hle15
        have : b11 < b15 := Nat.lt_of_lt_of_le (blk_lt hk21) hle15
        have : b12 < b15 := Nat.lt_of_lt_of_le (blk_lt hk23) hle15
        have : b13 < b15 := Nat.lt_of_lt_of_le (blk_lt hk25) hle15
        have : b14 < b15 := Nat.lt_of_lt_of_le (blk_lt hk27) hle15
        replace hk1 := blk_ext hk1 he34
        replace hk17 := blk_ext hk17 he34
        replace hk20 := blk_ext hk20 he34
        replace hk21 := blk_ext hk21 he34
        replace hk23 := blk_ext hk23 he34
        replace hk25 := blk_ext hk25 he34
        replace hk27 := blk_ext hk27 he34
        replace hr1 := Row.ext hr1 he34
        replace hb := hb.trans (Below.mono he34 hb.size)
        refine sqn hf (d_storeK (T := 49) (v := (.agg #[(.int .i64 ((rdataP d nm).1)), (.int .u32 ((rdataP d nm).2.1))])) (cs := #[(.int .i64 (0 : Int)), (.int .u32 (0 : Int))]) (cs' := #[(.int .i64 ((rdataP d nm).1)), (.int .u32 ((rdataP d nm).2.1))]) rfl rfl (by kernel_rfl) (by kernel_rfl) hk28 (by kernel_rfl) (by kernel_rfl)) rfl rfl ?_; clear hf fa; rintro fa _ w48 ⟨hk29, hg14⟩ hf
        replace hk1 := blk_grown hk1 hg14 (by omega)
        replace hk17 := blk_grown hk17 hg14 (by omega)
        replace hk20 := blk_grown hk20 hg14 (by omega)
        replace hk21 := blk_grown hk21 hg14 (by omega)
        replace hk23 := blk_grown hk23 hg14 (by omega)
        replace hk25 := blk_grown hk25 hg14 (by omega)
        replace hk27 := blk_grown hk27 hg14 (by omega)
        replace hr1 := Row.grown hr1 hg14 (Row.ne_type hr1 hk28 rfl)
        replace hb := hb.trans (grown_below hg14 hb.size hBb15)
        refine sqv hf (r_assign rfl) rfl rfl rfl ?_; clear hf fa; intro fa hf
        apply wpList_nil
        (try simp only [Exit.then, Exit.inBlock, ↓reduceIte, Nat.reduceEqDiff])
        refine hK34 _ _ ?_
        refine wp_seq_k (fun K35 hK35 => ?_)
        refine wp_region_lit ?_
        refine sqv hf (r_move rfl) rfl rfl rfl ?_; clear hf fa; intro fa hf
        refine sqv hf (r_move rfl) rfl rfl rfl ?_; clear hf fa; intro fa hf
        refine sqdt hf (d_callB (vs := [(.slice d.at' d.len d.cap), (.string nm)]) rfl Try.func55 (by kernel_rfl) (by kernel_rfl) (rdata_any d nm _ ⟨g.1, fSl_kept g.2 hb⟩ hU.2.2.2)) rfl rfl rfl ?_; clear hf fa; rintro fa _ w49 ⟨rfl, he35⟩ hf
        replace hk1 := blk_ext hk1 he35
        replace hk17 := blk_ext hk17 he35
        replace hk20 := blk_ext hk20 he35
        replace hk21 := blk_ext hk21 he35
        replace hk23 := blk_ext hk23 he35
        replace hk25 := blk_ext hk25 he35
        replace hk27 := blk_ext hk27 he35
        replace hk29 := blk_ext hk29 he35
        replace hr1 := Row.ext hr1 he35
        replace hb := hb.trans (Below.mono he35 hb.size)
        refine sqv hf (r_move rfl) rfl rfl rfl ?_; clear hf fa; intro fa hf
        refine sqv hf (r_extract rfl (i := 0) rfl) rfl rfl rfl ?_; clear hf fa; intro fa hf
        refine sqv hf (r_extract rfl (i := 1) rfl) rfl rfl rfl ?_; clear hf fa; intro fa hf
        refine sqv hf (r_extract rfl (i := 2) rfl) rfl rfl rfl ?_; clear hf fa; intro fa hf
        refine sqv hf (r_assign rfl) rfl rfl rfl ?_; clear hf fa; intro fa hf
        refine sqv hf (r_assign rfl) rfl rfl rfl ?_; clear hf fa; intro fa hf
        refine sqv hf (r_assign rfl) rfl rfl rfl ?_; clear hf fa; intro fa hf
        apply wpList_nil
        (try simp only [Exit.then, Exit.inBlock, ↓reduceIte, Nat.reduceEqDiff])
        refine hK35 _ _ ?_
        refine wp_seq_k (fun K36 hK36 => ?_)
        refine wp_region_lit ?_
        refine sqv hf (r_move rfl) rfl rfl rfl ?_; clear hf fa; intro fa hf
        refine sqv hf (r_move rfl) rfl rfl rfl ?_; clear hf fa; intro fa hf
        refine sqv hf (Runs.veq (r_eq rfl rfl) (congrArg Value.bool (show _ = true from (by simp)))) rfl rfl rfl ?_; clear hf fa; intro fa hf
        refine sqv hf (r_move rfl) rfl rfl rfl ?_; clear hf fa; intro fa hf
        refine sqgd (act := true) (g := 3) (want := true) (ag := true) (c := true) hf (by rfl) (by rfl) rfl (fun _ =>  Runs.does (R := fun vq wq => vq = (.agg #[(.int .i64 ((rdataP d nm).1)), (.int .u32 ((rdataP d nm).2.1))]) ∧ w49 = wq) (r_loadA (cs := [(.int .i64 ((rdataP d nm).1)), (.int .u32 ((rdataP d nm).2.1))]) rfl Try.underlying49 rfl (by kernel_rfl) (cellsAt_blk hk29)) ⟨rfl, rfl⟩) (fun h => by cases h) rfl ?_; clear hf fa; rintro fa _ _ ⟨rfl, rfl⟩ hf
        change Fr _ _ ((205, (.agg #[(.int .i64 ((rdataP d nm).1)), (.int .u32 ((rdataP d nm).2.1))])) :: _) at hf
        refine sqgd (act := true) (g := 3) (want := true) (ag := true) (c := true) hf (by rfl) (by rfl) rfl (fun _ =>  Runs.does (R := fun vq wq => vq = (.int .i64 ((rdataP d nm).1)) ∧ w49 = wq) (r_move rfl) ⟨rfl, rfl⟩) (fun h => by cases h) rfl ?_; clear hf fa; rintro fa _ _ ⟨rfl, rfl⟩ hf
        change Fr _ _ ((206, (.int .i64 ((rdataP d nm).1))) :: _) at hf
        refine sqgd (act := true) (g := 3) (want := true) (ag := true) (c := true) hf (by rfl) (by rfl) rfl (fun _ =>  Runs.does (R := fun vq wq => vq = (.int .u32 ((rdataP d nm).2.1)) ∧ w49 = wq) (r_move rfl) ⟨rfl, rfl⟩) (fun h => by cases h) rfl ?_; clear hf fa; rintro fa _ _ ⟨rfl, rfl⟩ hf
        change Fr _ _ ((207, (.int .u32 ((rdataP d nm).2.1))) :: _) at hf
        refine sqgd (act := true) (g := 3) (want := true) (ag := true) (c := true) hf (by rfl) (by rfl) rfl (fun _ =>  Runs.does (R := fun vq wq => vq = (.agg #[(.int .i64 ((rdataP d nm).1)), (.int .u32 ((rdataP d nm).2.1))]) ∧ w49 = wq) (r_build (vs := [(0, (.int .i64 ((rdataP d nm).1))), (1, (.int .u32 ((rdataP d nm).2.1)))]) (cs := #[(.int .i64 ((rdataP d nm).1)), (.int .u32 ((rdataP d nm).2.1))]) rfl (fun _ => by kernel_rfl)) ⟨rfl, rfl⟩) (fun h => by cases h) rfl ?_; clear hf fa; rintro fa _ _ ⟨rfl, rfl⟩ hf
        change Fr _ _ ((208, (.agg #[(.int .i64 ((rdataP d nm).1)), (.int .u32 ((rdataP d nm).2.1))])) :: _) at hf
        refine sqgd (act := true) (g := 3) (want := true) (ag := true) (c := true) hf (by rfl) (by rfl) rfl (fun _ =>  Runs.does (R := fun vq wq => vq = (.bool true) ∧ w49 = wq) (Runs.veq (r_aeq (k := 5) rfl rfl (by kernel_rfl) (eqt_struct (xs := #[(.int .i64 ((rdataP d nm).1)), (.int .u32 ((rdataP d nm).2.1))]) (ys := #[(.int .i64 ((rdataP d nm).1)), (.int .u32 ((rdataP d nm).2.1))]) Try.underlying49 (by kernel_rfl) (eqf_cons (by kernel_rfl) (fun _ => by kernel_rfl) (fun _ => by kernel_rfl) (eqt_int (kk := .i64) (a := ((rdataP d nm).1)) (b := ((rdataP d nm).1)) Try.underlying3) (eqf_one (by kernel_rfl) (fun _ => by kernel_rfl) (fun _ => by kernel_rfl) (eqt_int (kk := .u32) (a := ((rdataP d nm).2.1)) (b := ((rdataP d nm).2.1)) Try.underlying44)))) rfl) (congrArg Value.bool (show _ = true from (by simp)))) ⟨rfl, rfl⟩) (fun h => by cases h) rfl ?_; clear hf fa; rintro fa _ _ ⟨rfl, rfl⟩ hf
        change Fr _ _ ((209, (.bool true)) :: _) at hf
        refine sqv hf (r_pick (b := true) rfl rfl rfl rfl) rfl rfl rfl ?_; clear hf fa; intro fa hf
        refine sqv hf (r_assign rfl) rfl rfl rfl ?_; clear hf fa; intro fa hf
        apply wpList_nil
        (try simp only [Exit.then, Exit.inBlock, ↓reduceIte, Nat.reduceEqDiff])
        refine hK36 _ _ ?_
        refine wp_ret ?_
        (try simp only [Exit.then, Exit.inBlock])
        refine ret1 hf rfl rfl ?_
        exact ⟨rfl, hb⟩
end Go.Proofs.Ytahgkfekggkjnaa
