/- What is proved here: the law DylinkPuts is true. -/
import Derived.Test.YtcmdajkkdognfaaDzD
import Derived.Test.YtcmdajkkdognfaaDyB
namespace Go.Proofs.Ytcmdajkkdognfaa
open Go.RowKit
set_option linter.unusedVariables false
set_option linter.unusedSimpArgs false
set_option maxHeartbeats 1000000 in
set_option maxRecDepth 100000 in
theorem c16x_any (tb : Nat) (bs base p : Nat) (a : Option Addr) (c : Nat) (l : List Int) (w : World) (hks : w.heap[bs]? = some (.cells #[(.slice a l.length c), (.int .i64 ((p : Nat) : Int))] 161 (0, 0))) (hr0 : Row 1 (vInt .u8) 5 base w (.slice a l.length c) l) (hp : p ≤ l.length) (hbt : bs < tb) (htb : w.heap[tb]? = some (.cells #[.pointer (some ⟨bs, 0, none⟩)] 87 (0, 0))) (hb6 : ∀ y ∈ l, 0 ≤ y ∧ y < 256) (hlm : l.length ≤ 1000000) (has : Bool) (a1 a2 a3 a4 : Int) (L : List ByteArray) (h1 : 0 ≤ a1 ∧ a1 < 4294967296) (h2 : 0 ≤ a2 ∧ a2 < 4294967296) (h3 : 0 ≤ a3 ∧ a3 < 4294967296) (h4 : 0 ≤ a4 ∧ a4 < 4294967296) (hfw : L.length ≤ 30 ∧ ∀ s ∈ L, s.size ≤ 300) (hA : At l p (encD a1 a2 a3 a4 L)) (hpe : p + (encD a1 a2 a3 a4 L).length = l.length) (hdr : drightP true a1 a2 a3 a4 L = 0) (hgd : ∀ s ∈ L, Ut.checkF s = 0) (hhas : has = true) : Calls Try.prog 92 #[(.pointer (some ⟨tb, 0, none⟩))] w fun e w' => ∃ (va : Option Addr) (vc : Nat), e = .returned (.agg #[(.bool has), (.int .u32 a1), (.int .u32 a2), (.int .u32 a3), (.int .u32 a4), (.slice va L.length vc)]) ∧ Row 1 vStr 9 w.heap.size w' (.slice va L.length vc) L ∧ Wrote w bs #[(.slice a l.length c), (.int .i64 (((p + (encD a1 a2 a3 a4 L).length) : Nat) : Int))] 161 w' := by
  have hcap := Row.caps hr0; have hR0lt := fun q hq => (Row.lt hr0 q hq).2; have hle := hA.le
  refine sx_enter (L := [(0, (.pointer (some ⟨tb, 0, none⟩)))]) Try.func92 rfl rfl rfl rfl (fun fa hf => ?_)
  have hb : KB bs w.heap.size w w := KB.refl _ _ _
  refine wp_seq_k (fun K1 hK1 => ?_)
  refine wp_region_lit ?_
  refine sqdt hf (d_alloc (z := (.agg #[(.bool false), (.int .u32 (0 : Int)), (.int .u32 (0 : Int)), (.int .u32 (0 : Int)), (.int .u32 (0 : Int)), (.slice none 0 0)])) (cs := #[(.bool false), (.int .u32 (0 : Int)), (.int .u32 (0 : Int)), (.int .u32 (0 : Int)), (.int .u32 (0 : Int)), (.slice none 0 0)]) (by kernel_rfl) rfl) rfl rfl rfl ?_; clear hf fa; rintro fa _ w1 ⟨b1, rfl, hle1, hk1, he1⟩ hf
  have hBb1 : w.heap.size ≤ b1 := Nat.le_trans hb.size hle1
  have : bs < b1 := Nat.lt_of_lt_of_le (blk_lt hks) hle1
  have : tb < b1 := Nat.lt_of_lt_of_le (blk_lt htb) hle1
  replace hks := blk_ext hks he1
  replace htb := blk_ext htb he1
  replace hr0 := Row.ext hr0 he1
  replace hb := hb.trans (Below.mono he1 hb.size)
  apply wpList_nil
  (try simp only [Exit.then, Exit.inBlock, ↓reduceIte, Nat.reduceEqDiff])
  refine hK1 _ _ ?_
  refine wp_seq_k (fun K2 hK2 => ?_)
  refine wp_region_lit ?_
  refine sqv hf (r_load (v := (.pointer (some ⟨bs, 0, none⟩))) rfl Try.underlying87 rfl (cell_blk htb rfl)) rfl rfl rfl ?_; clear hf fa; intro fa hf
  refine sqdt hf (d_callX (vs := [(.pointer (some ⟨bs, 0, none⟩))]) rfl Try.func93 (by kernel_rfl) (by kernel_rfl) (dread_any bs base p a c l _ hks hr0 (by omega) hb6 hlm a1 a2 a3 a4 L h1 h2 h3 h4 hfw hA hpe hdr hgd)) rfl rfl rfl ?_; clear hf fa; rintro fa _ w2 ⟨va, vc, rfl, hr1, hk2, hg1⟩ hf
  replace hr1 := Row.rebase hr1 hb.size
  replace htb := blk_grown htb hg1 (by omega)
  replace hk1 := blk_grown hk1 hg1 (by omega)
  replace hr0 := Row.grown hr0 hg1 (Row.ne_type hr0 hks rfl)
  replace hb := hb.wrote hg1 hb.size
  refine sqn hf (d_storeK (T := 37) (v := (.agg #[(.bool true), (.int .u32 a1), (.int .u32 a2), (.int .u32 a3), (.int .u32 a4), (.slice va L.length vc)])) (cs := #[(.bool false), (.int .u32 (0 : Int)), (.int .u32 (0 : Int)), (.int .u32 (0 : Int)), (.int .u32 (0 : Int)), (.slice none 0 0)]) (cs' := #[(.bool true), (.int .u32 a1), (.int .u32 a2), (.int .u32 a3), (.int .u32 a4), (.slice va L.length vc)]) rfl rfl (by kernel_rfl) (by kernel_rfl) hk1 (by kernel_rfl) (by kernel_rfl)) rfl rfl ?_; clear hf fa; rintro fa _ w3 ⟨hk3, hg2⟩ hf
  replace hk2 := blk_grown hk2 hg2 (by omega)
  replace htb := blk_grown htb hg2 (by omega)
  replace hr0 := Row.grown hr0 hg2 (Row.ne_type hr0 hk1 rfl)
  replace hr1 := Row.grown hr1 hg2 (Row.ne_type hr1 hk1 rfl)
  replace hb := hb.trans (grown_below hg2 hb.size hBb1)
  apply wpList_nil
  (try simp only [Exit.then, Exit.inBlock, ↓reduceIte, Nat.reduceEqDiff])
  refine hK2 _ _ ?_
  refine wp_ret ?_
  (try simp only [Exit.then, Exit.inBlock])
  refine retC hf rfl rfl hk3 Try.underlying37 rfl (by kernel_rfl) ?_
  subst hhas
  exact ⟨va, vc, rfl, hr1, hk2, hb.grown⟩

theorem dgood {a1 a2 a3 a4 : Int} {L : List ByteArray} (h : drightP true a1 a2 a3 a4 L = 0) : ∀ s ∈ L, Ut.checkF s = 0 := by
  unfold drightP at h
  simp only [Bool.not_true, cond_false] at h
  cases h1 : (decide ((20 : Int) < a2) || decide ((20 : Int) < a4))
  · rw [h1] at h
    simp only [cond_false] at h
    cases h2 : decide ((200 : Int) < ((L.length : Nat) : Int))
    · rw [h2] at h
      exact dup_check _ _ h
    · rw [h2] at h; cases h
  · rw [h1] at h; cases h

set_option maxHeartbeats 1000000 in
set_option maxRecDepth 100000 in
theorem dylinkPuts_any (has : Bool) (a1 a2 a3 a4 : Int) (a : Option Addr) (L : List ByteArray) (c : Nat) (w : World) (hl : RdS 1 vStr w a L) (hc : L.length ≤ 9223372036854775807) (hcp : L.length ≤ c) (ha1 : 0 ≤ a1 ∧ a1 < 4294967296) (ha2 : 0 ≤ a2 ∧ a2 < 4294967296) (ha3 : 0 ≤ a3 ∧ a3 < 4294967296) (ha4 : 0 ≤ a4 ∧ a4 < 4294967296) : Calls Try.prog 13 #[(.agg #[(.bool has), (.int .u32 a1), (.int .u32 a2), (.int .u32 a3), (.int .u32 a4), (.slice a L.length c)])] w fun e w' => e = .returned (.bool true) ∧ Below w.heap.size w w' := by
  refine sx_enter (L := [(0, (.agg #[(.bool has), (.int .u32 a1), (.int .u32 a2), (.int .u32 a3), (.int .u32 a4), (.slice a L.length c)]))]) Try.func13 rfl rfl rfl rfl (fun fa hf => ?_)
  have hb : Below w.heap.size w w := Below.refl _ _
  refine wp_seq_k (fun K1 hK1 => ?_)
  refine wp_region_lit ?_
  refine sqdt hf (d_box (cs := #[(.bool has), (.int .u32 a1), (.int .u32 a2), (.int .u32 a3), (.int .u32 a4), (.slice a L.length c)]) rfl rfl) rfl rfl rfl ?_; clear hf fa; rintro fa _ w1 ⟨b1, rfl, hle1, hk1, he1⟩ hf
  have hBb1 : w.heap.size ≤ b1 := Nat.le_trans hb.size hle1
  replace hb := hb.trans (Below.mono he1 hb.size)
  refine sqv hf (r_assign rfl) rfl rfl rfl ?_; clear hf fa; intro fa hf
  apply wpList_nil
  (try simp only [Exit.then, Exit.inBlock, ↓reduceIte, Nat.reduceEqDiff])
  refine hK1 _ _ ?_
  refine wp_seq_k (fun K2 hK2 => ?_)
  refine wp_seq_k (fun K3 hK3 => ?_)
  refine wp_region_lit ?_
  refine sqdt hf (d_callB (vs := []) rfl Try.func23 (by kernel_rfl) (by kernel_rfl) (awake16_any _)) rfl rfl rfl ?_; clear hf fa; rintro fa _ w2 ⟨rfl, he2⟩ hf
  replace hk1 := blk_ext hk1 he2
  replace hb := hb.trans (Below.mono he2 hb.size)
  refine sqv hf (Runs.veq (v' := (.bool false)) (r_not rfl) rfl) rfl rfl rfl ?_; clear hf fa; intro fa hf
  apply wpList_nil
  (try simp only [Exit.then, Exit.inBlock, ↓reduceIte, Nat.reduceEqDiff])
  refine hK3 _ _ ?_
  refine wp_cond_false (hf.ev rfl) ?_
  refine wp_skip ?_
  (try simp only [Exit.then, Exit.inBlock, ↓reduceIte, Nat.reduceEqDiff])
  refine hK2 _ _ ?_
  refine wp_seq_k (fun K4 hK4 => ?_)
  refine wp_seq_k (fun K5 hK5 => ?_)
  refine wp_region_lit ?_
  refine sqv hf (r_loadA (cs := [(.bool has), (.int .u32 a1), (.int .u32 a2), (.int .u32 a3), (.int .u32 a4), (.slice a L.length c)]) rfl Try.underlying37 rfl (by kernel_rfl) (cellsAt_blk hk1)) rfl rfl rfl ?_; clear hf fa; intro fa hf
  refine sqdt hf (d_callB (vs := [(.agg #[(.bool has), (.int .u32 a1), (.int .u32 a2), (.int .u32 a3), (.int .u32 a4), (.slice a L.length c)])]) rfl Try.func24 (by kernel_rfl) (by kernel_rfl) (few_any has a1 a2 a3 a4 a L c _ (RdS.ext hl hb) hc hcp)) rfl rfl rfl ?_; clear hf fa; rintro fa _ w3 ⟨rfl, he3⟩ hf
  replace hk1 := blk_ext hk1 he3
  replace hb := hb.trans (Below.mono he3 hb.size)
  refine sqv hf (r_not rfl) rfl rfl rfl ?_; clear hf fa; intro fa hf
  apply wpList_nil
  (try simp only [Exit.then, Exit.inBlock, ↓reduceIte, Nat.reduceEqDiff])
  refine hK5 _ _ ?_
  refine wp_cond_split (t := (!(fewP L))) (hf.ev rfl) (fun hqt13_1 => ?_) (fun hqt13_1 => ?_)
  · have hqt13_1b := hqt13_1
    try simp only [decide_eq_true_eq, Bool.and_eq_true, Bool.or_eq_true, Bool.not_eq_true', decide_eq_false_iff_not, ne_eq, Bool.not_eq_true] at hqt13_1
    refine wp_seq_k (fun K6 hK6 => ?_)
    refine wp_region_lit ?_
    refine sqv hf (r_assign rfl) rfl rfl rfl ?_; clear hf fa; intro fa hf
    apply wpList_nil
    (try simp only [Exit.then, Exit.inBlock, ↓reduceIte, Nat.reduceEqDiff])
    refine hK6 _ _ ?_
    refine wp_ret ?_
    (try simp only [Exit.then, Exit.inBlock])
    refine ret1 hf rfl rfl ?_
    exact ⟨rfl, hb⟩
  · have hqt13_1b := hqt13_1
    replace hqt13_1 := Bool.eq_false_iff.1 hqt13_1
    try simp only [ne_eq, decide_eq_true_eq, Bool.and_eq_true, Bool.or_eq_true, Bool.not_eq_true', decide_eq_false_iff_not] at hqt13_1
    refine wp_skip ?_
    (try simp only [Exit.then, Exit.inBlock, ↓reduceIte, Nat.reduceEqDiff])
    refine hK4 _ _ ?_
    refine wp_seq_k (fun K7 hK7 => ?_)
    have hfp : fewP L = true := by have h := hqt13_1b; simpa using h
    have hfw := few_iff.1 hfp
    have hL6 : ∀ s ∈ L, s.size ≤ 1000000 := fun s hs => by have := hfw.2 s hs; omega
    refine wp_region_lit ?_
    refine sqv hf (r_loadA (cs := [(.bool has), (.int .u32 a1), (.int .u32 a2), (.int .u32 a3), (.int .u32 a4), (.slice a L.length c)]) rfl Try.underlying37 rfl (by kernel_rfl) (cellsAt_blk hk1)) rfl rfl rfl ?_; clear hf fa; intro fa hf
    refine sqdt hf (d_callB (vs := [(.agg #[(.bool has), (.int .u32 a1), (.int .u32 a2), (.int .u32 a3), (.int .u32 a4), (.slice a L.length c)])]) rfl Try.func89 (by kernel_rfl) (by kernel_rfl) (rdright_any has a1 a2 a3 a4 a L c _ (RdS.ext hl hb) hc hcp hL6 ha1 ha2 ha3 ha4)) rfl rfl rfl ?_; clear hf fa; rintro fa _ w4 ⟨rfl, he4⟩ hf
    replace hk1 := blk_ext hk1 he4
    replace hb := hb.trans (Below.mono he4 hb.size)
    refine sqv hf (r_assign rfl) rfl rfl rfl ?_; clear hf fa; intro fa hf
    apply wpList_nil
    (try simp only [Exit.then, Exit.inBlock, ↓reduceIte, Nat.reduceEqDiff])
    refine hK7 _ _ ?_
    refine wp_seq_k (fun K8 hK8 => ?_)
    refine wp_region_lit ?_
    refine sqv hf (r_loadA (cs := [(.bool has), (.int .u32 a1), (.int .u32 a2), (.int .u32 a3), (.int .u32 a4), (.slice a L.length c)]) rfl Try.underlying37 rfl (by kernel_rfl) (cellsAt_blk hk1)) rfl rfl rfl ?_; clear hf fa; intro fa hf
    refine sqdt hf (d_callX (vs := [(.agg #[(.bool has), (.int .u32 a1), (.int .u32 a2), (.int .u32 a3), (.int .u32 a4), (.slice a L.length c)])]) rfl Try.func90 (by kernel_rfl) (by kernel_rfl) (dput_any has a1 a2 a3 a4 a L c _ (RdS.ext hl hb) hc hcp ha1 ha2 ha3 ha4 hfw)) rfl rfl rfl ?_; clear hf fa; rintro fa _ w5 ⟨pa1, pc1, rfl, hr1, he5⟩ hf
    replace hr1 := Row.rebase hr1 hb.size
    replace hk1 := blk_ext hk1 he5
    replace hb := hb.trans (Below.mono he5 hb.size)
    have hchr1 := Row.caps hr1
    refine sqv hf (r_move rfl) rfl rfl rfl ?_; clear hf fa; intro fa hf
    refine sqv hf (r_extract rfl (i := 0) rfl) rfl rfl rfl ?_; clear hf fa; intro fa hf
    refine sqv hf (r_extract rfl (i := 1) rfl) rfl rfl rfl ?_; clear hf fa; intro fa hf
    refine sqv hf (r_assign rfl) rfl rfl rfl ?_; clear hf fa; intro fa hf
    refine sqv hf (r_assign rfl) rfl rfl rfl ?_; clear hf fa; intro fa hf
    apply wpList_nil
    (try simp only [Exit.then, Exit.inBlock, ↓reduceIte, Nat.reduceEqDiff])
    refine hK8 _ _ ?_
    refine wp_seq_k (fun K9 hK9 => ?_)
    refine wp_seq_k (fun K10 hK10 => ?_)
    refine wp_region_lit ?_
    refine sqv hf (r_loadA (cs := [(.bool has), (.int .u32 a1), (.int .u32 a2), (.int .u32 a3), (.int .u32 a4), (.slice a L.length c)]) rfl Try.underlying37 rfl (by kernel_rfl) (cellsAt_blk hk1)) rfl rfl rfl ?_; clear hf fa; intro fa hf
    refine sqdt hf (d_callB (vs := [(.agg #[(.bool has), (.int .u32 a1), (.int .u32 a2), (.int .u32 a3), (.int .u32 a4), (.slice a L.length c)])]) rfl Try.func25 (by kernel_rfl) (by kernel_rfl) (dright_any has a1 a2 a3 a4 a L c _ (RdS.ext hl hb) hc hcp hL6)) rfl rfl rfl ?_; clear hf fa; rintro fa _ w6 ⟨rfl, he6⟩ hf
    replace hk1 := blk_ext hk1 he6
    replace hr1 := Row.ext hr1 he6
    replace hb := hb.trans (Below.mono he6 hb.size)
    refine sqv hf (r_move rfl) rfl rfl rfl ?_; clear hf fa; intro fa hf
    refine sqv hf (r_ne rfl rfl) rfl rfl rfl ?_; clear hf fa; intro fa hf
    apply wpList_nil
    (try simp only [Exit.then, Exit.inBlock, ↓reduceIte, Nat.reduceEqDiff])
    refine hK10 _ _ ?_
    refine wp_cond_false ((hf.ev rfl).trans (congrArg Value.bool (show (decide (((drightP has a1 a2 a3 a4 L)) ≠ ((drightP has a1 a2 a3 a4 L)))) = false from (by simp)))) ?_
    refine wp_skip ?_
    (try simp only [Exit.then, Exit.inBlock, ↓reduceIte, Nat.reduceEqDiff])
    refine hK9 _ _ ?_
    refine wp_seq_k (fun K11 hK11 => ?_)
    refine wp_seq_k (fun K12 hK12 => ?_)
    refine wp_region_lit ?_
    refine sqv hf (r_move rfl) rfl rfl rfl ?_; clear hf fa; intro fa hf
    refine sqv hf (r_eq rfl rfl) rfl rfl rfl ?_; clear hf fa; intro fa hf
    refine sqv hf (r_move rfl) rfl rfl rfl ?_; clear hf fa; intro fa hf
    refine sqgT (act := (decide (((drightP has a1 a2 a3 a4 L)) = (0 : Int)))) (ag := true) (c := (decide (((drightP has a1 a2 a3 a4 L)) = (0 : Int)))) (v := (.pointer (some ⟨b1, 0, none⟩))) hf rfl rfl rfl (fun hact => (r_fa rfl Try.underlying37 (f := 0) (q := 0) rfl (by kernel_rfl) rfl)) rfl rfl ?_; clear hf fa; intro fa hf
    refine sqgT (act := (decide (((drightP has a1 a2 a3 a4 L)) = (0 : Int)))) (ag := true) (c := (decide (((drightP has a1 a2 a3 a4 L)) = (0 : Int)))) (v := (.bool has)) hf rfl rfl rfl (fun hact => (r_load (v := (.bool has)) (gb_ev hact rfl) Try.underlying4 rfl (cell_blk hk1 rfl))) rfl rfl ?_; clear hf fa; intro fa hf
    refine sqgT (act := (decide (((drightP has a1 a2 a3 a4 L)) = (0 : Int)))) (ag := true) (c := (decide (((drightP has a1 a2 a3 a4 L)) = (0 : Int)))) (v := (.bool (!has))) hf rfl rfl rfl (fun hact => (r_not (gb_ev hact rfl))) rfl rfl ?_; clear hf fa; intro fa hf
    refine sqv hf (r_pickA (b := (decide (((drightP has a1 a2 a3 a4 L)) = (0 : Int)))) (e := (!has)) rfl rfl rfl) rfl rfl rfl ?_; clear hf fa; intro fa hf
    apply wpList_nil
    (try simp only [Exit.then, Exit.inBlock, ↓reduceIte, Nat.reduceEqDiff])
    refine hK12 _ _ ?_
    refine wp_cond_split (t := ((decide (((drightP has a1 a2 a3 a4 L)) = (0 : Int))) && (!has))) (hf.ev rfl) (fun hqt31_1 => ?_) (fun hqt31_1 => ?_)
    · have hqt31_1b := hqt31_1
      try simp only [decide_eq_true_eq, Bool.and_eq_true, Bool.or_eq_true, Bool.not_eq_true', decide_eq_false_iff_not, ne_eq, Bool.not_eq_true] at hqt31_1
      refine wp_region_lit ?_
      refine sqv hf (r_assign rfl) rfl rfl rfl ?_; clear hf fa; intro fa hf
      apply wpList_nil
      (try simp only [Exit.then, Exit.inBlock, ↓reduceIte, Nat.reduceEqDiff])
      refine hK11 _ _ ?_
      refine wp_seq_k (fun K13 hK13 => ?_)
      refine wp_seq_k (fun K14 hK14 => ?_)
      refine wp_region_lit ?_
      refine sqv hf (r_move rfl) rfl rfl rfl ?_; clear hf fa; intro fa hf
      refine sqv hf (Runs.veq (r_ne rfl rfl) (congrArg Value.bool (show _ = true from rfl))) rfl rfl rfl ?_; clear hf fa; intro fa hf
      apply wpList_nil
      (try simp only [Exit.then, Exit.inBlock, ↓reduceIte, Nat.reduceEqDiff])
      refine hK14 _ _ ?_
      refine wp_cond_true (hf.ev rfl) ?_
      refine wp_seq_k (fun K15 hK15 => ?_)
      refine wp_region_lit ?_
      refine sqv hf (r_move rfl) rfl rfl rfl ?_; clear hf fa; intro fa hf
      refine sqv hf (r_lensl rfl Try.underlying47) rfl rfl rfl ?_; clear hf fa; intro fa hf
      refine sqv hf (r_eq rfl rfl) rfl rfl rfl ?_; clear hf fa; intro fa hf
      refine sqv hf (r_move rfl) rfl rfl rfl ?_; clear hf fa; intro fa hf
      refine sqgT (act := (decide ((((dputL has a1 a2 a3 a4 L).length : Nat) : Int) = (0 : Int)))) (ag := true) (c := (decide ((((dputL has a1 a2 a3 a4 L).length : Nat) : Int) = (0 : Int)))) (v := (.int .i64 ((dputE has a1 a2 a3 a4 L)))) hf rfl rfl rfl (fun hact => (r_move rfl)) rfl rfl ?_; clear hf fa; intro fa hf
      refine sqgT (act := (decide ((((dputL has a1 a2 a3 a4 L).length : Nat) : Int) = (0 : Int)))) (ag := true) (c := (decide ((((dputL has a1 a2 a3 a4 L).length : Nat) : Int) = (0 : Int)))) (v := (.int .i64 (15 : Int))) hf rfl rfl rfl (fun hact => (r_move rfl)) rfl rfl ?_; clear hf fa; intro fa hf
      refine sqgT (act := (decide ((((dputL has a1 a2 a3 a4 L).length : Nat) : Int) = (0 : Int)))) (ag := true) (c := (decide ((((dputL has a1 a2 a3 a4 L).length : Nat) : Int) = (0 : Int)))) (v := (.bool (decide (((dputE has a1 a2 a3 a4 L)) = (15 : Int))))) hf rfl rfl rfl (fun hact => (r_eq (gb_ev hact rfl) (gb_ev hact rfl))) rfl rfl ?_; clear hf fa; intro fa hf
      refine sqv hf (r_pickA (b := (decide ((((dputL has a1 a2 a3 a4 L).length : Nat) : Int) = (0 : Int)))) (e := (decide (((dputE has a1 a2 a3 a4 L)) = (15 : Int)))) rfl rfl rfl) rfl rfl rfl ?_; clear hf fa; intro fa hf
      refine sqv hf (r_assign rfl) rfl rfl rfl ?_; clear hf fa; intro fa hf
      apply wpList_nil
      (try simp only [Exit.then, Exit.inBlock, ↓reduceIte, Nat.reduceEqDiff])
      refine hK15 _ _ ?_
      refine wp_ret ?_
      (try simp only [Exit.then, Exit.inBlock])
      refine ret1 hf rfl rfl ?_
      have hq := hqt31_1
      obtain ⟨hz, hhf⟩ : (drightP has a1 a2 a3 a4 L) = 0 ∧ has = false := by simpa using hq
      have hE : (dputE has a1 a2 a3 a4 L) = 15 := by unfold dputE; rw [if_neg (by simpa using hz), hhf]; rfl
      have hp : (dputL has a1 a2 a3 a4 L) = [] := by unfold dputL; rw [if_neg (by rw [hE]; decide)]
      rw [hE, hp]
      exact ⟨rfl, hb⟩
    · have hqt31_1b := hqt31_1
      replace hqt31_1 := Bool.eq_false_iff.1 hqt31_1
      try simp only [ne_eq, decide_eq_true_eq, Bool.and_eq_true, Bool.or_eq_true, Bool.not_eq_true', decide_eq_false_iff_not] at hqt31_1
      refine wp_skip ?_
      (try simp only [Exit.then, Exit.inBlock, ↓reduceIte, Nat.reduceEqDiff])
      refine hK11 _ _ ?_
      refine wp_seq_k (fun K16 hK16 => ?_)
      refine wp_seq_k (fun K17 hK17 => ?_)
      refine wp_region_lit ?_
      refine sqv hf (r_move rfl) rfl rfl rfl ?_; clear hf fa; intro fa hf
      refine sqv hf (r_ne rfl rfl) rfl rfl rfl ?_; clear hf fa; intro fa hf
      apply wpList_nil
      (try simp only [Exit.then, Exit.inBlock, ↓reduceIte, Nat.reduceEqDiff])
      refine hK17 _ _ ?_
      refine wp_cond_split (t := (decide (((drightP has a1 a2 a3 a4 L)) ≠ (0 : Int)))) (hf.ev rfl) (fun hqt33_2 => ?_) (fun hqt33_2 => ?_)
      · have hqt33_2b := hqt33_2
        try simp only [decide_eq_true_eq, Bool.and_eq_true, Bool.or_eq_true, Bool.not_eq_true', decide_eq_false_iff_not, ne_eq, Bool.not_eq_true] at hqt33_2
        refine wp_seq_k (fun K18 hK18 => ?_)
        refine wp_region_lit ?_
        refine sqv hf (r_move rfl) rfl rfl rfl ?_; clear hf fa; intro fa hf
        refine sqv hf (r_lensl rfl Try.underlying47) rfl rfl rfl ?_; clear hf fa; intro fa hf
        refine sqv hf (r_eq rfl rfl) rfl rfl rfl ?_; clear hf fa; intro fa hf
        refine sqv hf (r_move rfl) rfl rfl rfl ?_; clear hf fa; intro fa hf
        refine sqgT (act := (decide ((((dputL has a1 a2 a3 a4 L).length : Nat) : Int) = (0 : Int)))) (ag := true) (c := (decide ((((dputL has a1 a2 a3 a4 L).length : Nat) : Int) = (0 : Int)))) (v := (.int .i64 ((dputE has a1 a2 a3 a4 L)))) hf rfl rfl rfl (fun hact => (r_move rfl)) rfl rfl ?_; clear hf fa; intro fa hf
        refine sqgT (act := (decide ((((dputL has a1 a2 a3 a4 L).length : Nat) : Int) = (0 : Int)))) (ag := true) (c := (decide ((((dputL has a1 a2 a3 a4 L).length : Nat) : Int) = (0 : Int)))) (v := (.int .i64 ((drightP has a1 a2 a3 a4 L)))) hf rfl rfl rfl (fun hact => (r_move rfl)) rfl rfl ?_; clear hf fa; intro fa hf
        refine sqgT (act := (decide ((((dputL has a1 a2 a3 a4 L).length : Nat) : Int) = (0 : Int)))) (ag := true) (c := (decide ((((dputL has a1 a2 a3 a4 L).length : Nat) : Int) = (0 : Int)))) (v := (.bool (decide (((dputE has a1 a2 a3 a4 L)) = ((drightP has a1 a2 a3 a4 L)))))) hf rfl rfl rfl (fun hact => (r_eq (gb_ev hact rfl) (gb_ev hact rfl))) rfl rfl ?_; clear hf fa; intro fa hf
        refine sqv hf (r_pickA (b := (decide ((((dputL has a1 a2 a3 a4 L).length : Nat) : Int) = (0 : Int)))) (e := (decide (((dputE has a1 a2 a3 a4 L)) = ((drightP has a1 a2 a3 a4 L))))) rfl rfl rfl) rfl rfl rfl ?_; clear hf fa; intro fa hf
        refine sqv hf (r_assign rfl) rfl rfl rfl ?_; clear hf fa; intro fa hf
        apply wpList_nil
        (try simp only [Exit.then, Exit.inBlock, ↓reduceIte, Nat.reduceEqDiff])
        refine hK18 _ _ ?_
        refine wp_ret ?_
        (try simp only [Exit.then, Exit.inBlock])
        refine ret1 hf rfl rfl ?_
        have hz : ¬ (drightP has a1 a2 a3 a4 L) = 0 := hqt33_2
        have hE : (dputE has a1 a2 a3 a4 L) = (drightP has a1 a2 a3 a4 L) := by unfold dputE; rw [if_pos hz]
        have hp : (dputL has a1 a2 a3 a4 L) = [] := by unfold dputL; rw [if_neg (by rw [hE]; exact hz)]
        rw [hE, hp]
        exact ⟨by simp, hb⟩
      · have hqt33_2b := hqt33_2
        replace hqt33_2 := Bool.eq_false_iff.1 hqt33_2
        try simp only [ne_eq, decide_eq_true_eq, Bool.and_eq_true, Bool.or_eq_true, Bool.not_eq_true', decide_eq_false_iff_not] at hqt33_2
        refine wp_skip ?_
        (try simp only [Exit.then, Exit.inBlock, ↓reduceIte, Nat.reduceEqDiff])
        refine hK16 _ _ ?_
        refine wp_seq_k (fun K19 hK19 => ?_)
        have hz : (drightP has a1 a2 a3 a4 L) = 0 := by have h := hqt33_2; omega
        have hht : has = true := by
          have h := hqt31_1b
          rw [hz] at h
          cases hh : has
          · rw [hh] at h; simp at h
          · rfl
        have hE0 : (dputE has a1 a2 a3 a4 L) = 0 := by unfold dputE; rw [if_neg (by simpa using hz), hht]; rfl
        have hpz : (dputL has a1 a2 a3 a4 L) = (encD a1 a2 a3 a4 L) := by unfold dputL; rw [if_pos hE0]
        have hpzl := congrArg List.length hpz
        have hdrt : drightP true a1 a2 a3 a4 L = 0 := by have h := hz; rw [hht] at h; exact h
        have hgd : ∀ s ∈ L, Ut.checkF s = 0 := dgood hdrt
        have hil := infoL_len ha1 ha2 ha3 ha4
        have hnl := needL_len hfp
        have hP1 := partL_len (t := 1) (X := infoL a1 a2 a3 a4) (by omega)
        have hP2 := partL_len (t := 2) (X := needL L) (by omega)
        have hEb : (encD a1 a2 a3 a4 L).length ≤ 11000 := by unfold encD; rw [List.length_append]; split; simp; omega; omega
        have hl6 : ∀ y ∈ (dputL has a1 a2 a3 a4 L), 0 ≤ y ∧ y < 256 := by rw [hpz]; exact encD_rng
        have hlm : (dputL has a1 a2 a3 a4 L).length ≤ 1000000 := by omega
        have hAt : At (dputL has a1 a2 a3 a4 L) 0 (encD a1 a2 a3 a4 L) := by rw [hpz]; exact At.all _
        have hpt : 0 + (encD a1 a2 a3 a4 L).length = (dputL has a1 a2 a3 a4 L).length := by omega
        refine wp_region_lit ?_
        refine sqv hf (r_move rfl) rfl rfl rfl ?_; clear hf fa; intro fa hf
        refine sqdt hf (d_callX (vs := [(.slice pa1 ((dputL has a1 a2 a3 a4 L).length) pc1)]) rfl Try.func58 (by kernel_rfl) (by kernel_rfl) (over_any pa1 pc1 (dputL has a1 a2 a3 a4 L) _ (Row.rd (by intros; rfl) hr1) (by first | omega | (simp only [Sl.list_length, List.length_set, List.length_take, List.length_append, List.length_replicate, List.length_cons, List.length_nil, List.length_map, nums_len]; omega)) (fun h => Row.nocap hr1 h))) rfl rfl rfl ?_; clear hf fa; rintro fa _ w7 ⟨sb1, sa1, sc1, rfl, hle2, hk2, hr2, he7⟩ hf
        have hBsb1 : w.heap.size ≤ sb1 := Nat.le_trans hb.size hle2
        have : b1 < sb1 := Nat.lt_of_lt_of_le (blk_lt hk1) hle2
        replace hr2 := Row.rebase hr2 hb.size
        replace hk1 := blk_ext hk1 he7
        replace hr1 := Row.ext hr1 he7
        replace hb := hb.trans (Below.mono he7 hb.size)
        refine sqdt hf (d_alloc (z := (.pointer none)) (cs := #[(.pointer none)]) (by kernel_rfl) rfl) rfl rfl rfl ?_; clear hf fa; rintro fa _ w8 ⟨b2, rfl, hle3, hk3, he8⟩ hf
        have hBb2 : w.heap.size ≤ b2 := Nat.le_trans hb.size hle3
        have : b1 < b2 := Nat.lt_of_lt_of_le (blk_lt hk1) hle3
        have : sb1 < b2 := Nat.lt_of_lt_of_le (blk_lt hk2) hle3
        replace hk1 := blk_ext hk1 he8
        replace hk2 := blk_ext hk2 he8
        replace hr1 := Row.ext hr1 he8
        replace hr2 := Row.ext hr2 he8
        replace hb := hb.trans (Below.mono he8 hb.size)
        refine sqn hf (d_storeK (T := 87) (v := (.pointer (some ⟨sb1, 0, none⟩))) (cs := #[(.pointer none)]) (cs' := #[(.pointer (some ⟨sb1, 0, none⟩))]) rfl rfl (by kernel_rfl) (by kernel_rfl) hk3 (by kernel_rfl) (by kernel_rfl)) rfl rfl ?_; clear hf fa; rintro fa _ w9 ⟨hk4, hg1⟩ hf
        replace hk1 := blk_grown hk1 hg1 (by omega)
        replace hk2 := blk_grown hk2 hg1 (by omega)
        replace hr1 := Row.grown hr1 hg1 (Row.ne_type hr1 hk3 rfl)
        replace hr2 := Row.grown hr2 hg1 (Row.ne_type hr2 hk3 rfl)
        replace hb := hb.trans (grown_below hg1 hb.size hBb2)
        apply wpList_nil
        (try simp only [Exit.then, Exit.inBlock, ↓reduceIte, Nat.reduceEqDiff])
        refine hK19 _ _ ?_
        refine wp_seq_k (fun K20 hK20 => ?_)
        refine wp_region_lit ?_
        refine sqv hf (r_makeFunc (vs := [(.pointer (some ⟨b2, 0, none⟩))]) rfl) rfl rfl rfl ?_; clear hf fa; intro fa hf
        refine sqdt hf (d_callX (vs := [(.func (.func 92) #[] #[(.pointer (some ⟨b2, 0, none⟩))])]) rfl Try.func91 (by kernel_rfl) (by kernel_rfl) (val_dyl sb1 161 92 #[(.pointer (some ⟨b2, 0, none⟩))] #[(.slice sa1 (((dputL has a1 a2 a3 a4 L)).length) sc1), (.int .i64 (((0 + (encD a1 a2 a3 a4 L).length) : Nat) : Int))] has a1 a2 a3 a4 L _ (blk_lt hk2) (enters Try.func92 (by kernel_rfl) (by kernel_rfl)) (fun w1 hw1 => c16x_any b2 sb1 w.heap.size 0 sa1 sc1 (dputL has a1 a2 a3 a4 L) w1 (blk_ext hk2 hw1) (Row.ext hr2 hw1) (by omega) (by omega) (blk_ext hk4 hw1) hl6 hlm has a1 a2 a3 a4 L ha1 ha2 ha3 ha4 hfw hAt hpt hdrt hgd hht))) rfl rfl rfl ?_; clear hf fa; rintro fa _ w10 ⟨va1, vc1, rfl, hr3, hk5, hg2⟩ hf
        replace hr3 := Row.rebase hr3 hb.size
        have hcv := Row.caps hr3
        replace hk1 := blk_grown hk1 hg2 (by omega)
        replace hk4 := blk_grown hk4 hg2 (by omega)
        replace hr1 := Row.grown hr1 hg2 (Row.ne_type hr1 hk2 rfl)
        replace hr2 := Row.grown hr2 hg2 (Row.ne_type hr2 hk2 rfl)
        replace hb := hb.trans (grown_below hg2 hb.size hBsb1)
        refine sqv hf (r_move rfl) rfl rfl rfl ?_; clear hf fa; intro fa hf
        refine sqv hf (r_extract rfl (i := 0) rfl) rfl rfl rfl ?_; clear hf fa; intro fa hf
        refine sqv hf (r_extract rfl (i := 1) rfl) rfl rfl rfl ?_; clear hf fa; intro fa hf
        refine sqdt hf (d_alloc (z := (.agg #[(.bool false), (.int .u32 (0 : Int)), (.int .u32 (0 : Int)), (.int .u32 (0 : Int)), (.int .u32 (0 : Int)), (.slice none 0 0)])) (cs := #[(.bool false), (.int .u32 (0 : Int)), (.int .u32 (0 : Int)), (.int .u32 (0 : Int)), (.int .u32 (0 : Int)), (.slice none 0 0)]) (by kernel_rfl) rfl) rfl rfl rfl ?_; clear hf fa; rintro fa _ w11 ⟨b3, rfl, hle4, hk6, he9⟩ hf
        have hBb3 : w.heap.size ≤ b3 := Nat.le_trans hb.size hle4
        have : b1 < b3 := Nat.lt_of_lt_of_le (blk_lt hk1) hle4
        have : sb1 < b3 := Nat.lt_of_lt_of_le (blk_lt hk5) hle4
        have : b2 < b3 := Nat.lt_of_lt_of_le (blk_lt hk4) hle4
        replace hk1 := blk_ext hk1 he9
        replace hk5 := blk_ext hk5 he9
        replace hk4 := blk_ext hk4 he9
        replace hr1 := Row.ext hr1 he9
        replace hr2 := Row.ext hr2 he9
        replace hr3 := Row.ext hr3 he9
        replace hb := hb.trans (Below.mono he9 hb.size)
        refine sqdt hf (d_alloc (z := (.agg #[(.int .i64 (0 : Int)), (.int .i64 (0 : Int))])) (cs := #[(.int .i64 (0 : Int)), (.int .i64 (0 : Int))]) (by kernel_rfl) rfl) rfl rfl rfl ?_; clear hf fa; rintro fa _ w12 ⟨b4, rfl, hle5, hk7, he10⟩ hf
        have hBb4 : w.heap.size ≤ b4 := Nat.le_trans hb.size hle5
        have : b1 < b4 := Nat.lt_of_lt_of_le (blk_lt hk1) hle5
        have : sb1 < b4 := Nat.lt_of_lt_of_le (blk_lt hk5) hle5
        have : b2 < b4 := Nat.lt_of_lt_of_le (blk_lt hk4) hle5
        have : b3 < b4 := Nat.lt_of_lt_of_le (blk_lt hk6) hle5
        replace hk1 := blk_ext hk1 he10
        replace hk5 := blk_ext hk5 he10
        replace hk4 := blk_ext hk4 he10
        replace hk6 := blk_ext hk6 he10
        replace hr1 := Row.ext hr1 he10
        replace hr2 := Row.ext hr2 he10
        replace hr3 := Row.ext hr3 he10
        replace hb := hb.trans (Below.mono he10 hb.size)
        refine sqn hf (d_storeK (T := 37) (v := (.agg #[(.bool has), (.int .u32 a1), (.int .u32 a2), (.int .u32 a3), (.int .u32 a4), (.slice va1 L.length vc1)])) (cs := #[(.bool false), (.int .u32 (0 : Int)), (.int .u32 (0 : Int)), (.int .u32 (0 : Int)), (.int .u32 (0 : Int)), (.slice none 0 0)]) (cs' := #[(.bool has), (.int .u32 a1), (.int .u32 a2), (.int .u32 a3), (.int .u32 a4), (.slice va1 L.length vc1)]) rfl rfl (by kernel_rfl) (by kernel_rfl) hk6 (by kernel_rfl) (by kernel_rfl)) rfl rfl ?_; clear hf fa; rintro fa _ w13 ⟨hk8, hg3⟩ hf
        replace hk1 := blk_grown hk1 hg3 (by omega)
        replace hk5 := blk_grown hk5 hg3 (by omega)
        replace hk4 := blk_grown hk4 hg3 (by omega)
        replace hk7 := blk_grown hk7 hg3 (by omega)
        replace hr1 := Row.grown hr1 hg3 (Row.ne_type hr1 hk6 rfl)
        replace hr2 := Row.grown hr2 hg3 (Row.ne_type hr2 hk6 rfl)
        replace hr3 := Row.grown hr3 hg3 (Row.ne_type hr3 hk6 rfl)
        replace hb := hb.trans (grown_below hg3 hb.size hBb3)
        refine sqn hf (d_storeK (T := 90) (v := (.agg #[(.int .i64 (0 : Int)), (.int .i64 (0 : Int))])) (cs := #[(.int .i64 (0 : Int)), (.int .i64 (0 : Int))]) (cs' := #[(.int .i64 (0 : Int)), (.int .i64 (0 : Int))]) rfl rfl (by kernel_rfl) (by kernel_rfl) hk7 (by kernel_rfl) (by kernel_rfl)) rfl rfl ?_; clear hf fa; rintro fa _ w14 ⟨hk9, hg4⟩ hf
        replace hk1 := blk_grown hk1 hg4 (by omega)
        replace hk5 := blk_grown hk5 hg4 (by omega)
        replace hk4 := blk_grown hk4 hg4 (by omega)
        replace hk8 := blk_grown hk8 hg4 (by omega)
        replace hr1 := Row.grown hr1 hg4 (Row.ne_type hr1 hk7 rfl)
        replace hr2 := Row.grown hr2 hg4 (Row.ne_type hr2 hk7 rfl)
        replace hr3 := Row.grown hr3 hg4 (Row.ne_type hr3 hk7 rfl)
        replace hb := hb.trans (grown_below hg4 hb.size hBb4)
        apply wpList_nil
        (try simp only [Exit.then, Exit.inBlock, ↓reduceIte, Nat.reduceEqDiff])
        refine hK20 _ _ ?_
        refine wp_seq_k (fun K21 hK21 => ?_)
        refine wp_region_un (fun wq => Below w14.heap.size w14 wq) (fun w w' => Below w.heap.size w w')
          (fun V => [(fun x _ => x = (.int .i64 ((dputE has a1 a2 a3 a4 L)))), (fun x _ => x = (.bool true)), (fun x _ => x = (.bool true)), (fun x _ => x = (.slice pa1 ((dputL has a1 a2 a3 a4 L).length) pc1)), (fun x _ => x = (.string (strOfNums (dputL has a1 a2 a3 a4 L)))), (fun x _ => x = (.agg #[(.bool has), (.int .u32 a1), (.int .u32 a2), (.int .u32 a3), (.int .u32 a4), (.slice a L.length c)])), (fun x _ => x = (.string (strOfNums (encD a1 a2 a3 a4 L)))), (fun x _ => x = (.bool true)), (fun x _ => x = (.bool true)), (fun x _ => x = (.bool true)), (fun x _ => x = (.pointer (some ⟨b4, 0, none⟩))), (fun x _ => x = (.int .i64 (0 : Int))), (fun x _ => x = (.bool true)), (fun x _ => x = (.bool true)), (fun x _ => x = (.bool true)), (fun x _ => x = (.agg #[(.bool has), (.int .u32 a1), (.int .u32 a2), (.int .u32 a3), (.int .u32 a4), (.slice va1 L.length vc1)])), (fun x _ => x = (.agg #[(.bool has), (.int .u32 a1), (.int .u32 a2), (.int .u32 a3), (.int .u32 a4), (.slice a L.length c)])), (fun x _ => x = (.bool true)), (fun x _ => x = (.bool true)), (fun x _ => x = (.bool true))])
          []
          [[], [0], [1], [2], [2, 3], [2], [2, 5], [2, 4, 6], [2, 7], [6, 8], [9], [9, 10], [9, 11], [9, 12], [9, 13], [14], [14], [14, 15, 16], [14, 17], [0, 1, 2, 3, 4, 5, 6, 7, 8, 9, 10, 11, 12, 13, 14, 15, 16, 17, 18]]
          hf (by kernel_rfl) (by kernel_rfl) (fun _ => rfl) ((Below.refl _ _).drew) (fun a b h1 h2 => h1.trans (h2.mono h1.size)) (fun _ _ h => h.size) (fun V => ⟨kept_eq, kept_eq, kept_eq, kept_eq, kept_eq, kept_eq, kept_eq, kept_eq, kept_eq, kept_eq, kept_eq, kept_eq, kept_eq, kept_eq, kept_eq, kept_eq, kept_eq, kept_eq, kept_eq, kept_eq, trivial⟩) (fun _ _ _ _ _ => rfl) ?_ ?_
        · skip
          intro V
          refine ⟨fun wu0 hC hd => ?_, ?_⟩
          · clear hd
            replace hb := hb.trans (hC.mono hb.size)
            replace hk1 := blk_ext hk1 hC
            replace hk5 := blk_ext hk5 hC
            replace hk4 := blk_ext hk4 hC
            replace hk8 := blk_ext hk8 hC
            replace hk9 := blk_ext hk9 hC
            replace hr1 := Row.ext hr1 hC
            replace hr2 := Row.ext hr2 hC
            replace hr3 := Row.ext hr3 hC
            exact Runs.does (r_move rfl) ⟨Below.refl _ _, rfl, nofr rfl⟩
          refine ⟨fun wu1 hC hd => ?_, ?_⟩
          · obtain ⟨h0, _⟩ := hd
            skip
            replace h0 : V 0 = (.int .i64 ((dputE has a1 a2 a3 a4 L))) := h0
            replace hb := hb.trans (hC.mono hb.size)
            replace hk1 := blk_ext hk1 hC
            replace hk5 := blk_ext hk5 hC
            replace hk4 := blk_ext hk4 hC
            replace hk8 := blk_ext hk8 hC
            replace hk9 := blk_ext hk9 hC
            replace hr1 := Row.ext hr1 hC
            replace hr2 := Row.ext hr2 hC
            replace hr3 := Row.ext hr3 hC
            exact Runs.does (Runs.veq (r_eq (congrArg some h0) rfl) (congrArg Value.bool (show _ = true from (by rw [hE0]; rfl)))) ⟨Below.refl _ _, rfl, nofr rfl⟩
          refine ⟨fun wu2 hC hd => ?_, ?_⟩
          · obtain ⟨h1, _⟩ := hd
            skip
            replace h1 : V 1 = (.bool true) := h1
            replace hb := hb.trans (hC.mono hb.size)
            replace hk1 := blk_ext hk1 hC
            replace hk5 := blk_ext hk5 hC
            replace hk4 := blk_ext hk4 hC
            replace hk8 := blk_ext hk8 hC
            replace hk9 := blk_ext hk9 hC
            replace hr1 := Row.ext hr1 hC
            replace hr2 := Row.ext hr2 hC
            replace hr3 := Row.ext hr3 hC
            exact Runs.does (r_move (congrArg some h1)) ⟨Below.refl _ _, rfl, nofr rfl⟩
          refine ⟨fun wu3 hC hd => ?_, ?_⟩
          · obtain ⟨h2, _⟩ := hd
            skip
            replace h2 : V 2 = (.bool true) := h2
            replace hb := hb.trans (hC.mono hb.size)
            replace hk1 := blk_ext hk1 hC
            replace hk5 := blk_ext hk5 hC
            replace hk4 := blk_ext hk4 hC
            replace hk8 := blk_ext hk8 hC
            replace hk9 := blk_ext hk9 hC
            replace hr1 := Row.ext hr1 hC
            replace hr2 := Row.ext hr2 hC
            replace hr3 := Row.ext hr3 hC
            refine ⟨true, true, congrArg some h2, fun hact => ?_, fun hact => ?_⟩
            · exact Runs.does (r_move rfl) ⟨Below.refl _ _, rfl, nofr rfl⟩
            · exfalso; simp at hact
          refine ⟨fun wu4 hC hd => ?_, ?_⟩
          · obtain ⟨h2, h3, _⟩ := hd
            skip
            skip
            replace h2 : V 2 = (.bool true) := h2
            replace h3 : V 3 = (.slice pa1 ((dputL has a1 a2 a3 a4 L).length) pc1) := h3
            replace hb := hb.trans (hC.mono hb.size)
            replace hk1 := blk_ext hk1 hC
            replace hk5 := blk_ext hk5 hC
            replace hk4 := blk_ext hk4 hC
            replace hk8 := blk_ext hk8 hC
            replace hk9 := blk_ext hk9 hC
            replace hr1 := Row.ext hr1 hC
            replace hr2 := Row.ext hr2 hC
            replace hr3 := Row.ext hr3 hC
            refine ⟨true, true, congrArg some h2, fun hact => ?_, fun hact => ?_⟩
            · exact Runs.does (r_rowstr (congrArg some h3) Try.underlying47 Try.underlying5 Try.underlying9 hr1) ⟨Below.refl _ _, rfl, nofr rfl⟩
            · exfalso; simp at hact
          refine ⟨fun wu5 hC hd => ?_, ?_⟩
          · obtain ⟨h2, _⟩ := hd
            skip
            replace h2 : V 2 = (.bool true) := h2
            replace hb := hb.trans (hC.mono hb.size)
            replace hk1 := blk_ext hk1 hC
            replace hk5 := blk_ext hk5 hC
            replace hk4 := blk_ext hk4 hC
            replace hk8 := blk_ext hk8 hC
            replace hk9 := blk_ext hk9 hC
            replace hr1 := Row.ext hr1 hC
            replace hr2 := Row.ext hr2 hC
            replace hr3 := Row.ext hr3 hC
            refine ⟨true, true, congrArg some h2, fun hact => ?_, fun hact => ?_⟩
            · exact Runs.does (r_loadA (cs := [(.bool has), (.int .u32 a1), (.int .u32 a2), (.int .u32 a3), (.int .u32 a4), (.slice a L.length c)]) rfl Try.underlying37 rfl (by kernel_rfl) (cellsAt_blk hk1)) ⟨Below.refl _ _, rfl, nofr rfl⟩
            · exfalso; simp at hact
          refine ⟨fun wu6 hC hd => ?_, ?_⟩
          · obtain ⟨h2, h5, _⟩ := hd
            skip
            skip
            replace h2 : V 2 = (.bool true) := h2
            replace h5 : V 5 = (.agg #[(.bool has), (.int .u32 a1), (.int .u32 a2), (.int .u32 a3), (.int .u32 a4), (.slice a L.length c)]) := h5
            replace hb := hb.trans (hC.mono hb.size)
            replace hk1 := blk_ext hk1 hC
            replace hk5 := blk_ext hk5 hC
            replace hk4 := blk_ext hk4 hC
            replace hk8 := blk_ext hk8 hC
            replace hk9 := blk_ext hk9 hC
            replace hr1 := Row.ext hr1 hC
            replace hr2 := Row.ext hr2 hC
            replace hr3 := Row.ext hr3 hC
            refine ⟨true, true, congrArg some h2, fun hact => ?_, fun hact => ?_⟩
            · refine Does.mono (d_callB (vs := [(.agg #[(.bool has), (.int .u32 a1), (.int .u32 a2), (.int .u32 a3), (.int .u32 a4), (.slice a L.length c)])]) (show [some (V 5)] = [some (.agg #[(.bool has), (.int .u32 a1), (.int .u32 a2), (.int .u32 a3), (.int .u32 a4), (.slice a L.length c)])] from by rw [h5]) Try.func94 (by kernel_rfl) (by kernel_rfl) (rdput_any has a1 a2 a3 a4 a L c _ (RdS.ext hl hb) hc hcp ha1 ha2 ha3 ha4 hfw)) (fun _ _ h => ⟨h.2, h.1, nofr rfl⟩)
            · exfalso; simp at hact
          refine ⟨fun wu7 hC hd => ?_, ?_⟩
          · obtain ⟨h2, h4, h6, _⟩ := hd
            skip
            skip
            skip
            replace h2 : V 2 = (.bool true) := h2
            replace h4 : V 4 = (.string (strOfNums (dputL has a1 a2 a3 a4 L))) := h4
            replace h6 : V 6 = (.string (strOfNums (encD a1 a2 a3 a4 L))) := h6
            replace hb := hb.trans (hC.mono hb.size)
            replace hk1 := blk_ext hk1 hC
            replace hk5 := blk_ext hk5 hC
            replace hk4 := blk_ext hk4 hC
            replace hk8 := blk_ext hk8 hC
            replace hk9 := blk_ext hk9 hC
            replace hr1 := Row.ext hr1 hC
            replace hr2 := Row.ext hr2 hC
            replace hr3 := Row.ext hr3 hC
            refine ⟨true, true, congrArg some h2, fun hact => ?_, fun hact => ?_⟩
            · exact Runs.does (Runs.veq (r_seq (congrArg some h4) (congrArg some h6)) (congrArg Value.bool (show _ = true from (by rw [hpz]; simp)))) ⟨Below.refl _ _, rfl, nofr rfl⟩
            · exfalso; simp at hact
          refine ⟨fun wu8 hC hd => ?_, ?_⟩
          · obtain ⟨h2, h7, _⟩ := hd
            skip
            skip
            replace h2 : V 2 = (.bool true) := h2
            replace h7 : V 7 = (.bool true) := h7
            replace hb := hb.trans (hC.mono hb.size)
            replace hk1 := blk_ext hk1 hC
            replace hk5 := blk_ext hk5 hC
            replace hk4 := blk_ext hk4 hC
            replace hk8 := blk_ext hk8 hC
            replace hk9 := blk_ext hk9 hC
            replace hr1 := Row.ext hr1 hC
            replace hr2 := Row.ext hr2 hC
            replace hr3 := Row.ext hr3 hC
            exact Runs.does (r_pick (b := true) (congrArg some h2) (congrArg some h7) rfl rfl) ⟨Below.refl _ _, rfl, nofr rfl⟩
          refine ⟨fun wu9 hC hd => ?_, ?_⟩
          · obtain ⟨h6, h8, _⟩ := hd
            skip
            skip
            replace h6 : V 6 = (.string (strOfNums (encD a1 a2 a3 a4 L))) := h6
            replace h8 : V 8 = (.bool true) := h8
            replace hb := hb.trans (hC.mono hb.size)
            replace hk1 := blk_ext hk1 hC
            replace hk5 := blk_ext hk5 hC
            replace hk4 := blk_ext hk4 hC
            replace hk8 := blk_ext hk8 hC
            replace hk9 := blk_ext hk9 hC
            replace hr1 := Row.ext hr1 hC
            replace hr2 := Row.ext hr2 hC
            replace hr3 := Row.ext hr3 hC
            exact Runs.does (r_move (congrArg some h8)) ⟨Below.refl _ _, rfl, nofr rfl⟩
          refine ⟨fun wu10 hC hd => ?_, ?_⟩
          · obtain ⟨h9, _⟩ := hd
            skip
            replace h9 : V 9 = (.bool true) := h9
            replace hb := hb.trans (hC.mono hb.size)
            replace hk1 := blk_ext hk1 hC
            replace hk5 := blk_ext hk5 hC
            replace hk4 := blk_ext hk4 hC
            replace hk8 := blk_ext hk8 hC
            replace hk9 := blk_ext hk9 hC
            replace hr1 := Row.ext hr1 hC
            replace hr2 := Row.ext hr2 hC
            replace hr3 := Row.ext hr3 hC
            refine ⟨true, true, congrArg some h9, fun hact => ?_, fun hact => ?_⟩
            · exact Runs.does (r_fa rfl Try.underlying90 (f := 0) (q := 0) rfl (by kernel_rfl) rfl) ⟨Below.refl _ _, rfl, nofr rfl⟩
            · exfalso; simp at hact
          refine ⟨fun wu11 hC hd => ?_, ?_⟩
          · obtain ⟨h9, h10, _⟩ := hd
            skip
            skip
            replace h9 : V 9 = (.bool true) := h9
            replace h10 : V 10 = (.pointer (some ⟨b4, 0, none⟩)) := h10
            replace hb := hb.trans (hC.mono hb.size)
            replace hk1 := blk_ext hk1 hC
            replace hk5 := blk_ext hk5 hC
            replace hk4 := blk_ext hk4 hC
            replace hk8 := blk_ext hk8 hC
            replace hk9 := blk_ext hk9 hC
            replace hr1 := Row.ext hr1 hC
            replace hr2 := Row.ext hr2 hC
            replace hr3 := Row.ext hr3 hC
            refine ⟨true, true, congrArg some h9, fun hact => ?_, fun hact => ?_⟩
            · exact Runs.does (r_load (v := (.int .i64 (0 : Int))) (congrArg some h10) Try.underlying39 rfl (cell_blk hk9 rfl)) ⟨Below.refl _ _, rfl, nofr rfl⟩
            · exfalso; simp at hact
          refine ⟨fun wu12 hC hd => ?_, ?_⟩
          · obtain ⟨h9, h11, _⟩ := hd
            skip
            skip
            replace h9 : V 9 = (.bool true) := h9
            replace h11 : V 11 = (.int .i64 (0 : Int)) := h11
            replace hb := hb.trans (hC.mono hb.size)
            replace hk1 := blk_ext hk1 hC
            replace hk5 := blk_ext hk5 hC
            replace hk4 := blk_ext hk4 hC
            replace hk8 := blk_ext hk8 hC
            replace hk9 := blk_ext hk9 hC
            replace hr1 := Row.ext hr1 hC
            replace hr2 := Row.ext hr2 hC
            replace hr3 := Row.ext hr3 hC
            refine ⟨true, true, congrArg some h9, fun hact => ?_, fun hact => ?_⟩
            · exact Runs.does (Runs.veq (r_eq (congrArg some h11) rfl) (congrArg Value.bool (show _ = true from rfl))) ⟨Below.refl _ _, rfl, nofr rfl⟩
            · exfalso; simp at hact
          refine ⟨fun wu13 hC hd => ?_, ?_⟩
          · obtain ⟨h9, h12, _⟩ := hd
            skip
            skip
            replace h9 : V 9 = (.bool true) := h9
            replace h12 : V 12 = (.bool true) := h12
            replace hb := hb.trans (hC.mono hb.size)
            replace hk1 := blk_ext hk1 hC
            replace hk5 := blk_ext hk5 hC
            replace hk4 := blk_ext hk4 hC
            replace hk8 := blk_ext hk8 hC
            replace hk9 := blk_ext hk9 hC
            replace hr1 := Row.ext hr1 hC
            replace hr2 := Row.ext hr2 hC
            replace hr3 := Row.ext hr3 hC
            exact Runs.does (r_pick (b := true) (congrArg some h9) (congrArg some h12) rfl rfl) ⟨Below.refl _ _, rfl, nofr rfl⟩
          refine ⟨fun wu14 hC hd => ?_, ?_⟩
          · obtain ⟨h9, h13, _⟩ := hd
            skip
            skip
            replace h9 : V 9 = (.bool true) := h9
            replace h13 : V 13 = (.bool true) := h13
            replace hb := hb.trans (hC.mono hb.size)
            replace hk1 := blk_ext hk1 hC
            replace hk5 := blk_ext hk5 hC
            replace hk4 := blk_ext hk4 hC
            replace hk8 := blk_ext hk8 hC
            replace hk9 := blk_ext hk9 hC
            replace hr1 := Row.ext hr1 hC
            replace hr2 := Row.ext hr2 hC
            replace hr3 := Row.ext hr3 hC
            exact Runs.does (r_move (congrArg some h13)) ⟨Below.refl _ _, rfl, nofr rfl⟩
          refine ⟨fun wu15 hC hd => ?_, ?_⟩
          · obtain ⟨h14, _⟩ := hd
            skip
            replace h14 : V 14 = (.bool true) := h14
            replace hb := hb.trans (hC.mono hb.size)
            replace hk1 := blk_ext hk1 hC
            replace hk5 := blk_ext hk5 hC
            replace hk4 := blk_ext hk4 hC
            replace hk8 := blk_ext hk8 hC
            replace hk9 := blk_ext hk9 hC
            replace hr1 := Row.ext hr1 hC
            replace hr2 := Row.ext hr2 hC
            replace hr3 := Row.ext hr3 hC
            refine ⟨true, true, congrArg some h14, fun hact => ?_, fun hact => ?_⟩
            · exact Runs.does (r_loadA (cs := [(.bool has), (.int .u32 a1), (.int .u32 a2), (.int .u32 a3), (.int .u32 a4), (.slice va1 L.length vc1)]) rfl Try.underlying37 rfl (by kernel_rfl) (cellsAt_blk hk8)) ⟨Below.refl _ _, rfl, nofr rfl⟩
            · exfalso; simp at hact
          refine ⟨fun wu16 hC hd => ?_, ?_⟩
          · obtain ⟨h14, _⟩ := hd
            skip
            replace h14 : V 14 = (.bool true) := h14
            replace hb := hb.trans (hC.mono hb.size)
            replace hk1 := blk_ext hk1 hC
            replace hk5 := blk_ext hk5 hC
            replace hk4 := blk_ext hk4 hC
            replace hk8 := blk_ext hk8 hC
            replace hk9 := blk_ext hk9 hC
            replace hr1 := Row.ext hr1 hC
            replace hr2 := Row.ext hr2 hC
            replace hr3 := Row.ext hr3 hC
            refine ⟨true, true, congrArg some h14, fun hact => ?_, fun hact => ?_⟩
            · exact Runs.does (r_loadA (cs := [(.bool has), (.int .u32 a1), (.int .u32 a2), (.int .u32 a3), (.int .u32 a4), (.slice a L.length c)]) rfl Try.underlying37 rfl (by kernel_rfl) (cellsAt_blk hk1)) ⟨Below.refl _ _, rfl, nofr rfl⟩
            · exfalso; simp at hact
          refine ⟨fun wu17 hC hd => ?_, ?_⟩
          · obtain ⟨h14, h15, h16, _⟩ := hd
            skip
            skip
            skip
            replace h14 : V 14 = (.bool true) := h14
            replace h15 : V 15 = (.agg #[(.bool has), (.int .u32 a1), (.int .u32 a2), (.int .u32 a3), (.int .u32 a4), (.slice va1 L.length vc1)]) := h15
            replace h16 : V 16 = (.agg #[(.bool has), (.int .u32 a1), (.int .u32 a2), (.int .u32 a3), (.int .u32 a4), (.slice a L.length c)]) := h16
            replace hb := hb.trans (hC.mono hb.size)
            replace hk1 := blk_ext hk1 hC
            replace hk5 := blk_ext hk5 hC
            replace hk4 := blk_ext hk4 hC
            replace hk8 := blk_ext hk8 hC
            replace hk9 := blk_ext hk9 hC
            replace hr1 := Row.ext hr1 hC
            replace hr2 := Row.ext hr2 hC
            replace hr3 := Row.ext hr3 hC
            refine ⟨true, true, congrArg some h14, fun hact => ?_, fun hact => ?_⟩
            · refine Does.mono (d_callB (vs := [(.agg #[(.bool has), (.int .u32 a1), (.int .u32 a2), (.int .u32 a3), (.int .u32 a4), (.slice va1 L.length vc1)]), (.agg #[(.bool has), (.int .u32 a1), (.int .u32 a2), (.int .u32 a3), (.int .u32 a4), (.slice a L.length c)])]) (show [some (V 15), some (V 16)] = [some (.agg #[(.bool has), (.int .u32 a1), (.int .u32 a2), (.int .u32 a3), (.int .u32 a4), (.slice va1 L.length vc1)]), some (.agg #[(.bool has), (.int .u32 a1), (.int .u32 a2), (.int .u32 a3), (.int .u32 a4), (.slice a L.length c)])] from by rw [h15, h16]) Try.func95 (by kernel_rfl) (by kernel_rfl) (dsame_any has a1 a2 a3 a4 a va1 L c vc1 _ (RdS.ext hl hb) (Row.rd (by intros; rfl) hr3) hc hcp (by omega))) (fun _ _ h => ⟨h.2, h.1, nofr rfl⟩)
            · exfalso; simp at hact
          refine ⟨fun wu18 hC hd => ?_, ?_⟩
          · obtain ⟨h14, h17, _⟩ := hd
            skip
            skip
            replace h14 : V 14 = (.bool true) := h14
            replace h17 : V 17 = (.bool true) := h17
            replace hb := hb.trans (hC.mono hb.size)
            replace hk1 := blk_ext hk1 hC
            replace hk5 := blk_ext hk5 hC
            replace hk4 := blk_ext hk4 hC
            replace hk8 := blk_ext hk8 hC
            replace hk9 := blk_ext hk9 hC
            replace hr1 := Row.ext hr1 hC
            replace hr2 := Row.ext hr2 hC
            replace hr3 := Row.ext hr3 hC
            exact Runs.does (r_pick (b := true) (congrArg some h14) (congrArg some h17) rfl rfl) ⟨Below.refl _ _, rfl, nofr rfl⟩
          refine ⟨fun wu19 hC hd => ?_, ?_⟩
          · obtain ⟨h0, h1, h2, h3, h4, h5, h6, h7, h8, h9, h10, h11, h12, h13, h14, h15, h16, h17, h18, _⟩ := hd
            skip
            skip
            skip
            skip
            skip
            skip
            skip
            skip
            skip
            skip
            skip
            skip
            skip
            skip
            skip
            skip
            skip
            skip
            skip
            replace h0 : V 0 = (.int .i64 ((dputE has a1 a2 a3 a4 L))) := h0
            replace h1 : V 1 = (.bool true) := h1
            replace h2 : V 2 = (.bool true) := h2
            replace h3 : V 3 = (.slice pa1 ((dputL has a1 a2 a3 a4 L).length) pc1) := h3
            replace h4 : V 4 = (.string (strOfNums (dputL has a1 a2 a3 a4 L))) := h4
            replace h5 : V 5 = (.agg #[(.bool has), (.int .u32 a1), (.int .u32 a2), (.int .u32 a3), (.int .u32 a4), (.slice a L.length c)]) := h5
            replace h6 : V 6 = (.string (strOfNums (encD a1 a2 a3 a4 L))) := h6
            replace h7 : V 7 = (.bool true) := h7
            replace h8 : V 8 = (.bool true) := h8
            replace h9 : V 9 = (.bool true) := h9
            replace h10 : V 10 = (.pointer (some ⟨b4, 0, none⟩)) := h10
            replace h11 : V 11 = (.int .i64 (0 : Int)) := h11
            replace h12 : V 12 = (.bool true) := h12
            replace h13 : V 13 = (.bool true) := h13
            replace h14 : V 14 = (.bool true) := h14
            replace h15 : V 15 = (.agg #[(.bool has), (.int .u32 a1), (.int .u32 a2), (.int .u32 a3), (.int .u32 a4), (.slice va1 L.length vc1)]) := h15
            replace h16 : V 16 = (.agg #[(.bool has), (.int .u32 a1), (.int .u32 a2), (.int .u32 a3), (.int .u32 a4), (.slice a L.length c)]) := h16
            replace h17 : V 17 = (.bool true) := h17
            replace h18 : V 18 = (.bool true) := h18
            replace hb := hb.trans (hC.mono hb.size)
            replace hk1 := blk_ext hk1 hC
            replace hk5 := blk_ext hk5 hC
            replace hk4 := blk_ext hk4 hC
            replace hk8 := blk_ext hk8 hC
            replace hk9 := blk_ext hk9 hC
            replace hr1 := Row.ext hr1 hC
            replace hr2 := Row.ext hr2 hC
            replace hr3 := Row.ext hr3 hC
            exact Runs.does (r_assign (congrArg some h18)) ⟨Below.refl _ _, rfl, nofr rfl⟩
          trivial
        · skip
          clear hf fa; intro V w15 fa he11 hp hnb hf
          have hv0 : V 0 = (.int .i64 ((dputE has a1 a2 a3 a4 L))) := postsHold_at hp 0 rfl
          have hv1 : V 1 = (.bool true) := postsHold_at hp 1 rfl
          have hv2 : V 2 = (.bool true) := postsHold_at hp 2 rfl
          have hv3 : V 3 = (.slice pa1 ((dputL has a1 a2 a3 a4 L).length) pc1) := postsHold_at hp 3 rfl
          have hv4 : V 4 = (.string (strOfNums (dputL has a1 a2 a3 a4 L))) := postsHold_at hp 4 rfl
          have hv5 : V 5 = (.agg #[(.bool has), (.int .u32 a1), (.int .u32 a2), (.int .u32 a3), (.int .u32 a4), (.slice a L.length c)]) := postsHold_at hp 5 rfl
          have hv6 : V 6 = (.string (strOfNums (encD a1 a2 a3 a4 L))) := postsHold_at hp 6 rfl
          have hv7 : V 7 = (.bool true) := postsHold_at hp 7 rfl
          have hv8 : V 8 = (.bool true) := postsHold_at hp 8 rfl
          have hv9 : V 9 = (.bool true) := postsHold_at hp 9 rfl
          have hv10 : V 10 = (.pointer (some ⟨b4, 0, none⟩)) := postsHold_at hp 10 rfl
          have hv11 : V 11 = (.int .i64 (0 : Int)) := postsHold_at hp 11 rfl
          have hv12 : V 12 = (.bool true) := postsHold_at hp 12 rfl
          have hv13 : V 13 = (.bool true) := postsHold_at hp 13 rfl
          have hv14 : V 14 = (.bool true) := postsHold_at hp 14 rfl
          have hv15 : V 15 = (.agg #[(.bool has), (.int .u32 a1), (.int .u32 a2), (.int .u32 a3), (.int .u32 a4), (.slice va1 L.length vc1)]) := postsHold_at hp 15 rfl
          have hv16 : V 16 = (.agg #[(.bool has), (.int .u32 a1), (.int .u32 a2), (.int .u32 a3), (.int .u32 a4), (.slice a L.length c)]) := postsHold_at hp 16 rfl
          have hv17 : V 17 = (.bool true) := postsHold_at hp 17 rfl
          have hv18 : V 18 = (.bool true) := postsHold_at hp 18 rfl
          have hv19 : V 19 = (.bool true) := postsHold_at hp 19 rfl
          simp only [List.take_succ_cons, List.take_zero, insAll, ins, hv0, hv1, hv2, hv3, hv4, hv5, hv6, hv7, hv8, hv9, hv10, hv11, hv12, hv13, hv14, hv15, hv16, hv17, hv18, hv19] at hf
          clear hp hnb hv0 hv1 hv2 hv3 hv4 hv5 hv6 hv7 hv8 hv9 hv10 hv11 hv12 hv13 hv14 hv15 hv16 hv17 hv18 hv19
          replace hk1 := blk_ext hk1 he11
          replace hk5 := blk_ext hk5 he11
          replace hk4 := blk_ext hk4 he11
          replace hk8 := blk_ext hk8 he11
          replace hk9 := blk_ext hk9 he11
          replace hr1 := Row.ext hr1 he11
          replace hr2 := Row.ext hr2 he11
          replace hr3 := Row.ext hr3 he11
          replace hb := hb.trans (Below.mono he11 hb.size)
          (try simp only [Exit.then, Exit.inBlock, ↓reduceIte, Nat.reduceEqDiff])
          refine hK21 _ _ ?_
          refine wp_ret ?_
          (try simp only [Exit.then, Exit.inBlock])
          refine ret1 hf rfl rfl ?_
          exact ⟨rfl, hb⟩
end Go.Proofs.Ytcmdajkkdognfaa
