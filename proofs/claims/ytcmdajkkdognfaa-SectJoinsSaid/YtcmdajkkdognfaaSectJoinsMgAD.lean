/- What is proved here: sect.Split over joined sections; the example. What is proved here: what the document's Bytes, First and Count come to. What is proved here: what the document's First and Count come to. -/
import Derived.Test.YtcmdajkkdognfaaSectJoinsMgAC
import Derived.Test.YtcmdajkkdognfaaSectJoinsMgAB
namespace Go.Proofs.Ytcmdajkkdognfaa
open Go.RowKit
set_option linter.unusedVariables false
set_option linter.unusedSimpArgs false
theorem all_ok (l : List MSec) (a : Option Addr) (c : Nat) (w : World) (hl : RdS 1 (vInt .u8) w a (joinL l)) (hc : (joinL l).length ≤ c) (hcm : c ≤ maxLen) (hn : a = none → c = 0) (hm : l.length ≤ 30) (hP : ∀ x ∈ l, SecP x) (hr : riseR 0 l = true) : Calls Try.prog 133 #[(.slice a ((joinL l).length) c)] w fun e w' => ∃ v, e = .returned v ∧ ∃ (X : List MSec) (aX : Option Addr) (cX : Nat), v = .slice aX X.length cX ∧ Row 4 vMSec 119 w.heap.size w' (.slice aX X.length cX) X ∧ SRel w.heap.size w' X ∧ X.map keyB = l.map keyB ∧ Below w.heap.size w w' := by
  refine (all_any l a c w hl hc hcm hn hm hP).mono ?_
  rintro e w' (⟨_, v, h1, X, aX, cX, h2, h3, h4, h5, h6⟩ | ⟨h, _⟩)
  · exact ⟨v, h1, X, aX, cX, h2, h3, h4, h5, h6⟩
  · rw [hr] at h; cases h
theorem all_bad (l : List MSec) (a : Option Addr) (c : Nat) (w : World) (hl : RdS 1 (vInt .u8) w a (joinL l)) (hc : (joinL l).length ≤ c) (hcm : c ≤ maxLen) (hn : a = none → c = 0) (hm : l.length ≤ 30) (hP : ∀ x ∈ l, SecP x) (hr : riseR 0 l = false) : Calls Try.prog 133 #[(.slice a ((joinL l).length) c)] w fun e w' => ∃ c, e = .panicked c ∧ (Gave c ∧ Below w.heap.size w w') := by
  refine (all_any l a c w hl hc hcm hn hm hP).mono ?_
  rintro e w' (⟨h, _⟩ | ⟨_, h⟩)
  · rw [hr] at h; cases h
  · exact h

set_option maxHeartbeats 1000000 in
set_option maxRecDepth 100000 in
theorem split1_ok (bx : Nat) (l : List MSec) (a : Option Addr) (c : Nat) (w : World) (hbx : w.heap[bx]? = some (.cells #[.slice a (joinL l).length c] 47 (0, 0))) (hl : RdS 1 (vInt .u8) w a (joinL l)) (hc : (joinL l).length ≤ c) (hcm : c ≤ maxLen) (hn : a = none → c = 0) (hm : l.length ≤ 30) (hP : ∀ x ∈ l, SecP x) (hr : riseR 0 l = true) : Calls Try.prog 132 #[(.pointer (some ⟨bx, 0, none⟩))] w fun e w' => ∃ v, e = .returned v ∧ ∃ (X : List MSec) (aX : Option Addr) (cX : Nat), v = .slice aX X.length cX ∧ Row 4 vMSec 119 w.heap.size w' (.slice aX X.length cX) X ∧ SRel w.heap.size w' X ∧ X.map keyB = l.map keyB ∧ Below w.heap.size w w' := by
  refine sx_enter (L := [(0, (.pointer (some ⟨bx, 0, none⟩)))]) Try.func132 rfl rfl rfl rfl (fun fa hf => ?_)
  have hb : Below w.heap.size w w := Below.refl _ _
  refine wp_seq_k (fun K1 hK1 => ?_)
  refine wp_region_lit ?_
  refine sqv hf (r_assign rfl) rfl rfl rfl ?_; clear hf fa; intro fa hf
  apply wpList_nil
  (try simp only [Exit.then, Exit.inBlock, ↓reduceIte, Nat.reduceEqDiff])
  refine hK1 _ _ ?_
  refine wp_seq_k (fun K2 hK2 => ?_)
  refine wp_region_lit ?_
  refine sqv hf (r_load (v := (.slice a ((joinL l).length) c)) rfl Try.underlying47 rfl (cell_blk hbx rfl)) rfl rfl rfl ?_; clear hf fa; intro fa hf
  refine sqdt hf (d_callX (vs := [(.slice a ((joinL l).length) c)]) rfl Try.func133 (by kernel_rfl) (by kernel_rfl) (all_ok l a c _ (RdS.ext hl hb) hc hcm hn hm hP hr)) rfl rfl rfl ?_; clear hf fa; rintro fa _ w1 ⟨X, aX, cX, rfl, hrX, hIX, hPX, heX⟩ hf
  replace hrX := Row.rebase hrX hb.size
  replace hIX := SRel.rebase hIX hb.size
  replace hbx := blk_ext hbx heX
  replace hb := hb.trans (Below.mono heX hb.size)
  refine sqv hf (r_assign rfl) rfl rfl rfl ?_; clear hf fa; intro fa hf
  apply wpList_nil
  (try simp only [Exit.then, Exit.inBlock, ↓reduceIte, Nat.reduceEqDiff])
  refine hK2 _ _ ?_
  refine wp_ret ?_
  (try simp only [Exit.then, Exit.inBlock])
  refine ret1 hf rfl rfl ?_
  exact ⟨_, rfl, X, aX, cX, rfl, hrX, hIX, hPX, hb⟩

set_option maxHeartbeats 1000000 in
set_option maxRecDepth 100000 in
theorem split1_bad (bx : Nat) (l : List MSec) (a : Option Addr) (c : Nat) (w : World) (hbx : w.heap[bx]? = some (.cells #[.slice a (joinL l).length c] 47 (0, 0))) (hl : RdS 1 (vInt .u8) w a (joinL l)) (hc : (joinL l).length ≤ c) (hcm : c ≤ maxLen) (hn : a = none → c = 0) (hm : l.length ≤ 30) (hP : ∀ x ∈ l, SecP x) (hr : riseR 0 l = false) : Calls Try.prog 132 #[(.pointer (some ⟨bx, 0, none⟩))] w fun e w' => ∃ c, e = .panicked c ∧ (Gave c ∧ Below w.heap.size w w') := by
  refine sx_enter (L := [(0, (.pointer (some ⟨bx, 0, none⟩)))]) Try.func132 rfl rfl rfl rfl (fun fa hf => ?_)
  have hb : Below w.heap.size w w := Below.refl _ _
  refine wp_seq_k (fun K1 hK1 => ?_)
  refine wp_region_lit ?_
  refine sqv hf (r_assign rfl) rfl rfl rfl ?_; clear hf fa; intro fa hf
  apply wpList_nil
  (try simp only [Exit.then, Exit.inBlock, ↓reduceIte, Nat.reduceEqDiff])
  refine hK1 _ _ ?_
  refine wp_seq_k (fun K2 hK2 => ?_)
  refine wp_region_lit ?_
  refine sqv hf (r_load (v := (.slice a ((joinL l).length) c)) rfl Try.underlying47 rfl (cell_blk hbx rfl)) rfl rfl rfl ?_; clear hf fa; intro fa hf
  refine sq_panic hf (vs := [(.slice a ((joinL l).length) c)]) rfl Try.func133 (by kernel_rfl) (by kernel_rfl) (all_bad l a c _ (RdS.ext hl hb) hc hcm hn hm hP hr) ?_; rintro c9 w1 ⟨hgv1, hkp1⟩
  replace hbx := blk_ext hbx hkp1
  replace hb := hb.trans (Below.mono hkp1 hb.size)
  exact And.intro hf.defers ⟨_, rfl, hgv1, hb⟩

set_option maxHeartbeats 1000000 in
set_option maxRecDepth 100000 in
theorem split_ok (l : List MSec) (a : Option Addr) (c : Nat) (w : World) (hl : RdS 1 (vInt .u8) w a (joinL l)) (hc : (joinL l).length ≤ c) (hcm : c ≤ maxLen) (hn : a = none → c = 0) (hm : l.length ≤ 30) (hP : ∀ x ∈ l, SecP x) (hr : riseR 0 l = true) : Calls Try.prog 88 #[(.slice a ((joinL l).length) c)] w fun e w' => ∃ v, e = .returned v ∧ ∃ (X : List MSec) (aX : Option Addr) (cX : Nat), v = .tuple #[.slice aX X.length cX, .agg #[.int .i64 0, .int .i64 0]] ∧ Row 4 vMSec 119 w.heap.size w' (.slice aX X.length cX) X ∧ SRel w.heap.size w' X ∧ X.map keyB = l.map keyB ∧ Below w.heap.size w w' := by
  refine sx_enter (L := [(0, (.slice a ((joinL l).length) c))]) Try.func88 rfl rfl rfl rfl (fun fa hf => ?_)
  have hb : Below w.heap.size w w := Below.refl _ _
  refine wp_seq_k (fun K1 hK1 => ?_)
  refine wp_region_lit ?_
  refine sqdt hf (d_box (cs := #[(.slice a ((joinL l).length) c)]) rfl rfl) rfl rfl rfl ?_; clear hf fa; rintro fa _ w1 ⟨b1, rfl, hle1, hk1, he1⟩ hf
  have hBb1 : w.heap.size ≤ b1 := Nat.le_trans hb.size hle1
  replace hb := hb.trans (Below.mono he1 hb.size)
  refine sqv hf (r_assign rfl) rfl rfl rfl ?_; clear hf fa; intro fa hf
  refine sqdt hf (d_alloc (z := (.agg #[(.int .i64 (0 : Int)), (.int .i64 (0 : Int))])) (cs := #[(.int .i64 (0 : Int)), (.int .i64 (0 : Int))]) (by kernel_rfl) rfl) rfl rfl rfl ?_; clear hf fa; rintro fa _ w2 ⟨b2, rfl, hle2, hk2, he2⟩ hf
  have hBb2 : w.heap.size ≤ b2 := Nat.le_trans hb.size hle2
  have : b1 < b2 := Nat.lt_of_lt_of_le (blk_lt hk1) hle2
  replace hk1 := blk_ext hk1 he2
  replace hb := hb.trans (Below.mono he2 hb.size)
  apply wpList_nil
  (try simp only [Exit.then, Exit.inBlock, ↓reduceIte, Nat.reduceEqDiff])
  refine hK1 _ _ ?_
  refine wp_seq_k (fun K2 hK2 => ?_)
  refine wp_region_lit ?_
  refine sqv hf (r_makeFunc (vs := [(.pointer (some ⟨b1, 0, none⟩))]) rfl) rfl rfl rfl ?_; clear hf fa; intro fa hf
  refine sqdt hf (d_callX (vs := [(.func (.func 132) #[] #[(.pointer (some ⟨b1, 0, none⟩))])]) rfl Try.func131 (by kernel_rfl) (by kernel_rfl) (val_secs 132 _ (fun X => X.map keyB = l.map keyB) _ (enters Try.func132 (by kernel_rfl) (by kernel_rfl)) (fun w1 hw1 => split1_ok b1 l a c w1 (blk_ext hk1 hw1) (RdS.ext hl (hb.trans (hw1.mono hb.size))) hc hcm hn hm hP hr))) rfl rfl rfl ?_; clear hf fa; rintro fa _ w3 ⟨X, aX, cX, rfl, hrX, hIX, hPX, heX⟩ hf
  replace hrX := Row.rebase hrX hb.size
  replace hIX := SRel.rebase hIX hb.size
  replace hk1 := blk_ext hk1 heX
  replace hk2 := blk_ext hk2 heX
  replace hb := hb.trans (Below.mono heX hb.size)
  refine sqv hf (r_extract rfl (i := 0) rfl) rfl rfl rfl ?_; clear hf fa; intro fa hf
  refine sqv hf (r_extract rfl (i := 1) rfl) rfl rfl rfl ?_; clear hf fa; intro fa hf
  refine sqv hf (r_assign rfl) rfl rfl rfl ?_; clear hf fa; intro fa hf
  refine sqn hf (d_storeK (T := 90) (v := (.agg #[(.int .i64 (0 : Int)), (.int .i64 (0 : Int))])) (cs := #[(.int .i64 (0 : Int)), (.int .i64 (0 : Int))]) (cs' := #[(.int .i64 (0 : Int)), (.int .i64 (0 : Int))]) rfl rfl (by kernel_rfl) (by kernel_rfl) hk2 (by kernel_rfl) (by kernel_rfl)) rfl rfl ?_; clear hf fa; rintro fa _ w4 ⟨hk3, hg1⟩ hf
  replace hk1 := blk_grown hk1 hg1 (by omega)
  replace hrX := Row.grown hrX hg1 (Row.ne_type hrX hk2 rfl)
  replace hIX := SRel.map hIX (fun bf cs hbf => blk_grown hbf hg1 (blk_ty hbf hk2 rfl))
  replace hb := hb.trans (grown_below hg1 hb.size hBb2)
  apply wpList_nil
  (try simp only [Exit.then, Exit.inBlock, ↓reduceIte, Nat.reduceEqDiff])
  refine hK2 _ _ ?_
  refine wp_ret ?_
  (try simp only [Exit.then, Exit.inBlock])
  refine retTC hf rfl rfl rfl hk3 Try.underlying90 rfl (by kernel_rfl) ?_
  exact ⟨_, rfl, X, aX, cX, rfl, hrX, hIX, hPX, hb⟩

set_option maxHeartbeats 1000000 in
set_option maxRecDepth 100000 in
theorem split_bad (l : List MSec) (a : Option Addr) (c : Nat) (w : World) (hl : RdS 1 (vInt .u8) w a (joinL l)) (hc : (joinL l).length ≤ c) (hcm : c ≤ maxLen) (hn : a = none → c = 0) (hm : l.length ≤ 30) (hP : ∀ x ∈ l, SecP x) (hr : riseR 0 l = false) : Calls Try.prog 88 #[(.slice a ((joinL l).length) c)] w fun e w' => ∃ u, e = .returned u ∧ ∃ why at1 : Int, u = .tuple #[.slice none 0 0, .agg #[.int .i64 why, .int .i64 at1]] ∧ why ≠ 0 ∧ Below w.heap.size w w' := by
  refine sx_enter (L := [(0, (.slice a ((joinL l).length) c))]) Try.func88 rfl rfl rfl rfl (fun fa hf => ?_)
  have hb : Below w.heap.size w w := Below.refl _ _
  refine wp_seq_k (fun K1 hK1 => ?_)
  refine wp_region_lit ?_
  refine sqdt hf (d_box (cs := #[(.slice a ((joinL l).length) c)]) rfl rfl) rfl rfl rfl ?_; clear hf fa; rintro fa _ w1 ⟨b1, rfl, hle1, hk1, he1⟩ hf
  have hBb1 : w.heap.size ≤ b1 := Nat.le_trans hb.size hle1
  replace hb := hb.trans (Below.mono he1 hb.size)
  refine sqv hf (r_assign rfl) rfl rfl rfl ?_; clear hf fa; intro fa hf
  refine sqdt hf (d_alloc (z := (.agg #[(.int .i64 (0 : Int)), (.int .i64 (0 : Int))])) (cs := #[(.int .i64 (0 : Int)), (.int .i64 (0 : Int))]) (by kernel_rfl) rfl) rfl rfl rfl ?_; clear hf fa; rintro fa _ w2 ⟨b2, rfl, hle2, hk2, he2⟩ hf
  have hBb2 : w.heap.size ≤ b2 := Nat.le_trans hb.size hle2
  have : b1 < b2 := Nat.lt_of_lt_of_le (blk_lt hk1) hle2
  replace hk1 := blk_ext hk1 he2
  replace hb := hb.trans (Below.mono he2 hb.size)
  apply wpList_nil
  (try simp only [Exit.then, Exit.inBlock, ↓reduceIte, Nat.reduceEqDiff])
  refine hK1 _ _ ?_
  refine wp_seq_k (fun K2 hK2 => ?_)
  refine wp_region_lit ?_
  refine sqv hf (r_makeFunc (vs := [(.pointer (some ⟨b1, 0, none⟩))]) rfl) rfl rfl rfl ?_; clear hf fa; intro fa hf
  refine sqdt hf (d_callX (vs := [(.func (.func 132) #[] #[(.pointer (some ⟨b1, 0, none⟩))])]) rfl Try.func131 (by kernel_rfl) (by kernel_rfl) (val_secs_bad 132 _ _ (enters Try.func132 (by kernel_rfl) (by kernel_rfl)) (fun w1 hw1 => split1_bad b1 l a c w1 (blk_ext hk1 hw1) (RdS.ext hl (hb.trans (hw1.mono hb.size))) hc hcm hn hm hP hr))) rfl rfl rfl ?_; clear hf fa; rintro fa _ w3 ⟨why, at9, rfl, hne, heX⟩ hf
  replace hk1 := blk_ext hk1 heX
  replace hk2 := blk_ext hk2 heX
  replace hb := hb.trans (Below.mono heX hb.size)
  refine sqv hf (r_extract rfl (i := 0) rfl) rfl rfl rfl ?_; clear hf fa; intro fa hf
  refine sqv hf (r_extract rfl (i := 1) rfl) rfl rfl rfl ?_; clear hf fa; intro fa hf
  refine sqv hf (r_assign rfl) rfl rfl rfl ?_; clear hf fa; intro fa hf
  refine sqn hf (d_storeK (T := 90) (v := (.agg #[(.int .i64 why), (.int .i64 at9)])) (cs := #[(.int .i64 (0 : Int)), (.int .i64 (0 : Int))]) (cs' := #[(.int .i64 why), (.int .i64 at9)]) rfl rfl (by kernel_rfl) (by kernel_rfl) hk2 (by kernel_rfl) (by kernel_rfl)) rfl rfl ?_; clear hf fa; rintro fa _ w4 ⟨hk3, hg1⟩ hf
  replace hk1 := blk_grown hk1 hg1 (by omega)
  replace hb := hb.trans (grown_below hg1 hb.size hBb2)
  apply wpList_nil
  (try simp only [Exit.then, Exit.inBlock, ↓reduceIte, Nat.reduceEqDiff])
  refine hK2 _ _ ?_
  refine wp_ret ?_
  (try simp only [Exit.then, Exit.inBlock])
  refine retTC hf rfl rfl rfl hk3 Try.underlying90 rfl (by kernel_rfl) ?_
  exact ⟨_, rfl, why, at9, rfl, hne, hb⟩

set_option maxHeartbeats 1000000 in
set_option maxRecDepth 100000 in
theorem awake09_any (w : World) : Calls Try.prog 81 #[] w fun e w' => e = .returned (.bool true) ∧ Below w.heap.size w w' := by
  refine sx_enter (L := []) Try.func81 rfl rfl rfl rfl (fun fa hf => ?_)
  have hb : Below w.heap.size w w := Below.refl _ _
  refine wp_seq_k (fun K1 hK1 => ?_)
  refine wp_region_lit ?_
  refine sqv hf (r_assign rfl) rfl rfl rfl ?_; clear hf fa; intro fa hf
  apply wpList_nil
  (try simp only [Exit.then, Exit.inBlock, ↓reduceIte, Nat.reduceEqDiff])
  refine hK1 _ _ ?_
  refine wp_seq_k (fun K2 hK2 => ?_)
  refine wp_region_lit ?_
  refine sqdt hf (d_bslice (z := (.int .u8 (0 : Int))) (sz := 1) (vs := [(0, (.int .u8 (0 : Int))), (1, (.int .u8 (97 : Int))), (2, (.int .u8 (115 : Int))), (3, (.int .u8 (109 : Int))), (4, (.int .u8 (1 : Int))), (5, (.int .u8 (0 : Int))), (6, (.int .u8 (0 : Int))), (7, (.int .u8 (0 : Int)))]) (cs := #[(.int .u8 (0 : Int)), (.int .u8 (97 : Int)), (.int .u8 (115 : Int)), (.int .u8 (109 : Int)), (.int .u8 (1 : Int)), (.int .u8 (0 : Int)), (.int .u8 (0 : Int)), (.int .u8 (0 : Int))]) rfl Try.underlying47 (by kernel_rfl) rfl (by kernel_rfl)) rfl rfl rfl ?_; clear hf fa; rintro fa _ w1 ⟨b1, rfl, hle1, hk1, he1⟩ hf
  have hBb1 : w.heap.size ≤ b1 := Nat.le_trans hb.size hle1
  replace hb := hb.trans (Below.mono he1 hb.size)
  refine sqdt hf (d_conststr rfl Try.underlying47 Try.underlying5 hk1) rfl rfl rfl ?_; clear hf fa; rintro fa _ w2 ⟨rfl, hk2, hg1⟩ hf
  replace hb := hb.trans (grown_below hg1 hb.size hBb1)
  have hrs1 : RdS 1 (vInt .u8) w2 (some ⟨b1, 0, none⟩) headL := rds_const hk2 rfl
  refine sqdt hf (d_callX (vs := [(.slice (some ⟨b1, 0, none⟩) 8 8)]) rfl Try.func88 (by kernel_rfl) (by kernel_rfl) (split_ok ([] : List MSec) (some ⟨b1, 0, none⟩) 8 _ hrs1 (by show 8 ≤ 8; omega) (by unfold maxLen; omega) (fun h => by cases h) (by show 0 ≤ 30; omega) (fun x hx => by cases hx) rfl)) rfl rfl rfl ?_; clear hf fa; rintro fa _ w3 ⟨X, aX, cX, rfl, hrX, hIX, hPX, heX⟩ hf
  replace hrX := Row.rebase hrX hb.size
  replace hIX := SRel.rebase hIX hb.size
  replace hb := hb.trans (Below.mono heX hb.size)
  have hXl : X.length = ([] : List MSec).length := by have h := congrArg List.length hPX; rw [List.length_map, List.length_map] at h; exact h
  refine sqv hf (r_move rfl) rfl rfl rfl ?_; clear hf fa; intro fa hf
  refine sqv hf (r_extract rfl (i := 0) rfl) rfl rfl rfl ?_; clear hf fa; intro fa hf
  refine sqv hf (r_extract rfl (i := 1) rfl) rfl rfl rfl ?_; clear hf fa; intro fa hf
  refine sqdt hf (d_alloc (z := (.agg #[(.int .i64 (0 : Int)), (.int .i64 (0 : Int))])) (cs := #[(.int .i64 (0 : Int)), (.int .i64 (0 : Int))]) (by kernel_rfl) rfl) rfl rfl rfl ?_; clear hf fa; rintro fa _ w4 ⟨b2, rfl, hle2, hk3, he2⟩ hf
  have hBb2 : w.heap.size ≤ b2 := Nat.le_trans hb.size hle2
  replace hrX := Row.ext hrX he2
  replace hIX := SRel.map hIX (fun bf cs hbf => blk_ext hbf he2)
  replace hb := hb.trans (Below.mono he2 hb.size)
  refine sqv hf (r_assign rfl) rfl rfl rfl ?_; clear hf fa; intro fa hf
  refine sqn hf (d_storeK (T := 90) (v := (.agg #[(.int .i64 (0 : Int)), (.int .i64 (0 : Int))])) (cs := #[(.int .i64 (0 : Int)), (.int .i64 (0 : Int))]) (cs' := #[(.int .i64 (0 : Int)), (.int .i64 (0 : Int))]) rfl rfl (by kernel_rfl) (by kernel_rfl) hk3 (by kernel_rfl) (by kernel_rfl)) rfl rfl ?_; clear hf fa; rintro fa _ w5 ⟨hk4, hg2⟩ hf
  replace hrX := Row.grown hrX hg2 (Row.ne_type hrX hk3 rfl)
  replace hIX := SRel.map hIX (fun bf cs hbf => blk_grown hbf hg2 (blk_ty hbf hk3 rfl))
  replace hb := hb.trans (grown_below hg2 hb.size hBb2)
  apply wpList_nil
  (try simp only [Exit.then, Exit.inBlock, ↓reduceIte, Nat.reduceEqDiff])
  refine hK2 _ _ ?_
  refine wp_seq_k (fun K3 hK3 => ?_)
  refine wp_region_lit ?_
  refine sqv hf (r_loadA (cs := [(.int .i64 (0 : Int)), (.int .i64 (0 : Int))]) rfl Try.underlying90 rfl (by kernel_rfl) (cellsAt_blk hk4)) rfl rfl rfl ?_; clear hf fa; intro fa hf
  refine sqv hf (r_build (vs := []) (cs := #[(.int .i64 (0 : Int)), (.int .i64 (0 : Int))]) rfl (fun _ => by kernel_rfl)) rfl rfl rfl ?_; clear hf fa; intro fa hf
  refine sqv hf (Runs.veq (r_aeq (k := 5) rfl rfl (by kernel_rfl) (eqt_struct (xs := #[(.int .i64 (0 : Int)), (.int .i64 (0 : Int))]) (ys := #[(.int .i64 (0 : Int)), (.int .i64 (0 : Int))]) Try.underlying90 (by kernel_rfl) (eqf_cons (by kernel_rfl) (fun _ => by kernel_rfl) (fun _ => by kernel_rfl) (eqt_int (kk := .i64) (a := (0 : Int)) (b := (0 : Int)) Try.underlying39) (eqf_one (by kernel_rfl) (fun _ => by kernel_rfl) (fun _ => by kernel_rfl) (eqt_int (kk := .i64) (a := (0 : Int)) (b := (0 : Int)) Try.underlying3)))) rfl) (congrArg Value.bool (show _ = true from (by simp)))) rfl rfl rfl ?_; clear hf fa; intro fa hf
  refine sqv hf (r_move rfl) rfl rfl rfl ?_; clear hf fa; intro fa hf
  refine sqgd (act := true) (g := 3) (want := true) (ag := true) (c := true) hf (by rfl) (by rfl) rfl (fun _ =>  Runs.does (R := fun vq wq => vq = (.slice aX X.length cX) ∧ w5 = wq) (r_move rfl) ⟨rfl, rfl⟩) (fun h => by cases h) rfl ?_; clear hf fa; rintro fa _ _ ⟨rfl, rfl⟩ hf
  change Fr _ _ ((13, (.slice aX X.length cX)) :: _) at hf
  refine sqgd (act := true) (g := 3) (want := true) (ag := true) (c := true) hf (by rfl) (by rfl) rfl (fun _ =>  Runs.does (R := fun vq wq => vq = (.int .i64 ((X.length : Nat) : Int)) ∧ w5 = wq) (r_lensl rfl Try.underlying116) ⟨rfl, rfl⟩) (fun h => by cases h) rfl ?_; clear hf fa; rintro fa _ _ ⟨rfl, rfl⟩ hf
  change Fr _ _ ((14, (.int .i64 ((X.length : Nat) : Int))) :: _) at hf
  refine sqgd (act := true) (g := 3) (want := true) (ag := true) (c := true) hf (by rfl) (by rfl) rfl (fun _ =>  Runs.does (R := fun vq wq => vq = (.bool true) ∧ w5 = wq) (Runs.veq (r_eq rfl rfl) (congrArg Value.bool (show _ = true from (by rw [hXl]; rfl)))) ⟨rfl, rfl⟩) (fun h => by cases h) rfl ?_; clear hf fa; rintro fa _ _ ⟨rfl, rfl⟩ hf
  change Fr _ _ ((15, (.bool true)) :: _) at hf
  refine sqv hf (r_pick (b := true) rfl rfl rfl rfl) rfl rfl rfl ?_; clear hf fa; intro fa hf
  refine sqv hf (r_move rfl) rfl rfl rfl ?_; clear hf fa; intro fa hf
  refine sqv hf (r_pick (b := true) rfl rfl rfl rfl) rfl rfl rfl ?_; clear hf fa; intro fa hf
  refine sqv hf (r_move rfl) rfl rfl rfl ?_; clear hf fa; intro fa hf
  refine sqv hf (r_pick (b := true) rfl rfl rfl rfl) rfl rfl rfl ?_; clear hf fa; intro fa hf
  refine sqv hf (r_move rfl) rfl rfl rfl ?_; clear hf fa; intro fa hf
  refine sqv hf (r_pick (b := true) rfl rfl rfl rfl) rfl rfl rfl ?_; clear hf fa; intro fa hf
  refine sqv hf (r_assign rfl) rfl rfl rfl ?_; clear hf fa; intro fa hf
  apply wpList_nil
  (try simp only [Exit.then, Exit.inBlock, ↓reduceIte, Nat.reduceEqDiff])
  refine hK3 _ _ ?_
  refine wp_ret ?_
  (try simp only [Exit.then, Exit.inBlock])
  refine ret1 hf rfl rfl ?_
  exact ⟨rfl, hb⟩
end Go.Proofs.Ytcmdajkkdognfaa

namespace Go.Proofs.Ytcmdajkkdognfaa.Ut
open Go.RowKit
set_option linter.unusedVariables false
set_option linter.unusedSimpArgs false

def strN (l : List Nat) : ByteArray := strOfNums (l.map fun (x : Nat) => (x : Int))
theorem bl_strN (l : List Nat) (h : ∀ x ∈ l, x < 256) : bl (strN l) = l := by
  unfold bl strN
  rw [strOfNums_data, List.map_map, List.map_map]
  conv => rhs; rw [← List.map_id l]
  apply List.map_congr_left
  intro x hx
  have := h x hx
  simp
  omega

theorem cell_one_row (w : World) (l : List Value) (e : TypeId) (i : Nat) : (w.alloc (.cells l.toArray e)).cell? ⟨w.heap.size, i, none⟩ = l[i]? := by
  have h : (w.alloc (.cells l.toArray e)).heap[w.heap.size]? = some (.cells l.toArray e (0, 0)) := by
    unfold World.alloc
    exact Array.getElem?_push_size
  rw [cell_of_row _ _ i _ _ _ h]
  simp

/-- A sign's bytes, as a string. -/
def encS (c : Int) : ByteArray := if c < 0 then ⟨#[]⟩ else strN (encB c.toNat)

set_option maxHeartbeats 1000000 in
set_option maxRecDepth 100000 in
theorem refBytes_any (c : Int) (w : World) (h1 : -9223372036854775808 ≤ c) (h2 : c ≤ 9223372036854775807) : Calls Try.prog 152 #[.int .i64 c] w fun e w' => e = .returned (.string (encS c)) ∧ Below w.heap.size w w' := by
  unfold encS
  by_cases h0 : c < 0
  · rw [if_pos h0]
    have t0 : decide (c < 0) = true := by simp [h0]
    go_enter Try.func152, Try.ntmps152
    go_wp2
    go_ret
    exact ⟨rfl, Below.refl _ _⟩
  · rw [if_neg h0]
    obtain ⟨n, rfl⟩ := Int.eq_ofNat_of_zero_le (show 0 ≤ c by omega)
    rw [Int.toNat_natCast]
    have t0 : decide ((n : Int) < 0) = false := by simp
    clear h0
    have hbel := fun k => (Below.refl w.heap.size w).alloc (Nat.le_refl _) (.cells k 5)
    have hcv : ∀ l : List Nat, (convert 47 9 (.slice (some ⟨w.heap.size, 0, none⟩) l.length l.length)).run Try.prog (w.alloc (.cells (l.map fun (x : Nat) => Value.int .u8 x).toArray 5)) = .ok (.string (strN l)) (w.alloc (.cells (l.map fun (x : Nat) => Value.int .u8 x).toArray 5)) := by
      intro l
      refine run_convert_bytes_arg _ 47 5 Try.underlying47 Try.underlying5 w.heap.size 0 l.length l.length (l.map fun (x : Nat) => (x : Int)) (by simp) (fun i hi => ?_) 9 Try.underlying9
      rw [Nat.zero_add, cell_one_row w _ 5 i]
      simp [hi]
    rcases encB_cases n with ⟨e, g⟩ | ⟨e, g⟩ | ⟨e, g⟩ | ⟨e, g⟩ | ⟨e, g⟩
    · rw [e]
      clear hcv
      by_cases q : 1114111 < n
      · have t1 : decide ((n : Int) > 1114111) = true := by simp; omega
        clear e g q
        go_enter Try.func152, Try.ntmps152
        go_wp2
        go_ret
        exact ⟨rfl, Below.refl _ _⟩
      · have t1 : decide ((n : Int) > 1114111) = false := by simp; omega
        have t2 : decide (55296 ≤ (n : Int)) = true := by simp; omega
        have t4 : decide ((n : Int) ≤ 57343) = true := by simp; omega
        clear e g q
        go_enter Try.func152, Try.ntmps152
        go_wp2
        go_ret
        exact ⟨rfl, Below.refl _ _⟩
    · rw [e]
      have t1 : decide ((n : Int) > 1114111) = false := by simp; omega
      have t2 : decide (55296 ≤ (n : Int)) = false := by simp; omega
      have t3 : decide ((n : Int) < 128) = true := by simp; omega
      have hc1 := hcv [n]
      simp only [List.map_cons, List.map_nil, List.length_cons, List.length_nil, Nat.zero_add, Nat.reduceAdd, Int.natCast_add, Int.natCast_ediv, Int.natCast_emod, Int.cast_ofNat_Int] at hc1
      clear hcv
      have Hb := hid hbel
      clear e hbel
      go_enter Try.func152, Try.ntmps152
      go_wp2
      go_ret
      exact ⟨rfl, Hb.out _⟩
    · rw [e]
      have t1 : decide ((n : Int) > 1114111) = false := by simp; omega
      have t2 : decide (55296 ≤ (n : Int)) = false := by simp; omega
      have t3 : decide ((n : Int) < 128) = false := by simp; omega
      have t5 : decide ((n : Int) < 2048) = true := by simp; omega
      have hc1 := hcv [192 + n / 64, 128 + n % 64]
      simp only [List.map_cons, List.map_nil, List.length_cons, List.length_nil, Nat.zero_add, Nat.reduceAdd, Int.natCast_add, Int.natCast_ediv, Int.natCast_emod, Int.cast_ofNat_Int] at hc1
      clear hcv
      have Hb := hid hbel
      clear e hbel
      go_enter Try.func152, Try.ntmps152
      go_wp2
      go_ret
      exact ⟨rfl, Hb.out _⟩
    · rw [e]
      by_cases q : 55296 ≤ n
      · have t1 : decide ((n : Int) > 1114111) = false := by simp; omega
        have t3 : decide ((n : Int) < 128) = false := by simp; omega
        have t5 : decide ((n : Int) < 2048) = false := by simp; omega
        have t6 : decide ((n : Int) < 65536) = true := by simp; omega
        have t2 : decide (55296 ≤ (n : Int)) = true := by simp; omega
        have t4 : decide ((n : Int) ≤ 57343) = false := by simp; omega
        have hc1 := hcv [224 + n / 4096, 128 + n / 64 % 64, 128 + n % 64]
        simp only [List.map_cons, List.map_nil, List.length_cons, List.length_nil, Nat.zero_add, Nat.reduceAdd, Int.natCast_add, Int.natCast_ediv, Int.natCast_emod, Int.cast_ofNat_Int] at hc1
        clear hcv
        have Hb := hid hbel
        clear e hbel
        go_enter Try.func152, Try.ntmps152
        go_wp2
        go_ret
        exact ⟨rfl, Hb.out _⟩
      · have t1 : decide ((n : Int) > 1114111) = false := by simp; omega
        have t3 : decide ((n : Int) < 128) = false := by simp; omega
        have t5 : decide ((n : Int) < 2048) = false := by simp; omega
        have t6 : decide ((n : Int) < 65536) = true := by simp; omega
        have t2 : decide (55296 ≤ (n : Int)) = false := by simp; omega
        have hc1 := hcv [224 + n / 4096, 128 + n / 64 % 64, 128 + n % 64]
        simp only [List.map_cons, List.map_nil, List.length_cons, List.length_nil, Nat.zero_add, Nat.reduceAdd, Int.natCast_add, Int.natCast_ediv, Int.natCast_emod, Int.cast_ofNat_Int] at hc1
        clear hcv
        have Hb := hid hbel
        clear e hbel
        go_enter Try.func152, Try.ntmps152
        go_wp2
        go_ret
        exact ⟨rfl, Hb.out _⟩
    · rw [e]
      have t1 : decide ((n : Int) > 1114111) = false := by simp; omega
      have t3 : decide ((n : Int) < 128) = false := by simp; omega
      have t5 : decide ((n : Int) < 2048) = false := by simp; omega
      have t6 : decide ((n : Int) < 65536) = false := by simp; omega
      have t2 : decide (55296 ≤ (n : Int)) = true := by simp; omega
      have t4 : decide ((n : Int) ≤ 57343) = false := by simp; omega
      have hc1 := hcv [240 + n / 262144, 128 + n / 4096 % 64, 128 + n / 64 % 64, 128 + n % 64]
      simp only [List.map_cons, List.map_nil, List.length_cons, List.length_nil, Nat.zero_add, Nat.reduceAdd, Int.natCast_add, Int.natCast_ediv, Int.natCast_emod, Int.cast_ofNat_Int] at hc1
      clear hcv
      have Hb := hid hbel
      clear e hbel
      go_enter Try.func152, Try.ntmps152
      go_wp2
      go_ret
      exact ⟨rfl, Hb.out _⟩
end Go.Proofs.Ytcmdajkkdognfaa.Ut

namespace Go.Proofs.Ytcmdajkkdognfaa.Ut
open Go.RowKit
set_option linter.unusedVariables false
set_option linter.unusedSimpArgs false

theorem encS_nat (n : Nat) : encS (n : Int) = strN (encB n) := by unfold encS; rw [if_neg (by omega)]; rfl

def postsRF (s : ByteArray) (u n : Nat) (q : Bool) : List (Value → World → Prop) := [
    fun x _ => x = .int .i64 u,
    fun x _ => x = .string (strN (encB u)),
    fun x _ => x = .string s,
    fun x _ => x = .int .i64 n,
    fun x _ => x = .string (s.extract 0 n),
    fun x _ => x = .bool q]

theorem refV_lt (l : List Nat) (h : ∀ x ∈ l, x < 256) (n : Nat) : ∀ k, refV l n k < 256 * 64 ^ k
  | 0 => by
    have h0 : l.getD 0 0 < 256 := by
      by_cases hl : 0 < l.length
      · rw [List.getD_eq_getElem?_getD, List.getElem?_eq_getElem hl]; exact h _ (List.getElem_mem hl)
      · rw [List.getD_eq_getElem?_getD, List.getElem?_eq_none (by omega)]; simp
    simp only [refV, Nat.pow_zero, Nat.mul_one]
    split
    · exact h0
    · exact Nat.lt_of_le_of_lt (Nat.mod_le _ _) h0
  | k + 1 => by
    have := refV_lt l h n k
    simp only [refV, Nat.pow_succ]
    have h2 : l.getD (k + 1) 0 % 64 < 64 := Nat.mod_lt _ (by decide)
    omega

theorem str_toList (s t : ByteArray) : (s.toList == t.toList) = decide (s = t) := by
  rw [ByteArray.toList_eq, ByteArray.toList_eq]
  cases s; cases t
  rename_i a b
  by_cases h : a = b
  · subst h; simp
  · have h2 : a.toList ≠ b.toList := fun e => h (Array.ext' e)
    simp [h]

theorem str_eq (s : ByteArray) (L : List Nat) (n : Nat) (hL : ∀ x ∈ L, x < 256) (hn : n ≤ s.size) : ((strN L).toList == (s.extract 0 n).toList) = decide (L = (bl s).take n) := by
  have hb : bl (s.extract 0 n) = (bl s).take n := by
    unfold bl
    rw [← List.map_take]
    congr 1
    rw [ByteArray.data_extract, Array.toList_extract]
    rw [List.extract_eq_take_drop]
    rfl
  rw [str_toList]
  by_cases h : L = (bl s).take n
  · rw [decide_eq_true h]
    exact decide_eq_true (bl_inj (by rw [bl_strN L hL, hb, h]))
  · rw [decide_eq_false h]
    exact decide_eq_false (fun e => h (by rw [← hb, ← e, bl_strN L hL]))

set_option maxHeartbeats 4000000 in
set_option maxRecDepth 100000 in
theorem refFirst_any (s : ByteArray) (w : World) (hs : s.size ≤ 1000000) : Calls Try.prog 129 #[.string s] w fun e w' => e = .returned (.tuple #[.int .i64 (firstP (bl s)).1, .int .i64 (firstP (bl s)).2]) ∧ Below w.heap.size w w' := by
  rw [first_eq _ (bl_lt s), try_eq]
  have hll := bl_length s
  have hlt := bl_lt s
  obtain ⟨l, hl⟩ : ∃ l, bl s = l := ⟨_, rfl⟩
  obtain ⟨p, hp⟩ : ∃ p, tryF (bl s) 1 4 = p := ⟨_, rfl⟩
  rw [hp]
  rw [hl] at hll hlt hp
  have Hl := hid hl; have Hlt := hid hlt; have Hp := hid hp
  have hby : ∀ j (h : j < s.size), (s[j]'h).toNat = l.getD j 0 := by
    intro j h
    have h2 : j < s.data.toList.length := by rw [Array.length_toList]; exact h
    rw [← Hl.out, bl_getD s j h, List.getD_eq_getElem?_getD, List.getElem?_eq_getElem h2]
    rfl
  have Hby := hid hby
  have hlt0 : ∀ j, l.getD j 0 < 256 := by
    intro j
    by_cases hj : j < l.length
    · rw [List.getD_eq_getElem?_getD, List.getElem?_eq_getElem hj]; exact hlt _ (List.getElem_mem hj)
    · rw [List.getD_eq_getElem?_getD, List.getElem?_eq_none (by omega)]; simp
  have Hlt0 := hid hlt0
  have Hrl := hid (refV_lt l hlt)
  clear hl hlt hp hby hlt0
  go_enter Try.func129, Try.ntmps129
  go_wp2
  go_loopw [4, 5, 6] (fun n _ _ wr => ∃ k : Nat, n = .int .i64 (k + 1 : Nat) ∧ k ≤ 4 ∧ Below w.heap.size w wr ∧ Hid (tryF l (k + 1) (4 - k) = p)) (fun n _ _ _ => 6 - (intOf n).toNat)
  case atStart => exact ⟨0, rfl, by omega, Below.refl _ _, Hp⟩
  case round =>
    obtain ⟨k, rfl, hk4, hb, Hq⟩ := hrel
    obtain ⟨wo, rfl⟩ : ∃ wo : World, wo = wr := ⟨_, rfl⟩
    by_cases hks : k + 1 ≤ s.size ∧ k < 4
    · have hsz := hks.1
      rcases (by omega : k = 0 ∨ k = 1 ∨ k = 2 ∨ k = 3) with rfl | rfl | rfl | rfl
      all_goals clear hks hk4
      · have h0 := Hby.out 0 (by omega)
        have hx0 := Hlt0.out 0
        have hv0 : refV l 1 0 = l.getD 0 0 := rfl
        rw [← hv0] at h0 hx0
        clear hv0
        have Hx0 := hid hx0
        go_wp2
        go_loop [5, 6] (fun v i => i = .int .i64 1 ∧ v = .int .i64 (refV l 1 0 : Nat)) (fun _ _ => 0)
        case atStart => exact ⟨rfl, rfl⟩
        case round =>
          obtain ⟨rfl, rfl⟩ := hrel
          have hq0 := str_eq s (encB (refV l 1 0)) 1 (encB_lt _) hsz
          rw [Hl.out] at hq0
          obtain ⟨q, hqd⟩ : ∃ q : Bool, decide (encB (refV l 1 0) = l.take 1) = q := ⟨_, rfl⟩
          rw [hqd] at hq0
          have hu := Hrl.out 1 0
          have Hq2 : Hid (p = if q = true then (refV l 1 0, 1) else tryF l (1 + 1) (4 - 1)) := hid (by
            have := Hq.out
            rw [tryF, if_pos (by omega)] at this
            rw [← this, show 1 - 1 = 0 from rfl]
            by_cases hh : encB (refV l 1 0) = l.take 1
            · rw [if_pos hh, ← hqd, decide_eq_true hh, if_pos rfl]
            · rw [if_neg hh, ← hqd, decide_eq_false hh, if_neg (by simp)])
          have Hq := hid hq0
          clear hq0 hqd
          generalize refV l 1 0 = u at *
          go_wp2
          refine wp_region_rg (fun w' => Below wo.heap.size wo w') (fun w w' => Below w.heap.size w w') (postsRF s u 1 q)
              [[], [0], [], [], [2, 3], [1, 4]]
              49 (by kernel_rfl) rfl (by kernel_rfl) rfl ?rg0 ?rgC ?rgP ?rgS ?rgQ
          case rgP => exact ⟨kept_eq, kept_eq, kept_eq, kept_eq, kept_eq, kept_eq, trivial⟩
          case rgS =>
            intro V
            refine rgGoals_cons 1 (by intro v; simp only [Act.put, List.setIfInBounds_toArray, List.set_cons_zero, List.set_cons_succ]; exact rfl) rfl (fun w hC hd K hK => ?_) ?_
            · clear hd
              go_simp; exact hK _ _ (Below.refl _ _) rfl
            refine rgGoals_cons 2 (by intro v; simp only [Act.put, List.setIfInBounds_toArray, List.set_cons_zero, List.set_cons_succ]; exact rfl) rfl (fun w hC hd K hK => ?_) ?_
            · obtain ⟨h0, _⟩ := hd
              replace h0 : V 0 = .int .i64 u := h0
              simp only [h0] at hK
              go_simp
              refine (refBytes_any u w (by omega) (by omega)).mono ?_
              rintro e w' ⟨rfl, hb'⟩
              rw [encS_nat]
              exact hK _ _ hb' rfl
            refine rgGoals_cons 3 (by intro v; simp only [Act.put, List.setIfInBounds_toArray, List.set_cons_zero, List.set_cons_succ]; exact rfl) rfl (fun w hC hd K hK => ?_) ?_
            · clear hd
              go_simp; exact hK _ _ (Below.refl _ _) rfl
            refine rgGoals_cons 4 (by intro v; simp only [Act.put, List.setIfInBounds_toArray, List.set_cons_zero, List.set_cons_succ]; exact rfl) rfl (fun w hC hd K hK => ?_) ?_
            · clear hd
              go_simp; exact hK _ _ (Below.refl _ _) rfl
            refine rgGoals_cons 5 (by intro v; simp only [Act.put, List.setIfInBounds_toArray, List.set_cons_zero, List.set_cons_succ]; exact rfl) rfl (fun w hC hd K hK => ?_) ?_
            · obtain ⟨h2, h3, _⟩ := hd
              replace h2 : V 2 = .string s := h2
              replace h3 : V 3 = .int .i64 1 := h3
              simp only [h2, h3] at hK
              have hns : (1 : Int) ≤ s.size := by omega
              have hn0 : (0 : Int) ≤ 1 := by omega
              go_simp
              exact hK _ _ (Below.refl _ _) rfl
            refine rgGoals_cons 6 (by intro v; simp only [Act.put, List.setIfInBounds_toArray, List.set_cons_zero, List.set_cons_succ]; exact rfl) rfl (fun w hC hd K hK => ?_) ?_
            · obtain ⟨h1, h4, _⟩ := hd
              replace h1 : V 1 = .string (strN (encB u)) := h1
              replace h4 : V 4 = .string (s.extract 0 1) := h4
              simp only [h1, h4] at hK
              go_simp
              rw [Hq.out]
              exact hK _ _ (Below.refl _ _) rfl
            trivial
          case rg0 => exact below_drewN (Below.refl _ _) 1
          case rgC => intro a b h1 h2; exact h1.trans (h2.mono h1.size)
          case rgQ =>
            intro V wu hC hp
            have h5 : V 5 = .bool q := postsHold_at hp 5 rfl
            simp only [putAll, Act.put, List.setIfInBounds_toArray, List.set_cons_zero, List.set_cons_succ]
            simp only [Nat.reduceAdd, h5]
            have HC := hid (hb.trans (hC.mono hb.size))
            clear hC hp h5
            cases q with
            | true =>
              have hpe := Hq2.out
              rw [if_pos rfl] at hpe
              subst hpe
              go_wp2
              go_ret2
              exact ⟨rfl, HC.out⟩
            | false =>
              have hpe := Hq2.out
              rw [if_neg (by simp)] at hpe
              have Hpe := hid hpe
              clear hpe
              go_wp2
              go_roundw
              case rel => exact ⟨1, rfl, by omega, HC.out, hid Hpe.out.symm⟩
              case measure => simp [intOf]
      · have h0 := Hby.out 0 (by omega)
        have hx0 := Hlt0.out 0
        have hv0 : refV l 2 0 = l.getD 0 0 % 32 := rfl
        have Hv0 := hid hv0
        generalize l.getD 0 0 = x0 at *
        clear hv0
        go_wp2
        go_loop [5, 6] (fun v i => ∃ j : Nat, j ≤ 1 ∧ i = .int .i64 (j + 1 : Nat) ∧ v = .int .i64 (refV l 2 j : Nat)) (fun _ i => 2 - (intOf i).toNat)
        case atStart => exact ⟨0, by omega, rfl, by rw [Hv0.out]; simp⟩
        case round =>
          obtain ⟨j, hj, rfl, rfl⟩ := hrel
          by_cases hjk : j < 1
          · have h1 := Hby.out (j + 1) (by omega)
            have hx1 := Hlt0.out (j + 1)
            have hvs : refV l 2 (j + 1) = refV l 2 j * 64 + l.getD (j + 1) 0 % 64 := rfl
            have hub := Hrl.out 2 j
            have hp3 : 64 ^ j ≤ 64 ^ 3 := Nat.pow_le_pow_right (by decide) (by omega)
            have hub2 : refV l 2 j < 100000000 := by omega
            generalize l.getD (j + 1) 0 = y at *
            have Hvs := hid hvs
            clear hvs hub hp3
            generalize refV l 2 j = u at *
            go_wp2
            go_round
            case rel => exact ⟨j + 1, by omega, by go_num, by rw [Hvs.out]; simp⟩
            case measure => simp [intOf]; omega
          · obtain rfl : j = 1 := by omega
            have hq0 := str_eq s (encB (refV l 2 1)) 2 (encB_lt _) hsz
            rw [Hl.out] at hq0
            obtain ⟨q, hqd⟩ : ∃ q : Bool, decide (encB (refV l 2 1) = l.take 2) = q := ⟨_, rfl⟩
            rw [hqd] at hq0
            have hu := Hrl.out 2 1
            have Hq2 : Hid (p = if q = true then (refV l 2 1, 2) else tryF l (2 + 1) (4 - 2)) := hid (by
              have := Hq.out
              rw [tryF, if_pos (by omega)] at this
              rw [← this, show 2 - 1 = 1 from rfl]
              by_cases hh : encB (refV l 2 1) = l.take 2
              · rw [if_pos hh, ← hqd, decide_eq_true hh, if_pos rfl]
              · rw [if_neg hh, ← hqd, decide_eq_false hh, if_neg (by simp)])
            have Hq := hid hq0
            clear hq0 hqd
            generalize refV l 2 1 = u at *
            go_wp2
            refine wp_region_rg (fun w' => Below wo.heap.size wo w') (fun w w' => Below w.heap.size w w') (postsRF s u 2 q)
                [[], [0], [], [], [2, 3], [1, 4]]
                49 (by kernel_rfl) rfl (by kernel_rfl) rfl ?rg0 ?rgC ?rgP ?rgS ?rgQ
            case rgP => exact ⟨kept_eq, kept_eq, kept_eq, kept_eq, kept_eq, kept_eq, trivial⟩
            case rgS =>
              intro V
              refine rgGoals_cons 1 (by intro v; simp only [Act.put, List.setIfInBounds_toArray, List.set_cons_zero, List.set_cons_succ]; exact rfl) rfl (fun w hC hd K hK => ?_) ?_
              · clear hd
                go_simp; exact hK _ _ (Below.refl _ _) rfl
              refine rgGoals_cons 2 (by intro v; simp only [Act.put, List.setIfInBounds_toArray, List.set_cons_zero, List.set_cons_succ]; exact rfl) rfl (fun w hC hd K hK => ?_) ?_
              · obtain ⟨h0, _⟩ := hd
                replace h0 : V 0 = .int .i64 u := h0
                simp only [h0] at hK
                go_simp
                refine (refBytes_any u w (by omega) (by omega)).mono ?_
                rintro e w' ⟨rfl, hb'⟩
                rw [encS_nat]
                exact hK _ _ hb' rfl
              refine rgGoals_cons 3 (by intro v; simp only [Act.put, List.setIfInBounds_toArray, List.set_cons_zero, List.set_cons_succ]; exact rfl) rfl (fun w hC hd K hK => ?_) ?_
              · clear hd
                go_simp; exact hK _ _ (Below.refl _ _) rfl
              refine rgGoals_cons 4 (by intro v; simp only [Act.put, List.setIfInBounds_toArray, List.set_cons_zero, List.set_cons_succ]; exact rfl) rfl (fun w hC hd K hK => ?_) ?_
              · clear hd
                go_simp; exact hK _ _ (Below.refl _ _) rfl
              refine rgGoals_cons 5 (by intro v; simp only [Act.put, List.setIfInBounds_toArray, List.set_cons_zero, List.set_cons_succ]; exact rfl) rfl (fun w hC hd K hK => ?_) ?_
              · obtain ⟨h2, h3, _⟩ := hd
                replace h2 : V 2 = .string s := h2
                replace h3 : V 3 = .int .i64 2 := h3
                simp only [h2, h3] at hK
                have hns : (2 : Int) ≤ s.size := by omega
                have hn0 : (0 : Int) ≤ 2 := by omega
                go_simp
                exact hK _ _ (Below.refl _ _) rfl
              refine rgGoals_cons 6 (by intro v; simp only [Act.put, List.setIfInBounds_toArray, List.set_cons_zero, List.set_cons_succ]; exact rfl) rfl (fun w hC hd K hK => ?_) ?_
              · obtain ⟨h1, h4, _⟩ := hd
                replace h1 : V 1 = .string (strN (encB u)) := h1
                replace h4 : V 4 = .string (s.extract 0 2) := h4
                simp only [h1, h4] at hK
                go_simp
                rw [Hq.out]
                exact hK _ _ (Below.refl _ _) rfl
              trivial
            case rg0 => exact below_drewN (Below.refl _ _) 1
            case rgC => intro a b h1 h2; exact h1.trans (h2.mono h1.size)
            case rgQ =>
              intro V wu hC hp
              have h5 : V 5 = .bool q := postsHold_at hp 5 rfl
              simp only [putAll, Act.put, List.setIfInBounds_toArray, List.set_cons_zero, List.set_cons_succ]
              simp only [Nat.reduceAdd, h5]
              have HC := hid (hb.trans (hC.mono hb.size))
              clear hC hp h5
              cases q with
              | true =>
                have hpe := Hq2.out
                rw [if_pos rfl] at hpe
                subst hpe
                go_wp2
                go_ret2
                exact ⟨rfl, HC.out⟩
              | false =>
                have hpe := Hq2.out
                rw [if_neg (by simp)] at hpe
                have Hpe := hid hpe
                clear hpe
                go_wp2
                go_roundw
                case rel => exact ⟨2, rfl, by omega, HC.out, hid Hpe.out.symm⟩
                case measure => simp [intOf]
      · have h0 := Hby.out 0 (by omega)
        have hx0 := Hlt0.out 0
        have hv0 : refV l 3 0 = l.getD 0 0 % 16 := rfl
        have Hv0 := hid hv0
        generalize l.getD 0 0 = x0 at *
        clear hv0
        go_wp2
        go_loop [5, 6] (fun v i => ∃ j : Nat, j ≤ 2 ∧ i = .int .i64 (j + 1 : Nat) ∧ v = .int .i64 (refV l 3 j : Nat)) (fun _ i => 3 - (intOf i).toNat)
        case atStart => exact ⟨0, by omega, rfl, by rw [Hv0.out]; simp⟩
        case round =>
          obtain ⟨j, hj, rfl, rfl⟩ := hrel
          by_cases hjk : j < 2
          · have h1 := Hby.out (j + 1) (by omega)
            have hx1 := Hlt0.out (j + 1)
            have hvs : refV l 3 (j + 1) = refV l 3 j * 64 + l.getD (j + 1) 0 % 64 := rfl
            have hub := Hrl.out 3 j
            have hp3 : 64 ^ j ≤ 64 ^ 3 := Nat.pow_le_pow_right (by decide) (by omega)
            have hub2 : refV l 3 j < 100000000 := by omega
            generalize l.getD (j + 1) 0 = y at *
            have Hvs := hid hvs
            clear hvs hub hp3
            generalize refV l 3 j = u at *
            go_wp2
            go_round
            case rel => exact ⟨j + 1, by omega, by go_num, by rw [Hvs.out]; simp⟩
            case measure => simp [intOf]; omega
          · obtain rfl : j = 2 := by omega
            have hq0 := str_eq s (encB (refV l 3 2)) 3 (encB_lt _) hsz
            rw [Hl.out] at hq0
            obtain ⟨q, hqd⟩ : ∃ q : Bool, decide (encB (refV l 3 2) = l.take 3) = q := ⟨_, rfl⟩
            rw [hqd] at hq0
            have hu := Hrl.out 3 2
            have Hq2 : Hid (p = if q = true then (refV l 3 2, 3) else tryF l (3 + 1) (4 - 3)) := hid (by
              have := Hq.out
              rw [tryF, if_pos (by omega)] at this
              rw [← this, show 3 - 1 = 2 from rfl]
              by_cases hh : encB (refV l 3 2) = l.take 3
              · rw [if_pos hh, ← hqd, decide_eq_true hh, if_pos rfl]
              · rw [if_neg hh, ← hqd, decide_eq_false hh, if_neg (by simp)])
            have Hq := hid hq0
            clear hq0 hqd
            generalize refV l 3 2 = u at *
            go_wp2
            refine wp_region_rg (fun w' => Below wo.heap.size wo w') (fun w w' => Below w.heap.size w w') (postsRF s u 3 q)
                [[], [0], [], [], [2, 3], [1, 4]]
                49 (by kernel_rfl) rfl (by kernel_rfl) rfl ?rg0 ?rgC ?rgP ?rgS ?rgQ
            case rgP => exact ⟨kept_eq, kept_eq, kept_eq, kept_eq, kept_eq, kept_eq, trivial⟩
            case rgS =>
              intro V
              refine rgGoals_cons 1 (by intro v; simp only [Act.put, List.setIfInBounds_toArray, List.set_cons_zero, List.set_cons_succ]; exact rfl) rfl (fun w hC hd K hK => ?_) ?_
              · clear hd
                go_simp; exact hK _ _ (Below.refl _ _) rfl
              refine rgGoals_cons 2 (by intro v; simp only [Act.put, List.setIfInBounds_toArray, List.set_cons_zero, List.set_cons_succ]; exact rfl) rfl (fun w hC hd K hK => ?_) ?_
              · obtain ⟨h0, _⟩ := hd
                replace h0 : V 0 = .int .i64 u := h0
                simp only [h0] at hK
                go_simp
                refine (refBytes_any u w (by omega) (by omega)).mono ?_
                rintro e w' ⟨rfl, hb'⟩
                rw [encS_nat]
                exact hK _ _ hb' rfl
              refine rgGoals_cons 3 (by intro v; simp only [Act.put, List.setIfInBounds_toArray, List.set_cons_zero, List.set_cons_succ]; exact rfl) rfl (fun w hC hd K hK => ?_) ?_
              · clear hd
                go_simp; exact hK _ _ (Below.refl _ _) rfl
              refine rgGoals_cons 4 (by intro v; simp only [Act.put, List.setIfInBounds_toArray, List.set_cons_zero, List.set_cons_succ]; exact rfl) rfl (fun w hC hd K hK => ?_) ?_
              · clear hd
                go_simp; exact hK _ _ (Below.refl _ _) rfl
              refine rgGoals_cons 5 (by intro v; simp only [Act.put, List.setIfInBounds_toArray, List.set_cons_zero, List.set_cons_succ]; exact rfl) rfl (fun w hC hd K hK => ?_) ?_
              · obtain ⟨h2, h3, _⟩ := hd
                replace h2 : V 2 = .string s := h2
                replace h3 : V 3 = .int .i64 3 := h3
                simp only [h2, h3] at hK
                have hns : (3 : Int) ≤ s.size := by omega
                have hn0 : (0 : Int) ≤ 3 := by omega
                go_simp
                exact hK _ _ (Below.refl _ _) rfl
              refine rgGoals_cons 6 (by intro v; simp only [Act.put, List.setIfInBounds_toArray, List.set_cons_zero, List.set_cons_succ]; exact rfl) rfl (fun w hC hd K hK => ?_) ?_
              · obtain ⟨h1, h4, _⟩ := hd
                replace h1 : V 1 = .string (strN (encB u)) := h1
                replace h4 : V 4 = .string (s.extract 0 3) := h4
                simp only [h1, h4] at hK
                go_simp
                rw [Hq.out]
                exact hK _ _ (Below.refl _ _) rfl
              trivial
            case rg0 => exact below_drewN (Below.refl _ _) 1
            case rgC => intro a b h1 h2; exact h1.trans (h2.mono h1.size)
            case rgQ =>
              intro V wu hC hp
              have h5 : V 5 = .bool q := postsHold_at hp 5 rfl
              simp only [putAll, Act.put, List.setIfInBounds_toArray, List.set_cons_zero, List.set_cons_succ]
              simp only [Nat.reduceAdd, h5]
              have HC := hid (hb.trans (hC.mono hb.size))
              clear hC hp h5
              cases q with
              | true =>
                have hpe := Hq2.out
                rw [if_pos rfl] at hpe
                subst hpe
                go_wp2
                go_ret2
                exact ⟨rfl, HC.out⟩
              | false =>
                have hpe := Hq2.out
                rw [if_neg (by simp)] at hpe
                have Hpe := hid hpe
                clear hpe
                go_wp2
                go_roundw
                case rel => exact ⟨3, rfl, by omega, HC.out, hid Hpe.out.symm⟩
                case measure => simp [intOf]
      · have h0 := Hby.out 0 (by omega)
        have hx0 := Hlt0.out 0
        have hv0 : refV l 4 0 = l.getD 0 0 % 8 := rfl
        have Hv0 := hid hv0
        generalize l.getD 0 0 = x0 at *
        clear hv0
        go_wp2
        go_loop [5, 6] (fun v i => ∃ j : Nat, j ≤ 3 ∧ i = .int .i64 (j + 1 : Nat) ∧ v = .int .i64 (refV l 4 j : Nat)) (fun _ i => 4 - (intOf i).toNat)
        case atStart => exact ⟨0, by omega, rfl, by rw [Hv0.out]; simp⟩
        case round =>
          obtain ⟨j, hj, rfl, rfl⟩ := hrel
          by_cases hjk : j < 3
          · have h1 := Hby.out (j + 1) (by omega)
            have hx1 := Hlt0.out (j + 1)
            have hvs : refV l 4 (j + 1) = refV l 4 j * 64 + l.getD (j + 1) 0 % 64 := rfl
            have hub := Hrl.out 4 j
            have hp3 : 64 ^ j ≤ 64 ^ 3 := Nat.pow_le_pow_right (by decide) (by omega)
            have hub2 : refV l 4 j < 100000000 := by omega
            generalize l.getD (j + 1) 0 = y at *
            have Hvs := hid hvs
            clear hvs hub hp3
            generalize refV l 4 j = u at *
            go_wp2
            go_round
            case rel => exact ⟨j + 1, by omega, by go_num, by rw [Hvs.out]; simp⟩
            case measure => simp [intOf]; omega
          · obtain rfl : j = 3 := by omega
            have hq0 := str_eq s (encB (refV l 4 3)) 4 (encB_lt _) hsz
            rw [Hl.out] at hq0
            obtain ⟨q, hqd⟩ : ∃ q : Bool, decide (encB (refV l 4 3) = l.take 4) = q := ⟨_, rfl⟩
            rw [hqd] at hq0
            have hu := Hrl.out 4 3
            have Hq2 : Hid (p = if q = true then (refV l 4 3, 4) else tryF l (4 + 1) (4 - 4)) := hid (by
              have := Hq.out
              rw [tryF, if_pos (by omega)] at this
              rw [← this, show 4 - 1 = 3 from rfl]
              by_cases hh : encB (refV l 4 3) = l.take 4
              · rw [if_pos hh, ← hqd, decide_eq_true hh, if_pos rfl]
              · rw [if_neg hh, ← hqd, decide_eq_false hh, if_neg (by simp)])
            have Hq := hid hq0
            clear hq0 hqd
            generalize refV l 4 3 = u at *
            go_wp2
            refine wp_region_rg (fun w' => Below wo.heap.size wo w') (fun w w' => Below w.heap.size w w') (postsRF s u 4 q)
                [[], [0], [], [], [2, 3], [1, 4]]
                49 (by kernel_rfl) rfl (by kernel_rfl) rfl ?rg0 ?rgC ?rgP ?rgS ?rgQ
            case rgP => exact ⟨kept_eq, kept_eq, kept_eq, kept_eq, kept_eq, kept_eq, trivial⟩
            case rgS =>
              intro V
              refine rgGoals_cons 1 (by intro v; simp only [Act.put, List.setIfInBounds_toArray, List.set_cons_zero, List.set_cons_succ]; exact rfl) rfl (fun w hC hd K hK => ?_) ?_
              · clear hd
                go_simp; exact hK _ _ (Below.refl _ _) rfl
              refine rgGoals_cons 2 (by intro v; simp only [Act.put, List.setIfInBounds_toArray, List.set_cons_zero, List.set_cons_succ]; exact rfl) rfl (fun w hC hd K hK => ?_) ?_
              · obtain ⟨h0, _⟩ := hd
                replace h0 : V 0 = .int .i64 u := h0
                simp only [h0] at hK
                go_simp
                refine (refBytes_any u w (by omega) (by omega)).mono ?_
                rintro e w' ⟨rfl, hb'⟩
                rw [encS_nat]
                exact hK _ _ hb' rfl
              refine rgGoals_cons 3 (by intro v; simp only [Act.put, List.setIfInBounds_toArray, List.set_cons_zero, List.set_cons_succ]; exact rfl) rfl (fun w hC hd K hK => ?_) ?_
              · clear hd
                go_simp; exact hK _ _ (Below.refl _ _) rfl
              refine rgGoals_cons 4 (by intro v; simp only [Act.put, List.setIfInBounds_toArray, List.set_cons_zero, List.set_cons_succ]; exact rfl) rfl (fun w hC hd K hK => ?_) ?_
              · clear hd
                go_simp; exact hK _ _ (Below.refl _ _) rfl
              refine rgGoals_cons 5 (by intro v; simp only [Act.put, List.setIfInBounds_toArray, List.set_cons_zero, List.set_cons_succ]; exact rfl) rfl (fun w hC hd K hK => ?_) ?_
              · obtain ⟨h2, h3, _⟩ := hd
                replace h2 : V 2 = .string s := h2
                replace h3 : V 3 = .int .i64 4 := h3
                simp only [h2, h3] at hK
                have hns : (4 : Int) ≤ s.size := by omega
                have hn0 : (0 : Int) ≤ 4 := by omega
                go_simp
                exact hK _ _ (Below.refl _ _) rfl
              refine rgGoals_cons 6 (by intro v; simp only [Act.put, List.setIfInBounds_toArray, List.set_cons_zero, List.set_cons_succ]; exact rfl) rfl (fun w hC hd K hK => ?_) ?_
              · obtain ⟨h1, h4, _⟩ := hd
                replace h1 : V 1 = .string (strN (encB u)) := h1
                replace h4 : V 4 = .string (s.extract 0 4) := h4
                simp only [h1, h4] at hK
                go_simp
                rw [Hq.out]
                exact hK _ _ (Below.refl _ _) rfl
              trivial
            case rg0 => exact below_drewN (Below.refl _ _) 1
            case rgC => intro a b h1 h2; exact h1.trans (h2.mono h1.size)
            case rgQ =>
              intro V wu hC hp
              have h5 : V 5 = .bool q := postsHold_at hp 5 rfl
              simp only [putAll, Act.put, List.setIfInBounds_toArray, List.set_cons_zero, List.set_cons_succ]
              simp only [Nat.reduceAdd, h5]
              have HC := hid (hb.trans (hC.mono hb.size))
              clear hC hp h5
              cases q with
              | true =>
                have hpe := Hq2.out
                rw [if_pos rfl] at hpe
                subst hpe
                go_wp2
                go_ret2
                exact ⟨rfl, HC.out⟩
              | false =>
                have hpe := Hq2.out
                rw [if_neg (by simp)] at hpe
                have Hpe := hid hpe
                clear hpe
                go_wp2
                go_roundw
                case rel => exact ⟨4, rfl, by omega, HC.out, hid Hpe.out.symm⟩
                case measure => simp [intOf]
    · have hpe : p = (0, 0) := by
        rw [← Hq.out]
        by_cases hk : k < 4
        · rw [show 4 - k = (3 - k) + 1 by omega, tryF, if_neg (by omega)]
        · rw [show 4 - k = 0 by omega, tryF]
      subst hpe
      by_cases hk : k < 4
      · have t1 : decide ((k : Int) + 1 ≤ 4) = true := by simp; omega
        have t2 : decide ((k : Int) + 1 ≤ s.size) = false := by simp; omega
        clear hks Hq Hp
        go_wp2
        go_ret2
        exact ⟨rfl, hb⟩
      · have t1 : decide ((k : Int) + 1 ≤ 4) = false := by simp; omega
        clear hks Hq Hp
        go_wp2
        go_ret2
        exact ⟨rfl, hb⟩
theorem bl_drop (s : ByteArray) (n : Nat) : bl (s.extract n s.size) = (bl s).drop n := by
  unfold bl
  rw [← List.map_drop]
  congr 1
  rw [ByteArray.data_extract, Array.toList_extract, List.extract_eq_take_drop]
  rw [List.take_of_length_le]
  rw [List.length_drop, Array.length_toList]
  exact Nat.le_refl _

theorem size_drop (s : ByteArray) (n : Nat) : (s.extract n s.size).size = s.size - n := by rw [← bl_length, bl_drop, List.length_drop, bl_length]

set_option maxHeartbeats 1000000 in
set_option maxRecDepth 100000 in
theorem refCount_any (s : ByteArray) (w : World) (hs : s.size ≤ 1000000) : Calls Try.prog 84 #[.string s] w fun e w' => e = .returned (.int .i64 (cnt (bl s))) ∧ Below w.heap.size w w' := by
  go_enter Try.func84, Try.ntmps84
  go_wp2
  go_loopw [0, 3, 4, 5] (fun v k _ _ wr => ∃ (r : ByteArray) (q : Nat), v = .string r ∧ r.size + q ≤ s.size ∧ k = .int .i64 q ∧ Below w.heap.size w wr ∧ Hid (cnt (bl s) = if cnt (bl r) < 0 then -1 else cnt (bl r) + q)) (fun v _ _ _ _ => lenOfV v)
  case atStart => exact ⟨s, 0, rfl, by simp, rfl, Below.refl _ _, hid (by have := cnt_ge (bl s); split <;> omega)⟩
  case round =>
    obtain ⟨r, q, rfl, hle, rfl, hb, He⟩ := hrel
    have hbl := bl_length r
    by_cases h0 : r.size = 0
    · have he := He.out
      have hr0 : bl r = [] := List.eq_nil_of_length_eq_zero (by omega)
      rw [hr0, show cnt [] = 0 from rfl, if_neg (by omega)] at he
      have Hres : Hid (cnt (bl s) = q) := hid (by rw [he]; omega)
      have hre : r = ⟨#[]⟩ := by
        cases r with
        | mk a => rw [Array.eq_empty_of_size_eq_zero h0]
      clear hr0 he h0 He
      subst hre
      go_wp2
      go_ret
      exact ⟨ret_i64 Hres.out.symm, hb⟩
    · have t' : decide ((0 : Int) < r.size) = true := decide_eq_true (by omega)
      have hne : bl r ≠ [] := fun e => h0 (by rw [← hbl, e]; rfl)
      have hsnd := first_snd (bl r)
      have hbd := bl_drop r (firstP (bl r)).2
      have hsd := size_drop r (firstP (bl r)).2
      have Hf := hid (refFirst_any r wr (by omega))
      have Hbad := hid (fun h => cnt_bad hne h)
      have Hst := hid (fun h => cnt_step hne h)
      clear hne
      rw [hbl] at hsnd
      obtain ⟨p, hp⟩ : ∃ p, firstP (bl r) = p := ⟨_, rfl⟩
      rw [hp] at Hf Hbad Hst hsnd hbd hsd
      obtain ⟨v, n⟩ := p
      simp only at Hf Hbad Hst hsnd hbd hsd
      have Hbd := hid hbd; have Hsd := hid hsd
      clear hp hbd hsd hbl
      go_wp2_with fail
      refine Hf.out.mono ?_
      rintro e w1 ⟨rfl, hb1⟩
      by_cases hn : n = 0
      · subst hn
        have he := He.out
        rw [Hbad.out rfl, if_pos (by omega)] at he
        have Hres := hid he
        clear he
        go_wp2
        go_ret
        exact ⟨ret_i64 Hres.out.symm, hb.trans (hb1.mono hb.size)⟩
      · have t2 : ((n : Int) == 0) = false := beq_eq_false_iff_ne.2 (by omega)
        have hst := Hst.out hn
        have He2 : Hid (cnt (bl s) = if cnt (bl (r.extract n r.size)) < 0 then -1 else cnt (bl (r.extract n r.size)) + (q + 1 : Nat)) := by
          have he := He.out
          rw [hst] at he
          have := cnt_ge ((bl r).drop n)
          show _ = _
          rw [he, Hbd.out]
          by_cases q1 : cnt ((bl r).drop n) < 0
          · simp [q1]
          · simp [q1]; omega
        have hnr : (n : Int) ≤ r.size := by omega
        clear hst Hst Hbad
        go_wp2
        go_roundw
        case rel => exact ⟨_, q + 1, rfl, by rw [Hsd.out]; omega, by go_num, hb.trans (hb1.mono hb.size), He2⟩
        case measure => simp only [lenOfV]; rw [Hsd.out]; omega

end Go.Proofs.Ytcmdajkkdognfaa.Ut
