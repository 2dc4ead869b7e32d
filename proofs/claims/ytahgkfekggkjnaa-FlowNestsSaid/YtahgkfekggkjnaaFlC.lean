/- What is proved here: the laws of blocks are true. -/
import Derived.Test.YtahgkfekggkjnaaSxM
import Derived.Test.YtahgkfekggkjnaaFlB
import Derived.Test.YtahgkfekggkjnaaFlQ
namespace Go.Proofs.Ytahgkfekggkjnaa
open Go.RowKit
set_option linter.unusedVariables false
set_option linter.unusedSimpArgs false
def bodyL : List Ins := [(2, 64, 0, ⟨none, 0, 0, fun _ => 0⟩, ()), (1, 0, 0, ⟨none, 0, 0, fun _ => 0⟩, ()), (11, 0, 0, ⟨none, 0, 0, fun _ => 0⟩, ()), (11, 0, 0, ⟨none, 0, 0, fun _ => 0⟩, ())]

set_option maxHeartbeats 1000000 in
set_option maxRecDepth 100000 in
theorem body_any (w : World) : Calls Try.prog 62 #[] w fun e w' => ∃ v, e = .returned v ∧ Row 4 vIns 39 w.heap.size w' v bodyL ∧ Below w.heap.size w w' := by
  refine sx_enter (L := []) Try.func62 rfl rfl rfl rfl (fun fa hf => ?_)
  have hb : Below w.heap.size w w := Below.refl _ _
  refine wp_seq_k (fun K1 hK1 => ?_)
  refine wp_region_lit ?_
  refine sqv hf (r_assign rfl) rfl rfl rfl ?_; clear hf fa; intro fa hf
  apply wpList_nil
  (try simp only [Exit.then, Exit.inBlock, ↓reduceIte, Nat.reduceEqDiff])
  refine hK1 _ _ ?_
  refine wp_seq_k (fun K2 hK2 => ?_)
  refine wp_region_lit ?_
  refine sqv hf (r_build (vs := [(0, (.int .u8 (2 : Int))), (1, (.int .u64 (64 : Int)))]) (cs := #[(.int .u8 (2 : Int)), (.int .u64 (64 : Int)), (.int .u64 (0 : Int)), (.slice none 0 0)]) rfl (fun _ => by kernel_rfl)) rfl rfl rfl ?_; clear hf fa; intro fa hf
  refine sqv hf (r_build (vs := [(0, (.int .u8 (1 : Int)))]) (cs := #[(.int .u8 (1 : Int)), (.int .u64 (0 : Int)), (.int .u64 (0 : Int)), (.slice none 0 0)]) rfl (fun _ => by kernel_rfl)) rfl rfl rfl ?_; clear hf fa; intro fa hf
  refine sqv hf (r_build (vs := [(0, (.int .u8 (11 : Int)))]) (cs := #[(.int .u8 (11 : Int)), (.int .u64 (0 : Int)), (.int .u64 (0 : Int)), (.slice none 0 0)]) rfl (fun _ => by kernel_rfl)) rfl rfl rfl ?_; clear hf fa; intro fa hf
  refine sqv hf (r_build (vs := [(0, (.int .u8 (11 : Int)))]) (cs := #[(.int .u8 (11 : Int)), (.int .u64 (0 : Int)), (.int .u64 (0 : Int)), (.slice none 0 0)]) rfl (fun _ => by kernel_rfl)) rfl rfl rfl ?_; clear hf fa; intro fa hf
  refine sqdt hf (d_bslice (z := (.agg #[(.int .u8 (0 : Int)), (.int .u64 (0 : Int)), (.int .u64 (0 : Int)), (.slice none 0 0)])) (sz := 4) (vs := [(0, (.agg #[(.int .u8 (2 : Int)), (.int .u64 (64 : Int)), (.int .u64 (0 : Int)), (.slice none 0 0)])), (1, (.agg #[(.int .u8 (1 : Int)), (.int .u64 (0 : Int)), (.int .u64 (0 : Int)), (.slice none 0 0)])), (2, (.agg #[(.int .u8 (11 : Int)), (.int .u64 (0 : Int)), (.int .u64 (0 : Int)), (.slice none 0 0)])), (3, (.agg #[(.int .u8 (11 : Int)), (.int .u64 (0 : Int)), (.int .u64 (0 : Int)), (.slice none 0 0)]))]) (cs := #[(.int .u8 (2 : Int)), (.int .u64 (64 : Int)), (.int .u64 (0 : Int)), (.slice none 0 0), (.int .u8 (1 : Int)), (.int .u64 (0 : Int)), (.int .u64 (0 : Int)), (.slice none 0 0), (.int .u8 (11 : Int)), (.int .u64 (0 : Int)), (.int .u64 (0 : Int)), (.slice none 0 0), (.int .u8 (11 : Int)), (.int .u64 (0 : Int)), (.int .u64 (0 : Int)), (.slice none 0 0)]) rfl Try.underlying27 (by kernel_rfl) rfl (by kernel_rfl)) rfl rfl rfl ?_; clear hf fa; rintro fa _ w1 ⟨b1, rfl, hle1, hk1, he1⟩ hf
  have hBb1 : w.heap.size ≤ b1 := Nat.le_trans hb.size hle1
  replace hb := hb.trans (Below.mono he1 hb.size)
  refine sqv hf (r_assign rfl) rfl rfl rfl ?_; clear hf fa; intro fa hf
  apply wpList_nil
  (try simp only [Exit.then, Exit.inBlock, ↓reduceIte, Nat.reduceEqDiff])
  refine hK2 _ _ ?_
  refine wp_ret ?_
  (try simp only [Exit.then, Exit.inBlock])
  refine ret1 hf rfl rfl ?_
  exact ⟨_, rfl, Row.of_new (k := 4) (V := vIns) (l := bodyL) hk1 hBb1 rfl rfl (Nat.le_of_ble_eq_true rfl), hb⟩

theorem depthsL (a : Option Addr) (c : Nat) (w : World) (hr : RdS 4 vIns w a bodyL) (hc : 4 ≤ c) : Calls Try.prog 41 #[.slice a 4 c] w fun e w' => ∃ v, e = .returned v ∧ Row 1 (vInt .i64) 3 w.heap.size w' v [0, 1, 0, -1] ∧ Below w.heap.size w w' :=
  depths_any bodyL a c w hr hc (Nat.le_of_ble_eq_true rfl)

set_option maxHeartbeats 1000000 in
set_option maxRecDepth 100000 in
theorem awake_any (w : World) : Calls Try.prog 21 #[] w fun e w' => e = .returned (.bool true) ∧ Below w.heap.size w w' := by
  refine sx_enter (L := []) Try.func21 rfl rfl rfl rfl (fun fa hf => ?_)
  have hb : Below w.heap.size w w := Below.refl _ _
  refine wp_seq_k (fun K1 hK1 => ?_)
  refine wp_region_lit ?_
  refine sqv hf (r_assign rfl) rfl rfl rfl ?_; clear hf fa; intro fa hf
  apply wpList_nil
  (try simp only [Exit.then, Exit.inBlock, ↓reduceIte, Nat.reduceEqDiff])
  refine hK1 _ _ ?_
  refine wp_seq_k (fun K2 hK2 => ?_)
  refine wp_region_lit ?_
  refine sqdt hf (d_callX (vs := []) rfl Try.func62 (by kernel_rfl) (by kernel_rfl) (body_any _)) rfl rfl rfl ?_; clear hf fa; rintro fa v w1 ⟨hr1, he1⟩ hf; obtain ⟨ra1, rc1, rfl, hcrc1, hmrc1⟩ := Row.slice hr1
  replace hr1 := Row.rebase hr1 hb.size
  replace hb := hb.trans (Below.mono he1 hb.size)
  refine sqdt hf (d_callX (vs := [(.slice ra1 bodyL.length rc1)]) rfl Try.func22 (by kernel_rfl) (by kernel_rfl) (of_any bodyL ra1 rc1 _ (Row.rd (by intros; rfl) hr1) hcrc1 (Nat.le_of_ble_eq_true rfl) [2, -1, -1, -1] [-1, -1, -1, -1] 0 (by rfl) (by rfl))) rfl rfl rfl ?_; clear hf fa; rintro fa _ w2 ⟨oa1, oe1, oc1, od1, rfl, hr2, hr3, he2⟩ hf
  replace hr2 := Row.rebase hr2 hb.size
  replace hr3 := Row.rebase hr3 hb.size
  replace hr1 := Row.ext hr1 he2
  replace hb := hb.trans (Below.mono he2 hb.size)
  have hchr2 := Row.caps hr2
  have hchr3 := Row.caps hr3
  refine sqv hf (r_move rfl) rfl rfl rfl ?_; clear hf fa; intro fa hf
  refine sqv hf (r_extract rfl (i := 0) rfl) rfl rfl rfl ?_; clear hf fa; intro fa hf
  refine sqv hf (r_extract rfl (i := 1) rfl) rfl rfl rfl ?_; clear hf fa; intro fa hf
  refine sqdt hf (d_alloc (z := (.agg #[(.slice none 0 0), (.slice none 0 0)])) (cs := #[(.slice none 0 0), (.slice none 0 0)]) (by kernel_rfl) rfl) rfl rfl rfl ?_; clear hf fa; rintro fa _ w3 ⟨b1, rfl, hle1, hk1, he3⟩ hf
  have hBb1 : w.heap.size ≤ b1 := Nat.le_trans hb.size hle1
  replace hr1 := Row.ext hr1 he3
  replace hr2 := Row.ext hr2 he3
  replace hr3 := Row.ext hr3 he3
  replace hb := hb.trans (Below.mono he3 hb.size)
  refine sqn hf (d_store (T := 30) (v := (.agg #[(.slice oa1 4 oc1), (.slice oe1 4 od1)])) (cs := #[(.slice none 0 0), (.slice none 0 0)]) (cs' := #[(.slice oa1 4 oc1), (.slice oe1 4 od1)]) rfl rfl (by kernel_rfl) (by intro u hu; simp only [Value.cells, List.mem_cons, List.mem_toArray, List.not_mem_nil, or_false] at hu; rcases hu with rfl | rfl <;> rfl) hk1 (Nat.le_of_ble_eq_true rfl) rfl) rfl rfl ?_; clear hf fa; rintro fa _ w4 ⟨hk2, hg1⟩ hf
  replace hr1 := Row.grown hr1 hg1 (Row.ne_type hr1 hk1 rfl)
  replace hr2 := Row.grown hr2 hg1 (Row.ne_type hr2 hk1 rfl)
  replace hr3 := Row.grown hr3 hg1 (Row.ne_type hr3 hk1 rfl)
  replace hb := hb.trans (grown_below hg1 hb.size hBb1)
  refine sqv hf (r_assign rfl) rfl rfl rfl ?_; clear hf fa; intro fa hf
  apply wpList_nil
  (try simp only [Exit.then, Exit.inBlock, ↓reduceIte, Nat.reduceEqDiff])
  refine hK2 _ _ ?_
  refine wp_seq_k (fun K3 hK3 => ?_)
  refine wp_region_lit ?_
  refine sqdt hf (d_callX (vs := []) rfl Try.func62 (by kernel_rfl) (by kernel_rfl) (body_any _)) rfl rfl rfl ?_; clear hf fa; rintro fa v w5 ⟨hr4, he4⟩ hf; obtain ⟨ra2, rc2, rfl, hcrc2, hmrc2⟩ := Row.slice hr4
  replace hr4 := Row.rebase hr4 hb.size
  replace hk2 := blk_ext hk2 he4
  replace hr1 := Row.ext hr1 he4
  replace hr2 := Row.ext hr2 he4
  replace hr3 := Row.ext hr3 he4
  replace hb := hb.trans (Below.mono he4 hb.size)
  refine sqdt hf (d_callX (vs := [(.slice ra2 bodyL.length rc2)]) rfl Try.func41 (by kernel_rfl) (by kernel_rfl) (depthsL ra2 rc2 _ (Row.rd (by intros; rfl) hr4) hcrc2)) rfl rfl rfl ?_; clear hf fa; rintro fa v w6 ⟨hr5, he5⟩ hf; obtain ⟨ra3, rc3, rfl, hcrc3, hmrc3⟩ := Row.slice hr5
  replace hr5 := Row.rebase hr5 hb.size
  replace hk2 := blk_ext hk2 he5
  replace hr1 := Row.ext hr1 he5
  replace hr2 := Row.ext hr2 he5
  replace hr3 := Row.ext hr3 he5
  replace hr4 := Row.ext hr4 he5
  replace hb := hb.trans (Below.mono he5 hb.size)
  refine sqv hf (r_assign rfl) rfl rfl rfl ?_; clear hf fa; intro fa hf
  apply wpList_nil
  (try simp only [Exit.then, Exit.inBlock, ↓reduceIte, Nat.reduceEqDiff])
  refine hK3 _ _ ?_
  refine wp_seq_k (fun K4 hK4 => ?_)
  refine wp_region_lit ?_
  refine sqv hf (r_move rfl) rfl rfl rfl ?_; clear hf fa; intro fa hf
  refine sqv hf (r_eq rfl rfl) rfl rfl rfl ?_; clear hf fa; intro fa hf
  refine sqv hf (r_move rfl) rfl rfl rfl ?_; clear hf fa; intro fa hf
  refine sqgT (act := (decide ((0 : Int) = (0 : Int)))) (ag := true) (c := (decide ((0 : Int) = (0 : Int)))) (v := (.pointer (some ⟨b1, 0, none⟩))) hf rfl rfl rfl (fun hact => (r_fa rfl Try.underlying30 (f := 0) (q := 0) rfl (by kernel_rfl) rfl)) rfl rfl ?_; clear hf fa; intro fa hf
  refine sqgT (act := (decide ((0 : Int) = (0 : Int)))) (ag := true) (c := (decide ((0 : Int) = (0 : Int)))) (v := (.slice oa1 4 oc1)) hf rfl rfl rfl (fun hact => (r_load (v := (.slice oa1 4 oc1)) (gb_ev hact rfl) Try.underlying28 rfl (cell_blk hk2 rfl))) rfl rfl ?_; clear hf fa; intro fa hf
  refine sqgT (act := (decide ((0 : Int) = (0 : Int)))) (ag := true) (c := (decide ((0 : Int) = (0 : Int)))) (v := (.int .i64 (4 : Int))) hf rfl rfl rfl (fun hact => (r_lensl (gb_ev hact rfl) Try.underlying28)) rfl rfl ?_; clear hf fa; intro fa hf
  refine sqgT (act := (decide ((0 : Int) = (0 : Int)))) (ag := true) (c := (decide ((0 : Int) = (0 : Int)))) (v := (.bool (decide ((4 : Int) = (4 : Int))))) hf rfl rfl rfl (fun hact => (r_eq (gb_ev hact rfl) rfl)) rfl rfl ?_; clear hf fa; intro fa hf
  refine sqv hf (r_pickA (b := (decide ((0 : Int) = (0 : Int)))) (e := (decide ((4 : Int) = (4 : Int)))) rfl rfl rfl) rfl rfl rfl ?_; clear hf fa; intro fa hf
  refine sqv hf (r_move rfl) rfl rfl rfl ?_; clear hf fa; intro fa hf
  refine sqgT (act := ((decide ((0 : Int) = (0 : Int))) && (decide ((4 : Int) = (4 : Int))))) (ag := true) (c := ((decide ((0 : Int) = (0 : Int))) && (decide ((4 : Int) = (4 : Int))))) (v := (.pointer (some ⟨b1, 0, none⟩))) hf rfl rfl rfl (fun hact => (r_fa rfl Try.underlying30 (f := 0) (q := 0) rfl (by kernel_rfl) rfl)) rfl rfl ?_; clear hf fa; intro fa hf
  refine sqgT (act := ((decide ((0 : Int) = (0 : Int))) && (decide ((4 : Int) = (4 : Int))))) (ag := true) (c := ((decide ((0 : Int) = (0 : Int))) && (decide ((4 : Int) = (4 : Int))))) (v := (.slice oa1 4 oc1)) hf rfl rfl rfl (fun hact => (r_load (v := (.slice oa1 4 oc1)) (gb_ev hact rfl) Try.underlying28 rfl (cell_blk hk2 rfl))) rfl rfl ?_; clear hf fa; intro fa hf
  obtain ⟨rb1, rfl, hbbrb1, hlbrb1⟩ := Row.some hr2 (by first | omega | (simp only [List.length_set, List.length_take, List.length_append, List.length_replicate, List.length_cons, List.length_nil]; omega))
  have hy1 := getD_at (l := [2, -1, -1, -1]) (j := 0) (0 : Int) (by first | omega | (simp only [List.length_set, List.length_take, List.length_append, List.length_replicate, List.length_cons, List.length_nil]; omega))
  have hel1 := RdS.at (Row.rd (by intros; rfl) hr2) hy1
  obtain ⟨_, _, hab, hlr1, hel1⟩ := hel1
  cases hab
  refine sqgT (act := ((decide ((0 : Int) = (0 : Int))) && (decide ((4 : Int) = (4 : Int))))) (ag := true) (c := ((decide ((0 : Int) = (0 : Int))) && (decide ((4 : Int) = (4 : Int))))) (v := (.pointer (some ⟨rb1, (0 + 0 * 1), none⟩))) hf rfl rfl rfl (fun hact => (by have hact0 := hact; simp only [Bool.and_eq_true, Bool.not_eq_true', decide_eq_true_eq, decide_eq_false_iff_not] at hact0; exact (r_ixa (sz := 1) (j := 0) (gb_ev hact rfl) rfl Try.underlying28 (by kernel_rfl) rfl (by first | decide | omega) rfl))) rfl rfl ?_; clear hf fa; intro fa hf
  refine sqgT (act := ((decide ((0 : Int) = (0 : Int))) && (decide ((4 : Int) = (4 : Int))))) (ag := true) (c := ((decide ((0 : Int) = (0 : Int))) && (decide ((4 : Int) = (4 : Int))))) (v := (.int .i64 (([2, -1, -1, -1].getD 0 (0 : Int))))) hf rfl rfl rfl (fun hact => (r_load (v := (.int .i64 (([2, -1, -1, -1].getD 0 (0 : Int))))) (gb_ev hact rfl) Try.underlying3 rfl (cellsAt_cell hel1 (i := 0) rfl rfl))) rfl rfl ?_; clear hf fa; intro fa hf
  refine sqgT (act := ((decide ((0 : Int) = (0 : Int))) && (decide ((4 : Int) = (4 : Int))))) (ag := true) (c := ((decide ((0 : Int) = (0 : Int))) && (decide ((4 : Int) = (4 : Int))))) (v := (.bool (decide ((([2, -1, -1, -1].getD 0 (0 : Int))) = (2 : Int))))) hf rfl rfl rfl (fun hact => (r_eq (gb_ev hact rfl) rfl)) rfl rfl ?_; clear hf fa; intro fa hf
  refine sqv hf (r_pickA (b := ((decide ((0 : Int) = (0 : Int))) && (decide ((4 : Int) = (4 : Int))))) (e := (decide ((([2, -1, -1, -1].getD 0 (0 : Int))) = (2 : Int)))) rfl rfl rfl) rfl rfl rfl ?_; clear hf fa; intro fa hf
  refine sqv hf (r_move rfl) rfl rfl rfl ?_; clear hf fa; intro fa hf
  refine sqgT (act := (((decide ((0 : Int) = (0 : Int))) && (decide ((4 : Int) = (4 : Int)))) && (decide ((([2, -1, -1, -1].getD 0 (0 : Int))) = (2 : Int))))) (ag := true) (c := (((decide ((0 : Int) = (0 : Int))) && (decide ((4 : Int) = (4 : Int)))) && (decide ((([2, -1, -1, -1].getD 0 (0 : Int))) = (2 : Int))))) (v := (.pointer (some ⟨b1, 0, none⟩))) hf rfl rfl rfl (fun hact => (r_fa rfl Try.underlying30 (f := 0) (q := 0) rfl (by kernel_rfl) rfl)) rfl rfl ?_; clear hf fa; intro fa hf
  refine sqgT (act := (((decide ((0 : Int) = (0 : Int))) && (decide ((4 : Int) = (4 : Int)))) && (decide ((([2, -1, -1, -1].getD 0 (0 : Int))) = (2 : Int))))) (ag := true) (c := (((decide ((0 : Int) = (0 : Int))) && (decide ((4 : Int) = (4 : Int)))) && (decide ((([2, -1, -1, -1].getD 0 (0 : Int))) = (2 : Int))))) (v := (.slice (some ⟨rb1, 0, none⟩) 4 oc1)) hf rfl rfl rfl (fun hact => (r_load (v := (.slice (some ⟨rb1, 0, none⟩) 4 oc1)) (gb_ev hact rfl) Try.underlying28 rfl (cell_blk hk2 rfl))) rfl rfl ?_; clear hf fa; intro fa hf
  have hy2 := getD_at (l := [2, -1, -1, -1]) (j := 1) (0 : Int) (by first | omega | (simp only [List.length_set, List.length_take, List.length_append, List.length_replicate, List.length_cons, List.length_nil]; omega))
  have hel2 := RdS.at (Row.rd (by intros; rfl) hr2) hy2
  obtain ⟨_, _, hab, hlr2, hel2⟩ := hel2
  cases hab
  refine sqgT (act := (((decide ((0 : Int) = (0 : Int))) && (decide ((4 : Int) = (4 : Int)))) && (decide ((([2, -1, -1, -1].getD 0 (0 : Int))) = (2 : Int))))) (ag := true) (c := (((decide ((0 : Int) = (0 : Int))) && (decide ((4 : Int) = (4 : Int)))) && (decide ((([2, -1, -1, -1].getD 0 (0 : Int))) = (2 : Int))))) (v := (.pointer (some ⟨rb1, (0 + 1 * 1), none⟩))) hf rfl rfl rfl (fun hact => (by have hact0 := hact; simp only [Bool.and_eq_true, Bool.not_eq_true', decide_eq_true_eq, decide_eq_false_iff_not] at hact0; exact (r_ixa (sz := 1) (j := 1) (gb_ev hact rfl) rfl Try.underlying28 (by kernel_rfl) rfl (by first | decide | omega) rfl))) rfl rfl ?_; clear hf fa; intro fa hf
  refine sqgT (act := (((decide ((0 : Int) = (0 : Int))) && (decide ((4 : Int) = (4 : Int)))) && (decide ((([2, -1, -1, -1].getD 0 (0 : Int))) = (2 : Int))))) (ag := true) (c := (((decide ((0 : Int) = (0 : Int))) && (decide ((4 : Int) = (4 : Int)))) && (decide ((([2, -1, -1, -1].getD 0 (0 : Int))) = (2 : Int))))) (v := (.int .i64 (([2, -1, -1, -1].getD 1 (0 : Int))))) hf rfl rfl rfl (fun hact => (r_load (v := (.int .i64 (([2, -1, -1, -1].getD 1 (0 : Int))))) (gb_ev hact rfl) Try.underlying3 rfl (cellsAt_cell hel2 (i := 0) rfl rfl))) rfl rfl ?_; clear hf fa; intro fa hf
  refine sqgT (act := (((decide ((0 : Int) = (0 : Int))) && (decide ((4 : Int) = (4 : Int)))) && (decide ((([2, -1, -1, -1].getD 0 (0 : Int))) = (2 : Int))))) (ag := true) (c := (((decide ((0 : Int) = (0 : Int))) && (decide ((4 : Int) = (4 : Int)))) && (decide ((([2, -1, -1, -1].getD 0 (0 : Int))) = (2 : Int))))) (v := (.bool (decide ((([2, -1, -1, -1].getD 1 (0 : Int))) = (-1 : Int))))) hf rfl rfl rfl (fun hact => (r_eq (gb_ev hact rfl) rfl)) rfl rfl ?_; clear hf fa; intro fa hf
  refine sqv hf (r_pickA (b := (((decide ((0 : Int) = (0 : Int))) && (decide ((4 : Int) = (4 : Int)))) && (decide ((([2, -1, -1, -1].getD 0 (0 : Int))) = (2 : Int))))) (e := (decide ((([2, -1, -1, -1].getD 1 (0 : Int))) = (-1 : Int)))) rfl rfl rfl) rfl rfl rfl ?_; clear hf fa; intro fa hf
  refine sqv hf (r_move rfl) rfl rfl rfl ?_; clear hf fa; intro fa hf
  refine sqgT (act := ((((decide ((0 : Int) = (0 : Int))) && (decide ((4 : Int) = (4 : Int)))) && (decide ((([2, -1, -1, -1].getD 0 (0 : Int))) = (2 : Int)))) && (decide ((([2, -1, -1, -1].getD 1 (0 : Int))) = (-1 : Int))))) (ag := true) (c := ((((decide ((0 : Int) = (0 : Int))) && (decide ((4 : Int) = (4 : Int)))) && (decide ((([2, -1, -1, -1].getD 0 (0 : Int))) = (2 : Int)))) && (decide ((([2, -1, -1, -1].getD 1 (0 : Int))) = (-1 : Int))))) (v := (.slice ra3 (([0, 1, 0, -1]).length) rc3)) hf rfl rfl rfl (fun hact => (r_move rfl)) rfl rfl ?_; clear hf fa; intro fa hf
  refine sqgT (act := ((((decide ((0 : Int) = (0 : Int))) && (decide ((4 : Int) = (4 : Int)))) && (decide ((([2, -1, -1, -1].getD 0 (0 : Int))) = (2 : Int)))) && (decide ((([2, -1, -1, -1].getD 1 (0 : Int))) = (-1 : Int))))) (ag := true) (c := ((((decide ((0 : Int) = (0 : Int))) && (decide ((4 : Int) = (4 : Int)))) && (decide ((([2, -1, -1, -1].getD 0 (0 : Int))) = (2 : Int)))) && (decide ((([2, -1, -1, -1].getD 1 (0 : Int))) = (-1 : Int))))) (v := (.int .i64 ((([0, 1, 0, -1]).length : Nat) : Int))) hf rfl rfl rfl (fun hact => (r_lensl (gb_ev hact rfl) Try.underlying28)) rfl rfl ?_; clear hf fa; intro fa hf
  refine sqgT (act := ((((decide ((0 : Int) = (0 : Int))) && (decide ((4 : Int) = (4 : Int)))) && (decide ((([2, -1, -1, -1].getD 0 (0 : Int))) = (2 : Int)))) && (decide ((([2, -1, -1, -1].getD 1 (0 : Int))) = (-1 : Int))))) (ag := true) (c := ((((decide ((0 : Int) = (0 : Int))) && (decide ((4 : Int) = (4 : Int)))) && (decide ((([2, -1, -1, -1].getD 0 (0 : Int))) = (2 : Int)))) && (decide ((([2, -1, -1, -1].getD 1 (0 : Int))) = (-1 : Int))))) (v := (.bool (decide (((([0, 1, 0, -1]).length : Nat) : Int) = (4 : Int))))) hf rfl rfl rfl (fun hact => (r_eq (gb_ev hact rfl) rfl)) rfl rfl ?_; clear hf fa; intro fa hf
  refine sqv hf (r_pickA (b := ((((decide ((0 : Int) = (0 : Int))) && (decide ((4 : Int) = (4 : Int)))) && (decide ((([2, -1, -1, -1].getD 0 (0 : Int))) = (2 : Int)))) && (decide ((([2, -1, -1, -1].getD 1 (0 : Int))) = (-1 : Int))))) (e := (decide (((([0, 1, 0, -1]).length : Nat) : Int) = (4 : Int)))) rfl rfl rfl) rfl rfl rfl ?_; clear hf fa; intro fa hf
  refine sqv hf (r_move rfl) rfl rfl rfl ?_; clear hf fa; intro fa hf
  refine sqgT (act := (((((decide ((0 : Int) = (0 : Int))) && (decide ((4 : Int) = (4 : Int)))) && (decide ((([2, -1, -1, -1].getD 0 (0 : Int))) = (2 : Int)))) && (decide ((([2, -1, -1, -1].getD 1 (0 : Int))) = (-1 : Int)))) && (decide (((([0, 1, 0, -1]).length : Nat) : Int) = (4 : Int))))) (ag := true) (c := (((((decide ((0 : Int) = (0 : Int))) && (decide ((4 : Int) = (4 : Int)))) && (decide ((([2, -1, -1, -1].getD 0 (0 : Int))) = (2 : Int)))) && (decide ((([2, -1, -1, -1].getD 1 (0 : Int))) = (-1 : Int)))) && (decide (((([0, 1, 0, -1]).length : Nat) : Int) = (4 : Int))))) (v := (.slice ra3 (([0, 1, 0, -1]).length) rc3)) hf rfl rfl rfl (fun hact => (r_move rfl)) rfl rfl ?_; clear hf fa; intro fa hf
  obtain ⟨rb2, rfl, hbbrb2, hlbrb2⟩ := Row.some hr5 (by first | omega | (simp only [List.length_set, List.length_take, List.length_append, List.length_replicate, List.length_cons, List.length_nil]; omega))
  have hy3 := getD_at (l := [0, 1, 0, -1]) (j := 1) (0 : Int) (by first | omega | (simp only [List.length_set, List.length_take, List.length_append, List.length_replicate, List.length_cons, List.length_nil]; omega))
  have hel3 := RdS.at (Row.rd (by intros; rfl) hr5) hy3
  obtain ⟨_, _, hab, hlr3, hel3⟩ := hel3
  cases hab
  refine sqgT (act := (((((decide ((0 : Int) = (0 : Int))) && (decide ((4 : Int) = (4 : Int)))) && (decide ((([2, -1, -1, -1].getD 0 (0 : Int))) = (2 : Int)))) && (decide ((([2, -1, -1, -1].getD 1 (0 : Int))) = (-1 : Int)))) && (decide (((([0, 1, 0, -1]).length : Nat) : Int) = (4 : Int))))) (ag := true) (c := (((((decide ((0 : Int) = (0 : Int))) && (decide ((4 : Int) = (4 : Int)))) && (decide ((([2, -1, -1, -1].getD 0 (0 : Int))) = (2 : Int)))) && (decide ((([2, -1, -1, -1].getD 1 (0 : Int))) = (-1 : Int)))) && (decide (((([0, 1, 0, -1]).length : Nat) : Int) = (4 : Int))))) (v := (.pointer (some ⟨rb2, (0 + 1 * 1), none⟩))) hf rfl rfl rfl (fun hact => (by have hact0 := hact; simp only [Bool.and_eq_true, Bool.not_eq_true', decide_eq_true_eq, decide_eq_false_iff_not] at hact0; exact (r_ixa (sz := 1) (j := 1) (gb_ev hact rfl) rfl Try.underlying28 (by kernel_rfl) rfl (by first | decide | omega) rfl))) rfl rfl ?_; clear hf fa; intro fa hf
  refine sqgT (act := (((((decide ((0 : Int) = (0 : Int))) && (decide ((4 : Int) = (4 : Int)))) && (decide ((([2, -1, -1, -1].getD 0 (0 : Int))) = (2 : Int)))) && (decide ((([2, -1, -1, -1].getD 1 (0 : Int))) = (-1 : Int)))) && (decide (((([0, 1, 0, -1]).length : Nat) : Int) = (4 : Int))))) (ag := true) (c := (((((decide ((0 : Int) = (0 : Int))) && (decide ((4 : Int) = (4 : Int)))) && (decide ((([2, -1, -1, -1].getD 0 (0 : Int))) = (2 : Int)))) && (decide ((([2, -1, -1, -1].getD 1 (0 : Int))) = (-1 : Int)))) && (decide (((([0, 1, 0, -1]).length : Nat) : Int) = (4 : Int))))) (v := (.int .i64 (([0, 1, 0, -1].getD 1 (0 : Int))))) hf rfl rfl rfl (fun hact => (r_load (v := (.int .i64 (([0, 1, 0, -1].getD 1 (0 : Int))))) (gb_ev hact rfl) Try.underlying3 rfl (cellsAt_cell hel3 (i := 0) rfl rfl))) rfl rfl ?_; clear hf fa; intro fa hf
  refine sqgT (act := (((((decide ((0 : Int) = (0 : Int))) && (decide ((4 : Int) = (4 : Int)))) && (decide ((([2, -1, -1, -1].getD 0 (0 : Int))) = (2 : Int)))) && (decide ((([2, -1, -1, -1].getD 1 (0 : Int))) = (-1 : Int)))) && (decide (((([0, 1, 0, -1]).length : Nat) : Int) = (4 : Int))))) (ag := true) (c := (((((decide ((0 : Int) = (0 : Int))) && (decide ((4 : Int) = (4 : Int)))) && (decide ((([2, -1, -1, -1].getD 0 (0 : Int))) = (2 : Int)))) && (decide ((([2, -1, -1, -1].getD 1 (0 : Int))) = (-1 : Int)))) && (decide (((([0, 1, 0, -1]).length : Nat) : Int) = (4 : Int))))) (v := (.bool (decide ((([0, 1, 0, -1].getD 1 (0 : Int))) = (1 : Int))))) hf rfl rfl rfl (fun hact => (r_eq (gb_ev hact rfl) rfl)) rfl rfl ?_; clear hf fa; intro fa hf
  refine sqv hf (r_pickA (b := (((((decide ((0 : Int) = (0 : Int))) && (decide ((4 : Int) = (4 : Int)))) && (decide ((([2, -1, -1, -1].getD 0 (0 : Int))) = (2 : Int)))) && (decide ((([2, -1, -1, -1].getD 1 (0 : Int))) = (-1 : Int)))) && (decide (((([0, 1, 0, -1]).length : Nat) : Int) = (4 : Int))))) (e := (decide ((([0, 1, 0, -1].getD 1 (0 : Int))) = (1 : Int)))) rfl rfl rfl) rfl rfl rfl ?_; clear hf fa; intro fa hf
  refine sqv hf (r_move rfl) rfl rfl rfl ?_; clear hf fa; intro fa hf
  refine sqgT (act := ((((((decide ((0 : Int) = (0 : Int))) && (decide ((4 : Int) = (4 : Int)))) && (decide ((([2, -1, -1, -1].getD 0 (0 : Int))) = (2 : Int)))) && (decide ((([2, -1, -1, -1].getD 1 (0 : Int))) = (-1 : Int)))) && (decide (((([0, 1, 0, -1]).length : Nat) : Int) = (4 : Int)))) && (decide ((([0, 1, 0, -1].getD 1 (0 : Int))) = (1 : Int))))) (ag := true) (c := ((((((decide ((0 : Int) = (0 : Int))) && (decide ((4 : Int) = (4 : Int)))) && (decide ((([2, -1, -1, -1].getD 0 (0 : Int))) = (2 : Int)))) && (decide ((([2, -1, -1, -1].getD 1 (0 : Int))) = (-1 : Int)))) && (decide (((([0, 1, 0, -1]).length : Nat) : Int) = (4 : Int)))) && (decide ((([0, 1, 0, -1].getD 1 (0 : Int))) = (1 : Int))))) (v := (.slice (some ⟨rb2, 0, none⟩) (([0, 1, 0, -1]).length) rc3)) hf rfl rfl rfl (fun hact => (r_move rfl)) rfl rfl ?_; clear hf fa; intro fa hf
  have hy4 := getD_at (l := [0, 1, 0, -1]) (j := 3) (0 : Int) (by first | omega | (simp only [List.length_set, List.length_take, List.length_append, List.length_replicate, List.length_cons, List.length_nil]; omega))
  have hel4 := RdS.at (Row.rd (by intros; rfl) hr5) hy4
  obtain ⟨_, _, hab, hlr4, hel4⟩ := hel4
  cases hab
  refine sqgT (act := ((((((decide ((0 : Int) = (0 : Int))) && (decide ((4 : Int) = (4 : Int)))) && (decide ((([2, -1, -1, -1].getD 0 (0 : Int))) = (2 : Int)))) && (decide ((([2, -1, -1, -1].getD 1 (0 : Int))) = (-1 : Int)))) && (decide (((([0, 1, 0, -1]).length : Nat) : Int) = (4 : Int)))) && (decide ((([0, 1, 0, -1].getD 1 (0 : Int))) = (1 : Int))))) (ag := true) (c := ((((((decide ((0 : Int) = (0 : Int))) && (decide ((4 : Int) = (4 : Int)))) && (decide ((([2, -1, -1, -1].getD 0 (0 : Int))) = (2 : Int)))) && (decide ((([2, -1, -1, -1].getD 1 (0 : Int))) = (-1 : Int)))) && (decide (((([0, 1, 0, -1]).length : Nat) : Int) = (4 : Int)))) && (decide ((([0, 1, 0, -1].getD 1 (0 : Int))) = (1 : Int))))) (v := (.pointer (some ⟨rb2, (0 + 3 * 1), none⟩))) hf rfl rfl rfl (fun hact => (by have hact0 := hact; simp only [Bool.and_eq_true, Bool.not_eq_true', decide_eq_true_eq, decide_eq_false_iff_not] at hact0; exact (r_ixa (sz := 1) (j := 3) (gb_ev hact rfl) rfl Try.underlying28 (by kernel_rfl) rfl (by first | decide | omega) rfl))) rfl rfl ?_; clear hf fa; intro fa hf
  refine sqgT (act := ((((((decide ((0 : Int) = (0 : Int))) && (decide ((4 : Int) = (4 : Int)))) && (decide ((([2, -1, -1, -1].getD 0 (0 : Int))) = (2 : Int)))) && (decide ((([2, -1, -1, -1].getD 1 (0 : Int))) = (-1 : Int)))) && (decide (((([0, 1, 0, -1]).length : Nat) : Int) = (4 : Int)))) && (decide ((([0, 1, 0, -1].getD 1 (0 : Int))) = (1 : Int))))) (ag := true) (c := ((((((decide ((0 : Int) = (0 : Int))) && (decide ((4 : Int) = (4 : Int)))) && (decide ((([2, -1, -1, -1].getD 0 (0 : Int))) = (2 : Int)))) && (decide ((([2, -1, -1, -1].getD 1 (0 : Int))) = (-1 : Int)))) && (decide (((([0, 1, 0, -1]).length : Nat) : Int) = (4 : Int)))) && (decide ((([0, 1, 0, -1].getD 1 (0 : Int))) = (1 : Int))))) (v := (.int .i64 (([0, 1, 0, -1].getD 3 (0 : Int))))) hf rfl rfl rfl (fun hact => (r_load (v := (.int .i64 (([0, 1, 0, -1].getD 3 (0 : Int))))) (gb_ev hact rfl) Try.underlying3 rfl (cellsAt_cell hel4 (i := 0) rfl rfl))) rfl rfl ?_; clear hf fa; intro fa hf
  refine sqgT (act := ((((((decide ((0 : Int) = (0 : Int))) && (decide ((4 : Int) = (4 : Int)))) && (decide ((([2, -1, -1, -1].getD 0 (0 : Int))) = (2 : Int)))) && (decide ((([2, -1, -1, -1].getD 1 (0 : Int))) = (-1 : Int)))) && (decide (((([0, 1, 0, -1]).length : Nat) : Int) = (4 : Int)))) && (decide ((([0, 1, 0, -1].getD 1 (0 : Int))) = (1 : Int))))) (ag := true) (c := ((((((decide ((0 : Int) = (0 : Int))) && (decide ((4 : Int) = (4 : Int)))) && (decide ((([2, -1, -1, -1].getD 0 (0 : Int))) = (2 : Int)))) && (decide ((([2, -1, -1, -1].getD 1 (0 : Int))) = (-1 : Int)))) && (decide (((([0, 1, 0, -1]).length : Nat) : Int) = (4 : Int)))) && (decide ((([0, 1, 0, -1].getD 1 (0 : Int))) = (1 : Int))))) (v := (.bool (decide ((([0, 1, 0, -1].getD 3 (0 : Int))) = (-1 : Int))))) hf rfl rfl rfl (fun hact => (r_eq (gb_ev hact rfl) rfl)) rfl rfl ?_; clear hf fa; intro fa hf
  refine sqv hf (r_pickA (b := ((((((decide ((0 : Int) = (0 : Int))) && (decide ((4 : Int) = (4 : Int)))) && (decide ((([2, -1, -1, -1].getD 0 (0 : Int))) = (2 : Int)))) && (decide ((([2, -1, -1, -1].getD 1 (0 : Int))) = (-1 : Int)))) && (decide (((([0, 1, 0, -1]).length : Nat) : Int) = (4 : Int)))) && (decide ((([0, 1, 0, -1].getD 1 (0 : Int))) = (1 : Int))))) (e := (decide ((([0, 1, 0, -1].getD 3 (0 : Int))) = (-1 : Int)))) rfl rfl rfl) rfl rfl rfl ?_; clear hf fa; intro fa hf
  refine sqv hf (r_assign rfl) rfl rfl rfl ?_; clear hf fa; intro fa hf
  apply wpList_nil
  (try simp only [Exit.then, Exit.inBlock, ↓reduceIte, Nat.reduceEqDiff])
  refine hK4 _ _ ?_
  refine wp_ret ?_
  (try simp only [Exit.then, Exit.inBlock])
  refine ret1 hf rfl rfl ?_
  exact ⟨congrArg (fun b => Ending.returned (.bool b)) (by decide), hb⟩

set_option maxHeartbeats 1000000 in
set_option maxRecDepth 100000 in
theorem flowEnds_any (l : List Ins) (a : Option Addr) (c : Nat) (w : World) (hr : RdS 4 vIns w a l) (hlc : l.length ≤ c) : Calls Try.prog 4 #[(.slice a l.length c)] w fun e w' => e = .returned (.bool true) ∧ Below w.heap.size w w' := by
  obtain ⟨pn, pl, hpq⟩ : ∃ pn pl, ofQ (opl l) = (pn, pl) := ⟨_, _, rfl⟩
  refine sx_enter (L := [(0, (.slice a l.length c))]) Try.func4 rfl rfl rfl rfl (fun fa hf => ?_)
  have hb : Below w.heap.size w w := Below.refl _ _
  refine wp_seq_k (fun K1 hK1 => ?_)
  refine wp_region_lit ?_
  refine sqv hf (r_assign rfl) rfl rfl rfl ?_; clear hf fa; intro fa hf
  apply wpList_nil
  (try simp only [Exit.then, Exit.inBlock, ↓reduceIte, Nat.reduceEqDiff])
  refine hK1 _ _ ?_
  refine wp_seq_k (fun K2 hK2 => ?_)
  refine wp_seq_k (fun K3 hK3 => ?_)
  refine wp_region_lit ?_
  refine sqdt hf (d_callB (vs := []) rfl Try.func21 (by kernel_rfl) (by kernel_rfl) (awake_any _)) rfl rfl rfl ?_; clear hf fa; rintro fa _ w1 ⟨rfl, he1⟩ hf
  replace hb := hb.trans (Below.mono he1 hb.size)
  refine sqv hf (r_not rfl) rfl rfl rfl ?_; clear hf fa; intro fa hf
  apply wpList_nil
  (try simp only [Exit.then, Exit.inBlock, ↓reduceIte, Nat.reduceEqDiff])
  refine hK3 _ _ ?_
  refine wp_cond_false ((hf.ev rfl).trans (congrArg Value.bool (show (!true) = false from rfl))) ?_
  refine wp_skip ?_
  (try simp only [Exit.then, Exit.inBlock, ↓reduceIte, Nat.reduceEqDiff])
  refine hK2 _ _ ?_
  refine wp_seq_k (fun K4 hK4 => ?_)
  refine wp_seq_k (fun K5 hK5 => ?_)
  refine wp_region_lit ?_
  refine sqv hf (r_move rfl) rfl rfl rfl ?_; clear hf fa; intro fa hf
  refine sqv hf (r_lensl rfl Try.underlying27) rfl rfl rfl ?_; clear hf fa; intro fa hf
  refine sqv hf (r_gt rfl rfl) rfl rfl rfl ?_; clear hf fa; intro fa hf
  apply wpList_nil
  (try simp only [Exit.then, Exit.inBlock, ↓reduceIte, Nat.reduceEqDiff])
  refine hK5 _ _ ?_
  refine wp_cond_split (t := (decide ((60 : Int) < ((l.length : Nat) : Int)))) (hf.ev rfl) (fun hqt13_1 => ?_) (fun hqt13_1 => ?_)
  · have hqt13_1b := hqt13_1
    try simp only [decide_eq_true_eq, Bool.and_eq_true, Bool.or_eq_true, Bool.not_eq_true', decide_eq_false_iff_not, ne_eq, Bool.not_eq_true] at hqt13_1
    refine wp_seq_k (fun K6 hK6 => ?_)
    refine wp_region_lit ?_
    refine sqv hf (r_assign rfl) rfl rfl rfl ?_; clear hf fa; intro fa hf
    apply wpList_nil
    (try simp only [Exit.then, Exit.inBlock, ↓reduceIte, Nat.reduceEqDiff])
    refine hK6 _ _ ?_
    refine wp_ret ?_
    (try simp only [Exit.then, Exit.inBlock])
    refine ret1 hf rfl rfl ?_
    exact ⟨rfl, hb⟩
  · have hqt13_1b := hqt13_1
    replace hqt13_1 := Bool.eq_false_iff.1 hqt13_1
    try simp only [ne_eq, decide_eq_true_eq, Bool.and_eq_true, Bool.or_eq_true, Bool.not_eq_true', decide_eq_false_iff_not] at hqt13_1
    refine wp_skip ?_
    (try simp only [Exit.then, Exit.inBlock, ↓reduceIte, Nat.reduceEqDiff])
    refine hK4 _ _ ?_
    refine wp_seq_k (fun K7 hK7 => ?_)
    refine wp_region_lit ?_
    refine sqv hf (r_move rfl) rfl rfl rfl ?_; clear hf fa; intro fa hf
    refine sqdt hf (d_callX (vs := [(.slice a l.length c)]) rfl Try.func22 (by kernel_rfl) (by kernel_rfl) (of_any l a c _ (RdS.ext hr hb) hlc (by omega) pn pl (shapeP (opl l)) hpq rfl)) rfl rfl rfl ?_; clear hf fa; rintro fa _ w2 ⟨oa1, oe1, oc1, od1, rfl, hr1, hr2, he2⟩ hf
    replace hr1 := Row.rebase hr1 hb.size
    replace hr2 := Row.rebase hr2 hb.size
    replace hb := hb.trans (Below.mono he2 hb.size)
    have hchr1 := Row.caps hr1
    have hchr2 := Row.caps hr2
    refine sqv hf (r_move rfl) rfl rfl rfl ?_; clear hf fa; intro fa hf
    refine sqv hf (r_extract rfl (i := 0) rfl) rfl rfl rfl ?_; clear hf fa; intro fa hf
    refine sqv hf (r_extract rfl (i := 1) rfl) rfl rfl rfl ?_; clear hf fa; intro fa hf
    refine sqdt hf (d_alloc (z := (.agg #[(.slice none 0 0), (.slice none 0 0)])) (cs := #[(.slice none 0 0), (.slice none 0 0)]) (by kernel_rfl) rfl) rfl rfl rfl ?_; clear hf fa; rintro fa _ w3 ⟨b1, rfl, hle1, hk1, he3⟩ hf
    have hBb1 : w.heap.size ≤ b1 := Nat.le_trans hb.size hle1
    replace hr1 := Row.ext hr1 he3
    replace hr2 := Row.ext hr2 he3
    replace hb := hb.trans (Below.mono he3 hb.size)
    refine sqn hf (d_store (T := 30) (v := (.agg #[(.slice oa1 pn.length oc1), (.slice oe1 pl.length od1)])) (cs := #[(.slice none 0 0), (.slice none 0 0)]) (cs' := #[(.slice oa1 pn.length oc1), (.slice oe1 pl.length od1)]) rfl rfl (by kernel_rfl) (by intro u hu; simp only [Value.cells, List.mem_cons, List.mem_toArray, List.not_mem_nil, or_false] at hu; rcases hu with rfl | rfl <;> rfl) hk1 (Nat.le_of_ble_eq_true rfl) rfl) rfl rfl ?_; clear hf fa; rintro fa _ w4 ⟨hk2, hg1⟩ hf
    replace hr1 := Row.grown hr1 hg1 (Row.ne_type hr1 hk1 rfl)
    replace hr2 := Row.grown hr2 hg1 (Row.ne_type hr2 hk1 rfl)
    replace hb := hb.trans (grown_below hg1 hb.size hBb1)
    refine sqv hf (r_assign rfl) rfl rfl rfl ?_; clear hf fa; intro fa hf
    apply wpList_nil
    (try simp only [Exit.then, Exit.inBlock, ↓reduceIte, Nat.reduceEqDiff])
    refine hK7 _ _ ?_
    refine wp_seq_k (fun K8 hK8 => ?_)
    refine wp_region_lit ?_
    refine sqv hf (r_move rfl) rfl rfl rfl ?_; clear hf fa; intro fa hf
    refine sqdt hf (d_callB (vs := [(.slice a l.length c)]) rfl Try.func23 (by kernel_rfl) (by kernel_rfl) (by have h := rshape_any l a c _ (RdS.ext hr hb) hlc (by omega); rw [rshape_eq] at h; exact h)) rfl rfl rfl ?_; clear hf fa; rintro fa _ w5 ⟨rfl, he4⟩ hf
    replace hk2 := blk_ext hk2 he4
    replace hr1 := Row.ext hr1 he4
    replace hr2 := Row.ext hr2 he4
    replace hb := hb.trans (Below.mono he4 hb.size)
    refine sqv hf (r_assign rfl) rfl rfl rfl ?_; clear hf fa; intro fa hf
    apply wpList_nil
    (try simp only [Exit.then, Exit.inBlock, ↓reduceIte, Nat.reduceEqDiff])
    refine hK8 _ _ ?_
    refine wp_seq_k (fun K9 hK9 => ?_)
    refine wp_seq_k (fun K10 hK10 => ?_)
    refine wp_region_lit ?_
    refine sqv hf (r_move rfl) rfl rfl rfl ?_; clear hf fa; intro fa hf
    refine sqv hf (r_ne rfl rfl) rfl rfl rfl ?_; clear hf fa; intro fa hf
    apply wpList_nil
    (try simp only [Exit.then, Exit.inBlock, ↓reduceIte, Nat.reduceEqDiff])
    refine hK10 _ _ ?_
    refine wp_cond_split (t := (decide (((shapeP (opl l))) ≠ (0 : Int)))) (hf.ev rfl) (fun hqt22_1 => ?_) (fun hqt22_1 => ?_)
    · have hqt22_1b := hqt22_1
      try simp only [decide_eq_true_eq, Bool.and_eq_true, Bool.or_eq_true, Bool.not_eq_true', decide_eq_false_iff_not, ne_eq, Bool.not_eq_true] at hqt22_1
      refine wp_seq_k (fun K11 hK11 => ?_)
      refine wp_region_lit ?_
      refine sqv hf (r_move rfl) rfl rfl rfl ?_; clear hf fa; intro fa hf
      refine sqv hf (r_move rfl) rfl rfl rfl ?_; clear hf fa; intro fa hf
      refine sqv hf (r_eq rfl rfl) rfl rfl rfl ?_; clear hf fa; intro fa hf
      refine sqv hf (r_move rfl) rfl rfl rfl ?_; clear hf fa; intro fa hf
      refine sqgT (act := (decide (((shapeP (opl l))) = ((shapeP (opl l)))))) (ag := true) (c := (decide (((shapeP (opl l))) = ((shapeP (opl l)))))) (v := (.pointer (some ⟨b1, 0, none⟩))) hf rfl rfl rfl (fun hact => (r_fa rfl Try.underlying30 (f := 0) (q := 0) rfl (by kernel_rfl) rfl)) rfl rfl ?_; clear hf fa; intro fa hf
      refine sqgT (act := (decide (((shapeP (opl l))) = ((shapeP (opl l)))))) (ag := true) (c := (decide (((shapeP (opl l))) = ((shapeP (opl l)))))) (v := (.slice oa1 pn.length oc1)) hf rfl rfl rfl (fun hact => (r_load (v := (.slice oa1 pn.length oc1)) (gb_ev hact rfl) Try.underlying28 rfl (cell_blk hk2 rfl))) rfl rfl ?_; clear hf fa; intro fa hf
      refine sqgT (act := (decide (((shapeP (opl l))) = ((shapeP (opl l)))))) (ag := true) (c := (decide (((shapeP (opl l))) = ((shapeP (opl l)))))) (v := (.int .i64 ((pn.length : Nat) : Int))) hf rfl rfl rfl (fun hact => (r_lensl (gb_ev hact rfl) Try.underlying28)) rfl rfl ?_; clear hf fa; intro fa hf
      refine sqgT (act := (decide (((shapeP (opl l))) = ((shapeP (opl l)))))) (ag := true) (c := (decide (((shapeP (opl l))) = ((shapeP (opl l)))))) (v := (.bool (decide (((pn.length : Nat) : Int) = (0 : Int))))) hf rfl rfl rfl (fun hact => (r_eq (gb_ev hact rfl) rfl)) rfl rfl ?_; clear hf fa; intro fa hf
      refine sqv hf (r_pickA (b := (decide (((shapeP (opl l))) = ((shapeP (opl l)))))) (e := (decide (((pn.length : Nat) : Int) = (0 : Int)))) rfl rfl rfl) rfl rfl rfl ?_; clear hf fa; intro fa hf
      refine sqv hf (r_move rfl) rfl rfl rfl ?_; clear hf fa; intro fa hf
      refine sqgT (act := ((decide (((shapeP (opl l))) = ((shapeP (opl l))))) && (decide (((pn.length : Nat) : Int) = (0 : Int))))) (ag := true) (c := ((decide (((shapeP (opl l))) = ((shapeP (opl l))))) && (decide (((pn.length : Nat) : Int) = (0 : Int))))) (v := (.pointer (some ⟨b1, 1, none⟩))) hf rfl rfl rfl (fun hact => (r_fa rfl Try.underlying30 (f := 1) (q := 1) rfl (by kernel_rfl) rfl)) rfl rfl ?_; clear hf fa; intro fa hf
      refine sqgT (act := ((decide (((shapeP (opl l))) = ((shapeP (opl l))))) && (decide (((pn.length : Nat) : Int) = (0 : Int))))) (ag := true) (c := ((decide (((shapeP (opl l))) = ((shapeP (opl l))))) && (decide (((pn.length : Nat) : Int) = (0 : Int))))) (v := (.slice oe1 pl.length od1)) hf rfl rfl rfl (fun hact => (r_load (v := (.slice oe1 pl.length od1)) (gb_ev hact rfl) Try.underlying28 rfl (cell_blk hk2 rfl))) rfl rfl ?_; clear hf fa; intro fa hf
      refine sqgT (act := ((decide (((shapeP (opl l))) = ((shapeP (opl l))))) && (decide (((pn.length : Nat) : Int) = (0 : Int))))) (ag := true) (c := ((decide (((shapeP (opl l))) = ((shapeP (opl l))))) && (decide (((pn.length : Nat) : Int) = (0 : Int))))) (v := (.int .i64 ((pl.length : Nat) : Int))) hf rfl rfl rfl (fun hact => (r_lensl (gb_ev hact rfl) Try.underlying28)) rfl rfl ?_; clear hf fa; intro fa hf
      refine sqgT (act := ((decide (((shapeP (opl l))) = ((shapeP (opl l))))) && (decide (((pn.length : Nat) : Int) = (0 : Int))))) (ag := true) (c := ((decide (((shapeP (opl l))) = ((shapeP (opl l))))) && (decide (((pn.length : Nat) : Int) = (0 : Int))))) (v := (.bool (decide (((pl.length : Nat) : Int) = (0 : Int))))) hf rfl rfl rfl (fun hact => (r_eq (gb_ev hact rfl) rfl)) rfl rfl ?_; clear hf fa; intro fa hf
      refine sqv hf (r_pickA (b := ((decide (((shapeP (opl l))) = ((shapeP (opl l))))) && (decide (((pn.length : Nat) : Int) = (0 : Int))))) (e := (decide (((pl.length : Nat) : Int) = (0 : Int)))) rfl rfl rfl) rfl rfl rfl ?_; clear hf fa; intro fa hf
      refine sqv hf (r_assign rfl) rfl rfl rfl ?_; clear hf fa; intro fa hf
      apply wpList_nil
      (try simp only [Exit.then, Exit.inBlock, ↓reduceIte, Nat.reduceEqDiff])
      refine hK11 _ _ ?_
      refine wp_ret ?_
      (try simp only [Exit.then, Exit.inBlock])
      refine ret1 hf rfl rfl ?_
      rw [ofQ, if_pos hqt22_1] at hpq; cases hpq
      exact ⟨congrArg (fun b => Ending.returned (.bool b)) (by simp), hb⟩
    · have hqt22_1b := hqt22_1
      replace hqt22_1 := Bool.eq_false_iff.1 hqt22_1
      try simp only [ne_eq, decide_eq_true_eq, Bool.and_eq_true, Bool.or_eq_true, Bool.not_eq_true', decide_eq_false_iff_not] at hqt22_1
      refine wp_skip ?_
      (try simp only [Exit.then, Exit.inBlock, ↓reduceIte, Nat.reduceEqDiff])
      refine hK9 _ _ ?_
      refine wp_seq_k (fun K12 hK12 => ?_)
      refine wp_seq_k (fun K13 hK13 => ?_)
      have hs := Decidable.of_not_not hqt22_1
      have hP : ofP (opl l) = (pn, pl) := by rw [ofQ, if_neg hqt22_1] at hpq; exact hpq
      obtain ⟨ho1, ho2, ho3⟩ := of_eq (opl l) hs
      rw [hP] at ho1 ho2 ho3; simp only at ho1 ho2 ho3; rw [opl_length] at ho1 ho2
      refine wp_region_lit ?_
      refine sqv hf (r_move rfl) rfl rfl rfl ?_; clear hf fa; intro fa hf
      refine sqv hf (r_ne rfl rfl) rfl rfl rfl ?_; clear hf fa; intro fa hf
      refine sqv hf (r_move rfl) rfl rfl rfl ?_; clear hf fa; intro fa hf
      refine sqgF (act := (!(decide (((shapeP (opl l))) ≠ (0 : Int))))) (ag := true) (c := (decide (((shapeP (opl l))) ≠ (0 : Int)))) (v := (.pointer (some ⟨b1, 0, none⟩))) hf rfl rfl rfl (fun hact => (r_fa rfl Try.underlying30 (f := 0) (q := 0) rfl (by kernel_rfl) rfl)) rfl rfl ?_; clear hf fa; intro fa hf
      refine sqgF (act := (!(decide (((shapeP (opl l))) ≠ (0 : Int))))) (ag := true) (c := (decide (((shapeP (opl l))) ≠ (0 : Int)))) (v := (.slice oa1 pn.length oc1)) hf rfl rfl rfl (fun hact => (r_load (v := (.slice oa1 pn.length oc1)) (gb_ev hact rfl) Try.underlying28 rfl (cell_blk hk2 rfl))) rfl rfl ?_; clear hf fa; intro fa hf
      refine sqgF (act := (!(decide (((shapeP (opl l))) ≠ (0 : Int))))) (ag := true) (c := (decide (((shapeP (opl l))) ≠ (0 : Int)))) (v := (.int .i64 ((pn.length : Nat) : Int))) hf rfl rfl rfl (fun hact => (r_lensl (gb_ev hact rfl) Try.underlying28)) rfl rfl ?_; clear hf fa; intro fa hf
      refine sqgF (act := (!(decide (((shapeP (opl l))) ≠ (0 : Int))))) (ag := true) (c := (decide (((shapeP (opl l))) ≠ (0 : Int)))) (v := (.slice a l.length c)) hf rfl rfl rfl (fun hact => (r_move rfl)) rfl rfl ?_; clear hf fa; intro fa hf
      refine sqgF (act := (!(decide (((shapeP (opl l))) ≠ (0 : Int))))) (ag := true) (c := (decide (((shapeP (opl l))) ≠ (0 : Int)))) (v := (.int .i64 ((l.length : Nat) : Int))) hf rfl rfl rfl (fun hact => (r_lensl (gb_ev hact rfl) Try.underlying27)) rfl rfl ?_; clear hf fa; intro fa hf
      refine sqgF (act := (!(decide (((shapeP (opl l))) ≠ (0 : Int))))) (ag := true) (c := (decide (((shapeP (opl l))) ≠ (0 : Int)))) (v := (.bool (decide (((pn.length : Nat) : Int) ≠ ((l.length : Nat) : Int))))) hf rfl rfl rfl (fun hact => (r_ne (gb_ev hact rfl) (gb_ev hact rfl))) rfl rfl ?_; clear hf fa; intro fa hf
      refine sqv hf (r_pickO (b := (decide (((shapeP (opl l))) ≠ (0 : Int)))) (e := (decide (((pn.length : Nat) : Int) ≠ ((l.length : Nat) : Int)))) rfl rfl rfl) rfl rfl rfl ?_; clear hf fa; intro fa hf
      refine sqv hf (r_move rfl) rfl rfl rfl ?_; clear hf fa; intro fa hf
      refine sqgF (act := (!((decide (((shapeP (opl l))) ≠ (0 : Int))) || (decide (((pn.length : Nat) : Int) ≠ ((l.length : Nat) : Int)))))) (ag := true) (c := ((decide (((shapeP (opl l))) ≠ (0 : Int))) || (decide (((pn.length : Nat) : Int) ≠ ((l.length : Nat) : Int))))) (v := (.pointer (some ⟨b1, 1, none⟩))) hf rfl rfl rfl (fun hact => (r_fa rfl Try.underlying30 (f := 1) (q := 1) rfl (by kernel_rfl) rfl)) rfl rfl ?_; clear hf fa; intro fa hf
      refine sqgF (act := (!((decide (((shapeP (opl l))) ≠ (0 : Int))) || (decide (((pn.length : Nat) : Int) ≠ ((l.length : Nat) : Int)))))) (ag := true) (c := ((decide (((shapeP (opl l))) ≠ (0 : Int))) || (decide (((pn.length : Nat) : Int) ≠ ((l.length : Nat) : Int))))) (v := (.slice oe1 pl.length od1)) hf rfl rfl rfl (fun hact => (r_load (v := (.slice oe1 pl.length od1)) (gb_ev hact rfl) Try.underlying28 rfl (cell_blk hk2 rfl))) rfl rfl ?_; clear hf fa; intro fa hf
      refine sqgF (act := (!((decide (((shapeP (opl l))) ≠ (0 : Int))) || (decide (((pn.length : Nat) : Int) ≠ ((l.length : Nat) : Int)))))) (ag := true) (c := ((decide (((shapeP (opl l))) ≠ (0 : Int))) || (decide (((pn.length : Nat) : Int) ≠ ((l.length : Nat) : Int))))) (v := (.int .i64 ((pl.length : Nat) : Int))) hf rfl rfl rfl (fun hact => (r_lensl (gb_ev hact rfl) Try.underlying28)) rfl rfl ?_; clear hf fa; intro fa hf
      refine sqgF (act := (!((decide (((shapeP (opl l))) ≠ (0 : Int))) || (decide (((pn.length : Nat) : Int) ≠ ((l.length : Nat) : Int)))))) (ag := true) (c := ((decide (((shapeP (opl l))) ≠ (0 : Int))) || (decide (((pn.length : Nat) : Int) ≠ ((l.length : Nat) : Int))))) (v := (.slice a l.length c)) hf rfl rfl rfl (fun hact => (r_move rfl)) rfl rfl ?_; clear hf fa; intro fa hf
      refine sqgF (act := (!((decide (((shapeP (opl l))) ≠ (0 : Int))) || (decide (((pn.length : Nat) : Int) ≠ ((l.length : Nat) : Int)))))) (ag := true) (c := ((decide (((shapeP (opl l))) ≠ (0 : Int))) || (decide (((pn.length : Nat) : Int) ≠ ((l.length : Nat) : Int))))) (v := (.int .i64 ((l.length : Nat) : Int))) hf rfl rfl rfl (fun hact => (r_lensl (gb_ev hact rfl) Try.underlying27)) rfl rfl ?_; clear hf fa; intro fa hf
      refine sqgF (act := (!((decide (((shapeP (opl l))) ≠ (0 : Int))) || (decide (((pn.length : Nat) : Int) ≠ ((l.length : Nat) : Int)))))) (ag := true) (c := ((decide (((shapeP (opl l))) ≠ (0 : Int))) || (decide (((pn.length : Nat) : Int) ≠ ((l.length : Nat) : Int))))) (v := (.bool (decide (((pl.length : Nat) : Int) ≠ ((l.length : Nat) : Int))))) hf rfl rfl rfl (fun hact => (r_ne (gb_ev hact rfl) (gb_ev hact rfl))) rfl rfl ?_; clear hf fa; intro fa hf
      refine sqv hf (r_pickO (b := ((decide (((shapeP (opl l))) ≠ (0 : Int))) || (decide (((pn.length : Nat) : Int) ≠ ((l.length : Nat) : Int))))) (e := (decide (((pl.length : Nat) : Int) ≠ ((l.length : Nat) : Int)))) rfl rfl rfl) rfl rfl rfl ?_; clear hf fa; intro fa hf
      apply wpList_nil
      (try simp only [Exit.then, Exit.inBlock, ↓reduceIte, Nat.reduceEqDiff])
      refine hK13 _ _ ?_
      refine wp_cond_split (t := (((decide (((shapeP (opl l))) ≠ (0 : Int))) || (decide (((pn.length : Nat) : Int) ≠ ((l.length : Nat) : Int)))) || (decide (((pl.length : Nat) : Int) ≠ ((l.length : Nat) : Int))))) (hf.ev rfl) (fun hqt55_1 => ?_) (fun hqt55_1 => ?_)
      · have hqt55_1b := hqt55_1
        try simp only [decide_eq_true_eq, Bool.and_eq_true, Bool.or_eq_true, Bool.not_eq_true', decide_eq_false_iff_not, ne_eq, Bool.not_eq_true] at hqt55_1
        exfalso; rcases hqt55_1 with (h | h) | h <;> omega
      · have hqt55_1b := hqt55_1
        replace hqt55_1 := Bool.eq_false_iff.1 hqt55_1
        try simp only [ne_eq, decide_eq_true_eq, Bool.and_eq_true, Bool.or_eq_true, Bool.not_eq_true', decide_eq_false_iff_not] at hqt55_1
        refine wp_skip ?_
        (try simp only [Exit.then, Exit.inBlock, ↓reduceIte, Nat.reduceEqDiff])
        refine hK12 _ _ ?_
        refine wp_seq_k (fun K14 hK14 => ?_)
        refine wp_seq_k (fun K15 hK15 => ?_)
        refine wp_region_lit ?_
        refine sqv hf (r_assign rfl) rfl rfl rfl ?_; clear hf fa; intro fa hf
        apply wpList_nil
        (try simp only [Exit.then, Exit.inBlock, ↓reduceIte, Nat.reduceEqDiff])
        refine hK15 _ _ ?_
        refine wp_block ?_
        refine wp_loop_k (fun m fa wr => ∃ (n : Nat), m = l.length - n ∧ Fr 89 fa [(0, (.slice a l.length c)), (3, (.pointer (some ⟨b1, 0, none⟩))), (6, (.int .i64 ((n : Nat) : Int)))] ∧ Below w.heap.size w wr ∧ Row 1 (vInt .i64) 3 (w.heap.size) wr (.slice oa1 (pn.length) oc1) pn ∧ Row 1 (vInt .i64) 3 (w.heap.size) wr (.slice oe1 (pl.length) od1) pl ∧ wr.heap[b1]? = some (.cells #[(.slice oa1 pn.length oc1), (.slice oe1 pl.length od1)] 30 (0, 0)) ∧ (n ≤ l.length)) ?_ ?_
        · skip
          exact ⟨_, 0, rfl, hf.sub ⟨rfl, rfl, (some_int (by first | rfl | omega)), trivial⟩, hb, hr1, hr2, hk2, by omega⟩
        · skip
          clear hf fa; intro m1 fa w6 hI KL1 hKL1
          clear hb
          clear hk2
          clear hr1
          clear hr2
          obtain ⟨n, hm1, hf, hb, hrE, hrL, hkb1, hn⟩ := hI
          have hcrE := Row.caps hrE
          have hcrL := Row.caps hrL
          refine wp_seq_k (fun K16 hK16 => ?_)
          refine wp_seq_k (fun K17 hK17 => ?_)
          refine wp_region_lit ?_
          refine sqv hf (r_move rfl) rfl rfl rfl ?_; clear hf fa; intro fa hf
          refine sqv hf (r_move rfl) rfl rfl rfl ?_; clear hf fa; intro fa hf
          refine sqv hf (r_lensl rfl Try.underlying27) rfl rfl rfl ?_; clear hf fa; intro fa hf
          refine sqv hf (r_lt rfl rfl) rfl rfl rfl ?_; clear hf fa; intro fa hf
          apply wpList_nil
          (try simp only [Exit.then, Exit.inBlock, ↓reduceIte, Nat.reduceEqDiff])
          refine hK17 _ _ ?_
          refine wp_cond_split (t := (decide (((n : Nat) : Int) < ((l.length : Nat) : Int)))) (hf.ev rfl) (fun hqt59_1 => ?_) (fun hqt59_1 => ?_)
          · have hqt59_1b := hqt59_1
            try simp only [decide_eq_true_eq, Bool.and_eq_true, Bool.or_eq_true, Bool.not_eq_true', decide_eq_false_iff_not, ne_eq, Bool.not_eq_true] at hqt59_1
            refine wp_skip ?_
            (try simp only [Exit.then, Exit.inBlock, ↓reduceIte, Nat.reduceEqDiff])
            refine hK16 _ _ ?_
            refine wp_seq_k (fun K18 hK18 => ?_)
            refine wp_block ?_
            refine wp_seq_k (fun K19 hK19 => ?_)
            refine wp_region_lit ?_
            refine sqv hf (r_assign rfl) rfl rfl rfl ?_; clear hf fa; intro fa hf
            refine sqv hf (r_assign rfl) rfl rfl rfl ?_; clear hf fa; intro fa hf
            apply wpList_nil
            (try simp only [Exit.then, Exit.inBlock, ↓reduceIte, Nat.reduceEqDiff])
            refine hK19 _ _ ?_
            refine wp_seq_k (fun K20 hK20 => ?_)
            refine wp_seq_k (fun K21 hK21 => ?_)
            refine wp_region_lit ?_
            refine sqv hf (r_move rfl) rfl rfl rfl ?_; clear hf fa; intro fa hf
            refine sqv hf (r_move rfl) rfl rfl rfl ?_; clear hf fa; intro fa hf
            obtain ⟨y1, hy1⟩ : ∃ x, (l)[n]? = some x := ⟨_, List.getElem?_eq_getElem (by omega)⟩
            obtain ⟨ab1, aoff1, rfl, hlb1, hel1⟩ := RdS.at hr hy1
            refine sqv hf (r_ixa (sz := 4) (j := n) rfl rfl Try.underlying27 (by kernel_rfl) rfl (by omega) rfl) rfl rfl rfl ?_; clear hf fa; intro fa hf
            refine sqv hf (r_loadA (cs := [(.int .u8 y1.1), (.int .u64 y1.2.1), (.int .u64 y1.2.2.1), (.slice y1.2.2.2.1.at' y1.2.2.2.1.len y1.2.2.2.1.cap)]) rfl Try.underlying39 rfl (by kernel_rfl) (cellsAt_below hel1 hb hlb1)) rfl rfl rfl ?_; clear hf fa; intro fa hf
            refine sqdt hf (d_callB (vs := [(.agg #[(.int .u8 y1.1), (.int .u64 y1.2.1), (.int .u64 y1.2.2.1), (.slice y1.2.2.2.1.at' y1.2.2.2.1.len y1.2.2.2.1.cap)])]) rfl Try.func24 (by kernel_rfl) (by kernel_rfl) (ropens_any y1 _)) rfl rfl rfl ?_; clear hf fa; rintro fa _ w7 ⟨rfl, he5⟩ hf
            replace hkb1 := blk_ext hkb1 he5
            replace hrE := Row.ext hrE he5
            replace hrL := Row.ext hrL he5
            replace hb := hb.trans (Below.mono he5 hb.size)
            apply wpList_nil
            (try simp only [Exit.then, Exit.inBlock, ↓reduceIte, Nat.reduceEqDiff])
            refine hK21 _ _ ?_
            refine wp_cond_split (t := (opensI y1.1)) (hf.ev rfl) (fun hqt66_1 => ?_) (fun hqt66_1 => ?_)
            · have hqt66_1b := hqt66_1
              try simp only [decide_eq_true_eq, Bool.and_eq_true, Bool.or_eq_true, Bool.not_eq_true', decide_eq_false_iff_not, ne_eq, Bool.not_eq_true] at hqt66_1
              refine wp_region_lit ?_
              refine sqv hf (r_move rfl) rfl rfl rfl ?_; clear hf fa; intro fa hf
              refine sqv hf (r_move rfl) rfl rfl rfl ?_; clear hf fa; intro fa hf
              refine sqdt hf (d_callB (vs := [(.slice (some ⟨ab1, aoff1, none⟩) l.length c), (.int .i64 ((n : Nat) : Int))]) rfl Try.func25 (by kernel_rfl) (by kernel_rfl) (seek_any l (some ⟨ab1, aoff1, none⟩) c n _ (RdS.ext hr hb) hlc (by omega) (by omega))) rfl rfl rfl ?_; clear hf fa; rintro fa _ w8 ⟨rfl, he6⟩ hf
              replace hkb1 := blk_ext hkb1 he6
              replace hrE := Row.ext hrE he6
              replace hrL := Row.ext hrL he6
              replace hb := hb.trans (Below.mono he6 hb.size)
              refine sqv hf (r_move rfl) rfl rfl rfl ?_; clear hf fa; intro fa hf
              refine sqv hf (r_extract rfl (i := 0) rfl) rfl rfl rfl ?_; clear hf fa; intro fa hf
              refine sqv hf (r_extract rfl (i := 1) rfl) rfl rfl rfl ?_; clear hf fa; intro fa hf
              refine sqv hf (r_assign rfl) rfl rfl rfl ?_; clear hf fa; intro fa hf
              refine sqv hf (r_assign rfl) rfl rfl rfl ?_; clear hf fa; intro fa hf
              apply wpList_nil
              (try simp only [Exit.then, Exit.inBlock, ↓reduceIte, Nat.reduceEqDiff])
              refine hK20 _ _ ?_
              refine wp_seq_k (fun K22 hK22 => ?_)
              refine wp_region_lit ?_
              refine sqv hf (r_fa rfl Try.underlying30 (f := 0) (q := 0) rfl (by kernel_rfl) rfl) rfl rfl rfl ?_; clear hf fa; intro fa hf
              refine sqv hf (r_load (v := (.slice oa1 pn.length oc1)) rfl Try.underlying28 rfl (cell_blk hkb1 rfl)) rfl rfl rfl ?_; clear hf fa; intro fa hf
              refine sqv hf (r_move rfl) rfl rfl rfl ?_; clear hf fa; intro fa hf
              obtain ⟨rb1, rfl, hbbrb1, hlbrb1⟩ := Row.some hrE (by first | omega | (simp only [List.length_set, List.length_take, List.length_append, List.length_replicate, List.length_cons, List.length_nil]; omega))
              have hy2 := getD_at (l := pn) (j := n) (0 : Int) (by first | omega | (simp only [List.length_set, List.length_take, List.length_append, List.length_replicate, List.length_cons, List.length_nil]; omega))
              have hel2 := RdS.at (Row.rd (by intros; rfl) hrE) hy2
              obtain ⟨_, _, hab, hlr1, hel2⟩ := hel2
              cases hab
              refine sqv hf (r_ixa (sz := 1) (j := n) rfl rfl Try.underlying28 (by kernel_rfl) rfl (by omega) rfl) rfl rfl rfl ?_; clear hf fa; intro fa hf
              refine sqv hf (r_load (v := (.int .i64 ((pn.getD n (0 : Int))))) rfl Try.underlying3 rfl (cellsAt_cell hel2 (i := 0) rfl rfl)) rfl rfl rfl ?_; clear hf fa; intro fa hf
              refine sqv hf (r_move rfl) rfl rfl rfl ?_; clear hf fa; intro fa hf
              refine sqv hf (r_ne rfl rfl) rfl rfl rfl ?_; clear hf fa; intro fa hf
              refine sqv hf (r_move rfl) rfl rfl rfl ?_; clear hf fa; intro fa hf
              refine sqgF (act := (!(decide (((pn.getD n (0 : Int))) ≠ ((seekP (opl l) n).1))))) (ag := true) (c := (decide (((pn.getD n (0 : Int))) ≠ ((seekP (opl l) n).1)))) (v := (.pointer (some ⟨b1, 1, none⟩))) hf rfl rfl rfl (fun hact => (r_fa rfl Try.underlying30 (f := 1) (q := 1) rfl (by kernel_rfl) rfl)) rfl rfl ?_; clear hf fa; intro fa hf
              refine sqgF (act := (!(decide (((pn.getD n (0 : Int))) ≠ ((seekP (opl l) n).1))))) (ag := true) (c := (decide (((pn.getD n (0 : Int))) ≠ ((seekP (opl l) n).1)))) (v := (.slice oe1 pl.length od1)) hf rfl rfl rfl (fun hact => (r_load (v := (.slice oe1 pl.length od1)) (gb_ev hact rfl) Try.underlying28 rfl (cell_blk hkb1 rfl))) rfl rfl ?_; clear hf fa; intro fa hf
              refine sqgF (act := (!(decide (((pn.getD n (0 : Int))) ≠ ((seekP (opl l) n).1))))) (ag := true) (c := (decide (((pn.getD n (0 : Int))) ≠ ((seekP (opl l) n).1)))) (v := (.int .i64 ((n : Nat) : Int))) hf rfl rfl rfl (fun hact => (r_move rfl)) rfl rfl ?_; clear hf fa; intro fa hf
              obtain ⟨rb2, rfl, hbbrb2, hlbrb2⟩ := Row.some hrL (by first | omega | (simp only [List.length_set, List.length_take, List.length_append, List.length_replicate, List.length_cons, List.length_nil]; omega))
              have hy3 := getD_at (l := pl) (j := n) (0 : Int) (by first | omega | (simp only [List.length_set, List.length_take, List.length_append, List.length_replicate, List.length_cons, List.length_nil]; omega))
              have hel3 := RdS.at (Row.rd (by intros; rfl) hrL) hy3
              obtain ⟨_, _, hab, hlr2, hel3⟩ := hel3
              cases hab
              refine sqgF (act := (!(decide (((pn.getD n (0 : Int))) ≠ ((seekP (opl l) n).1))))) (ag := true) (c := (decide (((pn.getD n (0 : Int))) ≠ ((seekP (opl l) n).1)))) (v := (.pointer (some ⟨rb2, (0 + n * 1), none⟩))) hf rfl rfl rfl (fun hact => (by have hact0 := hact; simp only [Bool.and_eq_true, Bool.not_eq_true', decide_eq_true_eq, decide_eq_false_iff_not] at hact0; exact (r_ixa (sz := 1) (j := n) (gb_ev hact rfl) (gb_ev hact rfl) Try.underlying28 (by kernel_rfl) rfl (by omega) rfl))) rfl rfl ?_; clear hf fa; intro fa hf
              refine sqgF (act := (!(decide (((pn.getD n (0 : Int))) ≠ ((seekP (opl l) n).1))))) (ag := true) (c := (decide (((pn.getD n (0 : Int))) ≠ ((seekP (opl l) n).1)))) (v := (.int .i64 ((pl.getD n (0 : Int))))) hf rfl rfl rfl (fun hact => (r_load (v := (.int .i64 ((pl.getD n (0 : Int))))) (gb_ev hact rfl) Try.underlying3 rfl (cellsAt_cell hel3 (i := 0) rfl rfl))) rfl rfl ?_; clear hf fa; intro fa hf
              refine sqgF (act := (!(decide (((pn.getD n (0 : Int))) ≠ ((seekP (opl l) n).1))))) (ag := true) (c := (decide (((pn.getD n (0 : Int))) ≠ ((seekP (opl l) n).1)))) (v := (.int .i64 ((seekP (opl l) n).2))) hf rfl rfl rfl (fun hact => (r_move rfl)) rfl rfl ?_; clear hf fa; intro fa hf
              refine sqgF (act := (!(decide (((pn.getD n (0 : Int))) ≠ ((seekP (opl l) n).1))))) (ag := true) (c := (decide (((pn.getD n (0 : Int))) ≠ ((seekP (opl l) n).1)))) (v := (.bool (decide (((pl.getD n (0 : Int))) ≠ ((seekP (opl l) n).2))))) hf rfl rfl rfl (fun hact => (r_ne (gb_ev hact rfl) (gb_ev hact rfl))) rfl rfl ?_; clear hf fa; intro fa hf
              refine sqv hf (r_pickO (b := (decide (((pn.getD n (0 : Int))) ≠ ((seekP (opl l) n).1)))) (e := (decide (((pl.getD n (0 : Int))) ≠ ((seekP (opl l) n).2)))) rfl rfl rfl) rfl rfl rfl ?_; clear hf fa; intro fa hf
              apply wpList_nil
              (try simp only [Exit.then, Exit.inBlock, ↓reduceIte, Nat.reduceEqDiff])
              refine hK22 _ _ ?_
              refine wp_cond_split (t := ((decide (((pn.getD n (0 : Int))) ≠ ((seekP (opl l) n).1))) || (decide (((pl.getD n (0 : Int))) ≠ ((seekP (opl l) n).2))))) (hf.ev rfl) (fun hqt88_1 => ?_) (fun hqt88_1 => ?_)
              · have hqt88_1b := hqt88_1
                try simp only [decide_eq_true_eq, Bool.and_eq_true, Bool.or_eq_true, Bool.not_eq_true', decide_eq_false_iff_not, ne_eq, Bool.not_eq_true] at hqt88_1
                exfalso; have ho := ho3 n (by rw [opl_length]; omega); rw [opl_getD hy1, if_pos hqt66_1] at ho; have e1 := congrArg Prod.fst ho; have e2 := congrArg Prod.snd ho; simp only at e1 e2; rcases hqt88_1 with h | h; exact h e1; exact h e2
              · have hqt88_1b := hqt88_1
                replace hqt88_1 := Bool.eq_false_iff.1 hqt88_1
                try simp only [ne_eq, decide_eq_true_eq, Bool.and_eq_true, Bool.or_eq_true, Bool.not_eq_true', decide_eq_false_iff_not] at hqt88_1
                refine wp_skip ?_
                (try simp only [Exit.then, Exit.inBlock, ↓reduceIte, Nat.reduceEqDiff])
                refine hK18 _ _ ?_
                refine wp_region_lit ?_
                refine sqv hf (r_move rfl) rfl rfl rfl ?_; clear hf fa; intro fa hf
                refine sqv hf (r_add (C := (((n : Nat) : Int) + (1 : Int))) rfl rfl (by rw [IntKind.wrap_i64]; omega)) rfl rfl rfl ?_; clear hf fa; intro fa hf
                refine sqv hf (r_assign rfl) rfl rfl rfl ?_; clear hf fa; intro fa hf
                apply wpList_nil
                (try simp only [Exit.then, Exit.inBlock, ↓reduceIte, Nat.reduceEqDiff])
                refine hKL1 _ _ _ (by omega) ⟨(n + 1), rfl, hf.sub ⟨rfl, rfl, (some_int (by first | rfl | omega)), trivial⟩, hb, hrE, hrL, hkb1, by omega⟩
            · have hqt66_1b := hqt66_1
              replace hqt66_1 := Bool.eq_false_iff.1 hqt66_1
              try simp only [ne_eq, decide_eq_true_eq, Bool.and_eq_true, Bool.or_eq_true, Bool.not_eq_true', decide_eq_false_iff_not] at hqt66_1
              refine wp_skip ?_
              (try simp only [Exit.then, Exit.inBlock, ↓reduceIte, Nat.reduceEqDiff])
              refine hK20 _ _ ?_
              refine wp_seq_k (fun K23 hK23 => ?_)
              refine wp_region_lit ?_
              refine sqv hf (r_fa rfl Try.underlying30 (f := 0) (q := 0) rfl (by kernel_rfl) rfl) rfl rfl rfl ?_; clear hf fa; intro fa hf
              refine sqv hf (r_load (v := (.slice oa1 pn.length oc1)) rfl Try.underlying28 rfl (cell_blk hkb1 rfl)) rfl rfl rfl ?_; clear hf fa; intro fa hf
              refine sqv hf (r_move rfl) rfl rfl rfl ?_; clear hf fa; intro fa hf
              obtain ⟨rb3, rfl, hbbrb3, hlbrb3⟩ := Row.some hrE (by first | omega | (simp only [List.length_set, List.length_take, List.length_append, List.length_replicate, List.length_cons, List.length_nil]; omega))
              have hy4 := getD_at (l := pn) (j := n) (0 : Int) (by first | omega | (simp only [List.length_set, List.length_take, List.length_append, List.length_replicate, List.length_cons, List.length_nil]; omega))
              have hel4 := RdS.at (Row.rd (by intros; rfl) hrE) hy4
              obtain ⟨_, _, hab, hlr3, hel4⟩ := hel4
              cases hab
              refine sqv hf (r_ixa (sz := 1) (j := n) rfl rfl Try.underlying28 (by kernel_rfl) rfl (by omega) rfl) rfl rfl rfl ?_; clear hf fa; intro fa hf
              refine sqv hf (r_load (v := (.int .i64 ((pn.getD n (0 : Int))))) rfl Try.underlying3 rfl (cellsAt_cell hel4 (i := 0) rfl rfl)) rfl rfl rfl ?_; clear hf fa; intro fa hf
              refine sqv hf (r_move rfl) rfl rfl rfl ?_; clear hf fa; intro fa hf
              refine sqv hf (r_ne rfl rfl) rfl rfl rfl ?_; clear hf fa; intro fa hf
              refine sqv hf (r_move rfl) rfl rfl rfl ?_; clear hf fa; intro fa hf
              refine sqgF (act := (!(decide (((pn.getD n (0 : Int))) ≠ (-1 : Int))))) (ag := true) (c := (decide (((pn.getD n (0 : Int))) ≠ (-1 : Int)))) (v := (.pointer (some ⟨b1, 1, none⟩))) hf rfl rfl rfl (fun hact => (r_fa rfl Try.underlying30 (f := 1) (q := 1) rfl (by kernel_rfl) rfl)) rfl rfl ?_; clear hf fa; intro fa hf
              refine sqgF (act := (!(decide (((pn.getD n (0 : Int))) ≠ (-1 : Int))))) (ag := true) (c := (decide (((pn.getD n (0 : Int))) ≠ (-1 : Int)))) (v := (.slice oe1 pl.length od1)) hf rfl rfl rfl (fun hact => (r_load (v := (.slice oe1 pl.length od1)) (gb_ev hact rfl) Try.underlying28 rfl (cell_blk hkb1 rfl))) rfl rfl ?_; clear hf fa; intro fa hf
              refine sqgF (act := (!(decide (((pn.getD n (0 : Int))) ≠ (-1 : Int))))) (ag := true) (c := (decide (((pn.getD n (0 : Int))) ≠ (-1 : Int)))) (v := (.int .i64 ((n : Nat) : Int))) hf rfl rfl rfl (fun hact => (r_move rfl)) rfl rfl ?_; clear hf fa; intro fa hf
              obtain ⟨rb4, rfl, hbbrb4, hlbrb4⟩ := Row.some hrL (by first | omega | (simp only [List.length_set, List.length_take, List.length_append, List.length_replicate, List.length_cons, List.length_nil]; omega))
              have hy5 := getD_at (l := pl) (j := n) (0 : Int) (by first | omega | (simp only [List.length_set, List.length_take, List.length_append, List.length_replicate, List.length_cons, List.length_nil]; omega))
              have hel5 := RdS.at (Row.rd (by intros; rfl) hrL) hy5
              obtain ⟨_, _, hab, hlr4, hel5⟩ := hel5
              cases hab
              refine sqgF (act := (!(decide (((pn.getD n (0 : Int))) ≠ (-1 : Int))))) (ag := true) (c := (decide (((pn.getD n (0 : Int))) ≠ (-1 : Int)))) (v := (.pointer (some ⟨rb4, (0 + n * 1), none⟩))) hf rfl rfl rfl (fun hact => (by have hact0 := hact; simp only [Bool.and_eq_true, Bool.not_eq_true', decide_eq_true_eq, decide_eq_false_iff_not] at hact0; exact (r_ixa (sz := 1) (j := n) (gb_ev hact rfl) (gb_ev hact rfl) Try.underlying28 (by kernel_rfl) rfl (by omega) rfl))) rfl rfl ?_; clear hf fa; intro fa hf
              refine sqgF (act := (!(decide (((pn.getD n (0 : Int))) ≠ (-1 : Int))))) (ag := true) (c := (decide (((pn.getD n (0 : Int))) ≠ (-1 : Int)))) (v := (.int .i64 ((pl.getD n (0 : Int))))) hf rfl rfl rfl (fun hact => (r_load (v := (.int .i64 ((pl.getD n (0 : Int))))) (gb_ev hact rfl) Try.underlying3 rfl (cellsAt_cell hel5 (i := 0) rfl rfl))) rfl rfl ?_; clear hf fa; intro fa hf
              refine sqgF (act := (!(decide (((pn.getD n (0 : Int))) ≠ (-1 : Int))))) (ag := true) (c := (decide (((pn.getD n (0 : Int))) ≠ (-1 : Int)))) (v := (.int .i64 (-1 : Int))) hf rfl rfl rfl (fun hact => (r_move rfl)) rfl rfl ?_; clear hf fa; intro fa hf
              refine sqgF (act := (!(decide (((pn.getD n (0 : Int))) ≠ (-1 : Int))))) (ag := true) (c := (decide (((pn.getD n (0 : Int))) ≠ (-1 : Int)))) (v := (.bool (decide (((pl.getD n (0 : Int))) ≠ (-1 : Int))))) hf rfl rfl rfl (fun hact => (r_ne (gb_ev hact rfl) (gb_ev hact rfl))) rfl rfl ?_; clear hf fa; intro fa hf
              refine sqv hf (r_pickO (b := (decide (((pn.getD n (0 : Int))) ≠ (-1 : Int)))) (e := (decide (((pl.getD n (0 : Int))) ≠ (-1 : Int)))) rfl rfl rfl) rfl rfl rfl ?_; clear hf fa; intro fa hf
              apply wpList_nil
              (try simp only [Exit.then, Exit.inBlock, ↓reduceIte, Nat.reduceEqDiff])
              refine hK23 _ _ ?_
              refine wp_cond_split (t := ((decide (((pn.getD n (0 : Int))) ≠ (-1 : Int))) || (decide (((pl.getD n (0 : Int))) ≠ (-1 : Int))))) (hf.ev rfl) (fun hqt88_2 => ?_) (fun hqt88_2 => ?_)
              · have hqt88_2b := hqt88_2
                try simp only [decide_eq_true_eq, Bool.and_eq_true, Bool.or_eq_true, Bool.not_eq_true', decide_eq_false_iff_not, ne_eq, Bool.not_eq_true] at hqt88_2
                exfalso; have ho := ho3 n (by rw [opl_length]; omega); rw [opl_getD hy1, if_neg hqt66_1] at ho; have e1 := congrArg Prod.fst ho; have e2 := congrArg Prod.snd ho; simp only at e1 e2; rcases hqt88_2 with h | h; exact h e1; exact h e2
              · have hqt88_2b := hqt88_2
                replace hqt88_2 := Bool.eq_false_iff.1 hqt88_2
                try simp only [ne_eq, decide_eq_true_eq, Bool.and_eq_true, Bool.or_eq_true, Bool.not_eq_true', decide_eq_false_iff_not] at hqt88_2
                refine wp_skip ?_
                (try simp only [Exit.then, Exit.inBlock, ↓reduceIte, Nat.reduceEqDiff])
                refine hK18 _ _ ?_
                refine wp_region_lit ?_
                refine sqv hf (r_move rfl) rfl rfl rfl ?_; clear hf fa; intro fa hf
                refine sqv hf (r_add (C := (((n : Nat) : Int) + (1 : Int))) rfl rfl (by rw [IntKind.wrap_i64]; omega)) rfl rfl rfl ?_; clear hf fa; intro fa hf
                refine sqv hf (r_assign rfl) rfl rfl rfl ?_; clear hf fa; intro fa hf
                apply wpList_nil
                (try simp only [Exit.then, Exit.inBlock, ↓reduceIte, Nat.reduceEqDiff])
                refine hKL1 _ _ _ (by omega) ⟨(n + 1), rfl, hf.sub ⟨rfl, rfl, (some_int (by first | rfl | omega)), trivial⟩, hb, hrE, hrL, hkb1, by omega⟩
          · have hqt59_1b := hqt59_1
            replace hqt59_1 := Bool.eq_false_iff.1 hqt59_1
            try simp only [ne_eq, decide_eq_true_eq, Bool.and_eq_true, Bool.or_eq_true, Bool.not_eq_true', decide_eq_false_iff_not] at hqt59_1
            refine wp_exit ?_
            (try simp only [Exit.then, Exit.inBlock, ↓reduceIte, Nat.reduceEqDiff])
            refine hK14 _ _ ?_
            refine wp_seq_k (fun K24 hK24 => ?_)
            refine wp_region_lit ?_
            refine sqv hf (r_assign rfl) rfl rfl rfl ?_; clear hf fa; intro fa hf
            apply wpList_nil
            (try simp only [Exit.then, Exit.inBlock, ↓reduceIte, Nat.reduceEqDiff])
            refine hK24 _ _ ?_
            refine wp_ret ?_
            (try simp only [Exit.then, Exit.inBlock])
            refine ret1 hf rfl rfl ?_
            exact ⟨rfl, hb⟩

set_option maxHeartbeats 1000000 in
set_option maxRecDepth 100000 in
theorem flowDepths_any (l : List Ins) (a : Option Addr) (c : Nat) (w : World) (hr : RdS 4 vIns w a l) (hlc : l.length ≤ c) : Calls Try.prog 10 #[(.slice a l.length c)] w fun e w' => e = .returned (.bool true) ∧ Below w.heap.size w w' := by
  have hdb := depthsP_bd (opl l)
  refine sx_enter (L := [(0, (.slice a l.length c))]) Try.func10 rfl rfl rfl rfl (fun fa hf => ?_)
  have hb : Below w.heap.size w w := Below.refl _ _
  refine wp_seq_k (fun K1 hK1 => ?_)
  refine wp_region_lit ?_
  refine sqv hf (r_assign rfl) rfl rfl rfl ?_; clear hf fa; intro fa hf
  apply wpList_nil
  (try simp only [Exit.then, Exit.inBlock, ↓reduceIte, Nat.reduceEqDiff])
  refine hK1 _ _ ?_
  refine wp_seq_k (fun K2 hK2 => ?_)
  refine wp_seq_k (fun K3 hK3 => ?_)
  refine wp_region_lit ?_
  refine sqdt hf (d_callB (vs := []) rfl Try.func21 (by kernel_rfl) (by kernel_rfl) (awake_any _)) rfl rfl rfl ?_; clear hf fa; rintro fa _ w1 ⟨rfl, he1⟩ hf
  replace hb := hb.trans (Below.mono he1 hb.size)
  refine sqv hf (r_not rfl) rfl rfl rfl ?_; clear hf fa; intro fa hf
  apply wpList_nil
  (try simp only [Exit.then, Exit.inBlock, ↓reduceIte, Nat.reduceEqDiff])
  refine hK3 _ _ ?_
  refine wp_cond_false ((hf.ev rfl).trans (congrArg Value.bool (show (!true) = false from rfl))) ?_
  refine wp_skip ?_
  (try simp only [Exit.then, Exit.inBlock, ↓reduceIte, Nat.reduceEqDiff])
  refine hK2 _ _ ?_
  refine wp_seq_k (fun K4 hK4 => ?_)
  refine wp_seq_k (fun K5 hK5 => ?_)
  refine wp_region_lit ?_
  refine sqv hf (r_move rfl) rfl rfl rfl ?_; clear hf fa; intro fa hf
  refine sqv hf (r_lensl rfl Try.underlying27) rfl rfl rfl ?_; clear hf fa; intro fa hf
  refine sqv hf (r_gt rfl rfl) rfl rfl rfl ?_; clear hf fa; intro fa hf
  apply wpList_nil
  (try simp only [Exit.then, Exit.inBlock, ↓reduceIte, Nat.reduceEqDiff])
  refine hK5 _ _ ?_
  refine wp_cond_split (t := (decide ((60 : Int) < ((l.length : Nat) : Int)))) (hf.ev rfl) (fun hqt11_1 => ?_) (fun hqt11_1 => ?_)
  · have hqt11_1b := hqt11_1
    try simp only [decide_eq_true_eq, Bool.and_eq_true, Bool.or_eq_true, Bool.not_eq_true', decide_eq_false_iff_not, ne_eq, Bool.not_eq_true] at hqt11_1
    refine wp_seq_k (fun K6 hK6 => ?_)
    refine wp_region_lit ?_
    refine sqv hf (r_assign rfl) rfl rfl rfl ?_; clear hf fa; intro fa hf
    apply wpList_nil
    (try simp only [Exit.then, Exit.inBlock, ↓reduceIte, Nat.reduceEqDiff])
    refine hK6 _ _ ?_
    refine wp_ret ?_
    (try simp only [Exit.then, Exit.inBlock])
    refine ret1 hf rfl rfl ?_
    exact ⟨rfl, hb⟩
  · have hqt11_1b := hqt11_1
    replace hqt11_1 := Bool.eq_false_iff.1 hqt11_1
    try simp only [ne_eq, decide_eq_true_eq, Bool.and_eq_true, Bool.or_eq_true, Bool.not_eq_true', decide_eq_false_iff_not] at hqt11_1
    refine wp_skip ?_
    (try simp only [Exit.then, Exit.inBlock, ↓reduceIte, Nat.reduceEqDiff])
    refine hK4 _ _ ?_
    refine wp_seq_k (fun K7 hK7 => ?_)
    refine wp_region_lit ?_
    refine sqv hf (r_move rfl) rfl rfl rfl ?_; clear hf fa; intro fa hf
    refine sqdt hf (d_callX (vs := [(.slice a l.length c)]) rfl Try.func41 (by kernel_rfl) (by kernel_rfl) (depths_any l a c _ (RdS.ext hr hb) hlc (by omega))) rfl rfl rfl ?_; clear hf fa; rintro fa v w2 ⟨hr1, he2⟩ hf; obtain ⟨ra1, rc1, rfl, hcrc1, hmrc1⟩ := Row.slice hr1
    replace hr1 := Row.rebase hr1 hb.size
    replace hb := hb.trans (Below.mono he2 hb.size)
    refine sqv hf (r_assign rfl) rfl rfl rfl ?_; clear hf fa; intro fa hf
    refine sqv hf (r_assign rfl) rfl rfl rfl ?_; clear hf fa; intro fa hf
    apply wpList_nil
    (try simp only [Exit.then, Exit.inBlock, ↓reduceIte, Nat.reduceEqDiff])
    refine hK7 _ _ ?_
    refine wp_seq_k (fun K8 hK8 => ?_)
    refine wp_seq_k (fun K9 hK9 => ?_)
    refine wp_region_lit ?_
    refine sqv hf (r_move rfl) rfl rfl rfl ?_; clear hf fa; intro fa hf
    refine sqdt hf (d_callB (vs := [(.slice a l.length c)]) rfl Try.func23 (by kernel_rfl) (by kernel_rfl) (by have h := rshape_any l a c _ (RdS.ext hr hb) hlc (by omega); rw [rshape_eq] at h; exact h)) rfl rfl rfl ?_; clear hf fa; rintro fa _ w3 ⟨rfl, he3⟩ hf
    replace hr1 := Row.ext hr1 he3
    replace hb := hb.trans (Below.mono he3 hb.size)
    refine sqv hf (r_ne rfl rfl) rfl rfl rfl ?_; clear hf fa; intro fa hf
    apply wpList_nil
    (try simp only [Exit.then, Exit.inBlock, ↓reduceIte, Nat.reduceEqDiff])
    refine hK9 _ _ ?_
    refine wp_cond_split (t := (decide (((shapeP (opl l))) ≠ (0 : Int)))) (hf.ev rfl) (fun hqt16_1 => ?_) (fun hqt16_1 => ?_)
    · have hqt16_1b := hqt16_1
      try simp only [decide_eq_true_eq, Bool.and_eq_true, Bool.or_eq_true, Bool.not_eq_true', decide_eq_false_iff_not, ne_eq, Bool.not_eq_true] at hqt16_1
      refine wp_seq_k (fun K10 hK10 => ?_)
      refine wp_region_lit ?_
      refine sqv hf (r_move rfl) rfl rfl rfl ?_; clear hf fa; intro fa hf
      refine sqv hf (r_lensl rfl Try.underlying28) rfl rfl rfl ?_; clear hf fa; intro fa hf
      refine sqv hf (r_eq rfl rfl) rfl rfl rfl ?_; clear hf fa; intro fa hf
      refine sqv hf (r_move rfl) rfl rfl rfl ?_; clear hf fa; intro fa hf
      refine sqgd (act := true) (g := 3) (want := true) (ag := true) (c := (decide (((((depthsP (opl l))).length : Nat) : Int) = (0 : Int)))) hf (by rfl) (by rfl) (by have hd0 : depthsP (opl l) = [] := (by rw [depthsP, if_pos hqt16_1]); simp [hd0]) (fun _ =>  Runs.does (R := fun u x => u = (.slice a l.length c) ∧ x = w3) (r_move rfl) ⟨rfl, rfl⟩) (fun h => by cases h) rfl ?_; clear hf fa; rintro fa _ _ ⟨rfl, rfl⟩ hf
      change Fr _ _ ((21, (.slice a l.length c)) :: _) at hf
      refine sqgd (act := true) (g := 3) (want := true) (ag := true) (c := (decide (((((depthsP (opl l))).length : Nat) : Int) = (0 : Int)))) hf (by rfl) (by rfl) (by have hd0 : depthsP (opl l) = [] := (by rw [depthsP, if_pos hqt16_1]); simp [hd0]) (fun _ =>  (d_callB (vs := [(.slice a l.length c)]) rfl Try.func42 (by kernel_rfl) (by kernel_rfl) (deepest_any l a c _ (RdS.ext hr hb) hlc (by omega))) ) (fun h => by cases h) rfl ?_; clear hf fa; rintro fa _ w4 ⟨rfl, he4⟩ hf
      replace hr1 := Row.ext hr1 he4
      replace hb := hb.trans (Below.mono he4 hb.size)
      change Fr _ _ ((22, (.int .i64 ((deepR (opl l) (depthsP (opl l)) 0)))) :: _) at hf
      refine sqgT (act := (decide (((((depthsP (opl l))).length : Nat) : Int) = (0 : Int)))) (ag := true) (c := (decide (((((depthsP (opl l))).length : Nat) : Int) = (0 : Int)))) (v := (.bool (decide (((deepR (opl l) (depthsP (opl l)) 0)) = (0 : Int))))) hf rfl rfl rfl (fun hact => (r_eq rfl rfl)) rfl rfl ?_; clear hf fa; intro fa hf
      refine sqv hf (r_pickA (b := (decide (((((depthsP (opl l))).length : Nat) : Int) = (0 : Int)))) (e := (decide (((deepR (opl l) (depthsP (opl l)) 0)) = (0 : Int)))) rfl rfl rfl) rfl rfl rfl ?_; clear hf fa; intro fa hf
      refine sqv hf (r_assign rfl) rfl rfl rfl ?_; clear hf fa; intro fa hf
      apply wpList_nil
      (try simp only [Exit.then, Exit.inBlock, ↓reduceIte, Nat.reduceEqDiff])
      refine hK10 _ _ ?_
      refine wp_ret ?_
      (try simp only [Exit.then, Exit.inBlock])
      refine ret1 hf rfl rfl ?_
      have hd0 : depthsP (opl l) = [] := by rw [depthsP, if_pos hqt16_1]
      rw [hd0, deepR_nil]
      exact ⟨congrArg (fun b => Ending.returned (.bool b)) (by simp), hb⟩
    · have hqt16_1b := hqt16_1
      replace hqt16_1 := Bool.eq_false_iff.1 hqt16_1
      try simp only [ne_eq, decide_eq_true_eq, Bool.and_eq_true, Bool.or_eq_true, Bool.not_eq_true', decide_eq_false_iff_not] at hqt16_1
      refine wp_skip ?_
      (try simp only [Exit.then, Exit.inBlock, ↓reduceIte, Nat.reduceEqDiff])
      refine hK8 _ _ ?_
      refine wp_seq_k (fun K11 hK11 => ?_)
      refine wp_seq_k (fun K12 hK12 => ?_)
      have hs := Decidable.of_not_not hqt16_1
      have hdl : (depthsP (opl l)).length = l.length := by rw [depthsP, if_neg hqt16_1, dlR_length, opl_length]
      refine wp_region_lit ?_
      refine sqv hf (r_move rfl) rfl rfl rfl ?_; clear hf fa; intro fa hf
      refine sqv hf (r_lensl rfl Try.underlying28) rfl rfl rfl ?_; clear hf fa; intro fa hf
      refine sqv hf (r_move rfl) rfl rfl rfl ?_; clear hf fa; intro fa hf
      refine sqv hf (r_lensl rfl Try.underlying27) rfl rfl rfl ?_; clear hf fa; intro fa hf
      refine sqv hf (r_ne rfl rfl) rfl rfl rfl ?_; clear hf fa; intro fa hf
      apply wpList_nil
      (try simp only [Exit.then, Exit.inBlock, ↓reduceIte, Nat.reduceEqDiff])
      refine hK12 _ _ ?_
      refine wp_cond_split (t := (decide (((((depthsP (opl l))).length : Nat) : Int) ≠ ((l.length : Nat) : Int)))) (hf.ev rfl) (fun hqt29_1 => ?_) (fun hqt29_1 => ?_)
      · have hqt29_1b := hqt29_1
        try simp only [decide_eq_true_eq, Bool.and_eq_true, Bool.or_eq_true, Bool.not_eq_true', decide_eq_false_iff_not, ne_eq, Bool.not_eq_true] at hqt29_1
        exfalso; have h := hqt29_1; omega
      · have hqt29_1b := hqt29_1
        replace hqt29_1 := Bool.eq_false_iff.1 hqt29_1
        try simp only [ne_eq, decide_eq_true_eq, Bool.and_eq_true, Bool.or_eq_true, Bool.not_eq_true', decide_eq_false_iff_not] at hqt29_1
        refine wp_skip ?_
        (try simp only [Exit.then, Exit.inBlock, ↓reduceIte, Nat.reduceEqDiff])
        refine hK11 _ _ ?_
        refine wp_seq_k (fun K13 hK13 => ?_)
        refine wp_seq_k (fun K14 hK14 => ?_)
        refine wp_region_lit ?_
        refine sqv hf (r_assign rfl) rfl rfl rfl ?_; clear hf fa; intro fa hf
        apply wpList_nil
        (try simp only [Exit.then, Exit.inBlock, ↓reduceIte, Nat.reduceEqDiff])
        refine hK14 _ _ ?_
        refine wp_block ?_
        refine wp_loop_k (fun m fa wr => ∃ (n : Nat) (q : Int) (rda : Option Addr) (rdc : Nat), m = l.length - n ∧ Fr 59 fa [(0, (.slice a l.length c)), (4, (.int .i64 q)), (5, (.int .i64 ((n : Nat) : Int))), (3, (.slice rda (((depthsP (opl l))).length) rdc))] ∧ Below w.heap.size w wr ∧ Row 1 (vInt .i64) 3 (w.heap.size) wr (.slice rda (((depthsP (opl l))).length) rdc) (depthsP (opl l)) ∧ (n ≤ l.length) ∧ (deepR ((opl l).drop n) ((depthsP (opl l)).drop n) q = deepR (opl l) (depthsP (opl l)) 0)) ?_ ?_
        · skip
          exact ⟨_, 0, 0, ra1, rc1, rfl, hf.sub ⟨rfl, (some_int (by first | rfl | omega)), (some_int (by first | rfl | omega)), rfl, trivial⟩, hb, (Row.relen hr1), by omega, rfl⟩
        · skip
          clear hf fa; intro m1 fa w5 hI KL1 hKL1
          clear hb
          clear hr1
          obtain ⟨n, q, rda, rdc, hm1, hf, hb, hrd, hn, Hs⟩ := hI
          have hcrd := Row.caps hrd
          refine wp_seq_k (fun K15 hK15 => ?_)
          refine wp_seq_k (fun K16 hK16 => ?_)
          refine wp_region_lit ?_
          refine sqv hf (r_move rfl) rfl rfl rfl ?_; clear hf fa; intro fa hf
          refine sqv hf (r_move rfl) rfl rfl rfl ?_; clear hf fa; intro fa hf
          refine sqv hf (r_lensl rfl Try.underlying27) rfl rfl rfl ?_; clear hf fa; intro fa hf
          refine sqv hf (r_lt rfl rfl) rfl rfl rfl ?_; clear hf fa; intro fa hf
          apply wpList_nil
          (try simp only [Exit.then, Exit.inBlock, ↓reduceIte, Nat.reduceEqDiff])
          refine hK16 _ _ ?_
          refine wp_cond_split (t := (decide (((n : Nat) : Int) < ((l.length : Nat) : Int)))) (hf.ev rfl) (fun hqt33_1 => ?_) (fun hqt33_1 => ?_)
          · have hqt33_1b := hqt33_1
            try simp only [decide_eq_true_eq, Bool.and_eq_true, Bool.or_eq_true, Bool.not_eq_true', decide_eq_false_iff_not, ne_eq, Bool.not_eq_true] at hqt33_1
            refine wp_skip ?_
            (try simp only [Exit.then, Exit.inBlock, ↓reduceIte, Nat.reduceEqDiff])
            refine hK15 _ _ ?_
            refine wp_seq_k (fun K17 hK17 => ?_)
            refine wp_block ?_
            refine wp_seq_k (fun K18 hK18 => ?_)
            refine wp_region_lit ?_
            refine sqv hf (r_move rfl) rfl rfl rfl ?_; clear hf fa; intro fa hf
            refine sqv hf (r_move rfl) rfl rfl rfl ?_; clear hf fa; intro fa hf
            refine sqdt hf (d_callB (vs := [(.slice a l.length c), (.int .i64 ((n : Nat) : Int))]) rfl Try.func43 (by kernel_rfl) (by kernel_rfl) (depth_any l a c n _ (RdS.ext hr hb) hlc (by omega) (by omega))) rfl rfl rfl ?_; clear hf fa; rintro fa _ w6 ⟨rfl, he5⟩ hf
            replace hrd := Row.ext hrd he5
            replace hb := hb.trans (Below.mono he5 hb.size)
            refine sqv hf (r_assign rfl) rfl rfl rfl ?_; clear hf fa; intro fa hf
            apply wpList_nil
            (try simp only [Exit.then, Exit.inBlock, ↓reduceIte, Nat.reduceEqDiff])
            refine hK18 _ _ ?_
            refine wp_seq_k (fun K19 hK19 => ?_)
            refine wp_seq_k (fun K20 hK20 => ?_)
            refine wp_region_lit ?_
            refine sqv hf (r_move rfl) rfl rfl rfl ?_; clear hf fa; intro fa hf
            refine sqv hf (r_move rfl) rfl rfl rfl ?_; clear hf fa; intro fa hf
            obtain ⟨rb1, rfl, hbbrb1, hlbrb1⟩ := Row.some hrd (by first | omega | (simp only [List.length_set, List.length_take, List.length_append, List.length_replicate, List.length_cons, List.length_nil]; omega))
            have hy1 := getD_at (l := (depthsP (opl l))) (j := n) (0 : Int) (by first | omega | (simp only [List.length_set, List.length_take, List.length_append, List.length_replicate, List.length_cons, List.length_nil]; omega))
            have hel1 := RdS.at (Row.rd (by intros; rfl) hrd) hy1
            obtain ⟨_, _, hab, hlr1, hel1⟩ := hel1
            cases hab
            refine sqv hf (r_ixa (sz := 1) (j := n) rfl rfl Try.underlying28 (by kernel_rfl) rfl (by omega) rfl) rfl rfl rfl ?_; clear hf fa; intro fa hf
            refine sqv hf (r_load (v := (.int .i64 (((depthsP (opl l)).getD n (0 : Int))))) rfl Try.underlying3 rfl (cellsAt_cell hel1 (i := 0) rfl rfl)) rfl rfl rfl ?_; clear hf fa; intro fa hf
            refine sqv hf (r_move rfl) rfl rfl rfl ?_; clear hf fa; intro fa hf
            refine sqv hf (r_ne rfl rfl) rfl rfl rfl ?_; clear hf fa; intro fa hf
            apply wpList_nil
            (try simp only [Exit.then, Exit.inBlock, ↓reduceIte, Nat.reduceEqDiff])
            refine hK20 _ _ ?_
            refine wp_cond_split (t := (decide ((((depthsP (opl l)).getD n (0 : Int))) ≠ ((depthP (opl l) n))))) (hf.ev rfl) (fun hqt44_1 => ?_) (fun hqt44_1 => ?_)
            · have hqt44_1b := hqt44_1
              try simp only [decide_eq_true_eq, Bool.and_eq_true, Bool.or_eq_true, Bool.not_eq_true', decide_eq_false_iff_not, ne_eq, Bool.not_eq_true] at hqt44_1
              exfalso; exact hqt44_1 (depths_eq (opl l) hs n (by rw [opl_length]; omega))
            · have hqt44_1b := hqt44_1
              replace hqt44_1 := Bool.eq_false_iff.1 hqt44_1
              try simp only [ne_eq, decide_eq_true_eq, Bool.and_eq_true, Bool.or_eq_true, Bool.not_eq_true', decide_eq_false_iff_not] at hqt44_1
              refine wp_skip ?_
              (try simp only [Exit.then, Exit.inBlock, ↓reduceIte, Nat.reduceEqDiff])
              refine hK19 _ _ ?_
              refine wp_seq_k (fun K21 hK21 => ?_)
              refine wp_seq_k (fun K22 hK22 => ?_)
              refine wp_region_lit ?_
              refine sqv hf (r_move rfl) rfl rfl rfl ?_; clear hf fa; intro fa hf
              refine sqv hf (r_move rfl) rfl rfl rfl ?_; clear hf fa; intro fa hf
              obtain ⟨y1, hy2⟩ : ∃ x, (l)[n]? = some x := ⟨_, List.getElem?_eq_getElem (by omega)⟩
              obtain ⟨ab1, aoff1, rfl, hlb1, hel2⟩ := RdS.at hr hy2
              refine sqv hf (r_ixa (sz := 4) (j := n) rfl rfl Try.underlying27 (by kernel_rfl) rfl (by omega) rfl) rfl rfl rfl ?_; clear hf fa; intro fa hf
              refine sqv hf (r_loadA (cs := [(.int .u8 y1.1), (.int .u64 y1.2.1), (.int .u64 y1.2.2.1), (.slice y1.2.2.2.1.at' y1.2.2.2.1.len y1.2.2.2.1.cap)]) rfl Try.underlying39 rfl (by kernel_rfl) (cellsAt_below hel2 hb hlb1)) rfl rfl rfl ?_; clear hf fa; intro fa hf
              refine sqdt hf (d_callB (vs := [(.agg #[(.int .u8 y1.1), (.int .u64 y1.2.1), (.int .u64 y1.2.2.1), (.slice y1.2.2.2.1.at' y1.2.2.2.1.len y1.2.2.2.1.cap)])]) rfl Try.func24 (by kernel_rfl) (by kernel_rfl) (ropens_any y1 _)) rfl rfl rfl ?_; clear hf fa; rintro fa _ w7 ⟨rfl, he6⟩ hf
              replace hrd := Row.ext hrd he6
              replace hb := hb.trans (Below.mono he6 hb.size)
              apply wpList_nil
              (try simp only [Exit.then, Exit.inBlock, ↓reduceIte, Nat.reduceEqDiff])
              refine hK22 _ _ ?_
              refine wp_cond_split (t := (opensI y1.1)) (hf.ev rfl) (fun hqt49_1 => ?_) (fun hqt49_1 => ?_)
              · have hqt49_1b := hqt49_1
                try simp only [decide_eq_true_eq, Bool.and_eq_true, Bool.or_eq_true, Bool.not_eq_true', decide_eq_false_iff_not, ne_eq, Bool.not_eq_true] at hqt49_1
                have hq := hdb _ (getD_mem' (l := depthsP (opl l)) (j := n) (by omega)); rw [opl_length, depths_eq (opl l) hs n (by rw [opl_length]; omega)] at hq
                refine wp_region_lit ?_
                refine sqv hf (r_move rfl) rfl rfl rfl ?_; clear hf fa; intro fa hf
                refine sqv hf (r_add (C := (((depthP (opl l) n)) + (1 : Int))) rfl rfl (by rw [IntKind.wrap_i64]; omega)) rfl rfl rfl ?_; clear hf fa; intro fa hf
                refine sqv hf (r_assign rfl) rfl rfl rfl ?_; clear hf fa; intro fa hf
                apply wpList_nil
                (try simp only [Exit.then, Exit.inBlock, ↓reduceIte, Nat.reduceEqDiff])
                refine hK21 _ _ ?_
                refine wp_region_lit ?_
                refine sqv hf (r_move rfl) rfl rfl rfl ?_; clear hf fa; intro fa hf
                refine sqv hf (r_move rfl) rfl rfl rfl ?_; clear hf fa; intro fa hf
                refine sqv hf (r_max rfl rfl) rfl rfl rfl ?_; clear hf fa; intro fa hf
                refine sqv hf (r_assign rfl) rfl rfl rfl ?_; clear hf fa; intro fa hf
                apply wpList_nil
                (try simp only [Exit.then, Exit.inBlock, ↓reduceIte, Nat.reduceEqDiff])
                refine hK17 _ _ ?_
                refine wp_region_lit ?_
                refine sqv hf (r_move rfl) rfl rfl rfl ?_; clear hf fa; intro fa hf
                refine sqv hf (r_add (C := (((n : Nat) : Int) + (1 : Int))) rfl rfl (by rw [IntKind.wrap_i64]; omega)) rfl rfl rfl ?_; clear hf fa; intro fa hf
                refine sqv hf (r_assign rfl) rfl rfl rfl ?_; clear hf fa; intro fa hf
                apply wpList_nil
                (try simp only [Exit.then, Exit.inBlock, ↓reduceIte, Nat.reduceEqDiff])
                refine hKL1 _ _ _ (by omega) ⟨(n + 1), (if q < (((depthP (opl l) n)) + (1 : Int)) then (((depthP (opl l) n)) + (1 : Int)) else q), (some ⟨rb1, 0, none⟩), rdc, rfl, hf.sub ⟨rfl, rfl, (some_int (by first | rfl | omega)), rfl, trivial⟩, hb, (Row.relen hrd), by omega, (by have h := Hs; rw [opl_drop hy2, drop_getD (l := depthsP (opl l)) (n := n) (by omega), deepR, if_pos hqt49_1, depths_eq (opl l) hs n (by rw [opl_length]; omega)] at h; exact h)⟩
              · have hqt49_1b := hqt49_1
                replace hqt49_1 := Bool.eq_false_iff.1 hqt49_1
                try simp only [ne_eq, decide_eq_true_eq, Bool.and_eq_true, Bool.or_eq_true, Bool.not_eq_true', decide_eq_false_iff_not] at hqt49_1
                refine wp_skip ?_
                (try simp only [Exit.then, Exit.inBlock, ↓reduceIte, Nat.reduceEqDiff])
                refine hK21 _ _ ?_
                refine wp_region_lit ?_
                refine sqv hf (r_move rfl) rfl rfl rfl ?_; clear hf fa; intro fa hf
                refine sqv hf (r_move rfl) rfl rfl rfl ?_; clear hf fa; intro fa hf
                refine sqv hf (r_max rfl rfl) rfl rfl rfl ?_; clear hf fa; intro fa hf
                refine sqv hf (r_assign rfl) rfl rfl rfl ?_; clear hf fa; intro fa hf
                apply wpList_nil
                (try simp only [Exit.then, Exit.inBlock, ↓reduceIte, Nat.reduceEqDiff])
                refine hK17 _ _ ?_
                refine wp_region_lit ?_
                refine sqv hf (r_move rfl) rfl rfl rfl ?_; clear hf fa; intro fa hf
                refine sqv hf (r_add (C := (((n : Nat) : Int) + (1 : Int))) rfl rfl (by rw [IntKind.wrap_i64]; omega)) rfl rfl rfl ?_; clear hf fa; intro fa hf
                refine sqv hf (r_assign rfl) rfl rfl rfl ?_; clear hf fa; intro fa hf
                apply wpList_nil
                (try simp only [Exit.then, Exit.inBlock, ↓reduceIte, Nat.reduceEqDiff])
                refine hKL1 _ _ _ (by omega) ⟨(n + 1), (if q < ((depthP (opl l) n)) then ((depthP (opl l) n)) else q), (some ⟨rb1, 0, none⟩), rdc, rfl, hf.sub ⟨rfl, rfl, (some_int (by first | rfl | omega)), rfl, trivial⟩, hb, (Row.relen hrd), by omega, (by have h := Hs; rw [opl_drop hy2, drop_getD (l := depthsP (opl l)) (n := n) (by omega), deepR, if_neg hqt49_1, depths_eq (opl l) hs n (by rw [opl_length]; omega)] at h; exact h)⟩
          · have hqt33_1b := hqt33_1
            replace hqt33_1 := Bool.eq_false_iff.1 hqt33_1
            try simp only [ne_eq, decide_eq_true_eq, Bool.and_eq_true, Bool.or_eq_true, Bool.not_eq_true', decide_eq_false_iff_not] at hqt33_1
            refine wp_exit ?_
            (try simp only [Exit.then, Exit.inBlock, ↓reduceIte, Nat.reduceEqDiff])
            refine hK13 _ _ ?_
            refine wp_seq_k (fun K23 hK23 => ?_)
            refine wp_region_lit ?_
            refine sqv hf (r_move rfl) rfl rfl rfl ?_; clear hf fa; intro fa hf
            refine sqdt hf (d_callB (vs := [(.slice a l.length c)]) rfl Try.func42 (by kernel_rfl) (by kernel_rfl) (deepest_any l a c _ (RdS.ext hr hb) hlc (by omega))) rfl rfl rfl ?_; clear hf fa; rintro fa _ w8 ⟨rfl, he7⟩ hf
            replace hrd := Row.ext hrd he7
            replace hb := hb.trans (Below.mono he7 hb.size)
            refine sqv hf (r_move rfl) rfl rfl rfl ?_; clear hf fa; intro fa hf
            refine sqv hf (r_eq rfl rfl) rfl rfl rfl ?_; clear hf fa; intro fa hf
            refine sqv hf (r_assign rfl) rfl rfl rfl ?_; clear hf fa; intro fa hf
            apply wpList_nil
            (try simp only [Exit.then, Exit.inBlock, ↓reduceIte, Nat.reduceEqDiff])
            refine hK23 _ _ ?_
            refine wp_ret ?_
            (try simp only [Exit.then, Exit.inBlock])
            refine ret1 hf rfl rfl ?_
            have h := Hs; rw [show (depthsP (opl l)).drop n = [] from List.drop_eq_nil_of_le (by omega), deepR_nil] at h
            rw [← h]; exact ⟨congrArg (fun b => Ending.returned (.bool b)) (by simp), hb⟩

set_option maxHeartbeats 1000000 in
set_option maxRecDepth 100000 in
theorem flowNests_any (l : List Ins) (a : Option Addr) (c : Nat) (w : World) (hr : RdS 4 vIns w a l) (hlc : l.length ≤ c) : Calls Try.prog 5 #[(.slice a l.length c)] w fun e w' => e = .returned (.bool true) ∧ Below w.heap.size w w' := by
  obtain ⟨pn, pl, hpq⟩ : ∃ pn pl, ofQ (opl l) = (pn, pl) := ⟨_, _, rfl⟩
  refine sx_enter (L := [(0, (.slice a l.length c))]) Try.func5 rfl rfl rfl rfl (fun fa hf => ?_)
  have hb : Below w.heap.size w w := Below.refl _ _
  refine wp_seq_k (fun K1 hK1 => ?_)
  refine wp_region_lit ?_
  refine sqv hf (r_assign rfl) rfl rfl rfl ?_; clear hf fa; intro fa hf
  apply wpList_nil
  (try simp only [Exit.then, Exit.inBlock, ↓reduceIte, Nat.reduceEqDiff])
  refine hK1 _ _ ?_
  refine wp_seq_k (fun K2 hK2 => ?_)
  refine wp_seq_k (fun K3 hK3 => ?_)
  refine wp_region_lit ?_
  refine sqdt hf (d_callB (vs := []) rfl Try.func21 (by kernel_rfl) (by kernel_rfl) (awake_any _)) rfl rfl rfl ?_; clear hf fa; rintro fa _ w1 ⟨rfl, he1⟩ hf
  replace hb := hb.trans (Below.mono he1 hb.size)
  refine sqv hf (r_not rfl) rfl rfl rfl ?_; clear hf fa; intro fa hf
  apply wpList_nil
  (try simp only [Exit.then, Exit.inBlock, ↓reduceIte, Nat.reduceEqDiff])
  refine hK3 _ _ ?_
  refine wp_cond_false ((hf.ev rfl).trans (congrArg Value.bool (show (!true) = false from rfl))) ?_
  refine wp_skip ?_
  (try simp only [Exit.then, Exit.inBlock, ↓reduceIte, Nat.reduceEqDiff])
  refine hK2 _ _ ?_
  refine wp_seq_k (fun K4 hK4 => ?_)
  refine wp_seq_k (fun K5 hK5 => ?_)
  refine wp_region_lit ?_
  refine sqv hf (r_move rfl) rfl rfl rfl ?_; clear hf fa; intro fa hf
  refine sqv hf (r_lensl rfl Try.underlying27) rfl rfl rfl ?_; clear hf fa; intro fa hf
  refine sqv hf (r_gt rfl rfl) rfl rfl rfl ?_; clear hf fa; intro fa hf
  apply wpList_nil
  (try simp only [Exit.then, Exit.inBlock, ↓reduceIte, Nat.reduceEqDiff])
  refine hK5 _ _ ?_
  refine wp_cond_split (t := (decide ((60 : Int) < ((l.length : Nat) : Int)))) (hf.ev rfl) (fun hqt11_1 => ?_) (fun hqt11_1 => ?_)
  · have hqt11_1b := hqt11_1
    try simp only [decide_eq_true_eq, Bool.and_eq_true, Bool.or_eq_true, Bool.not_eq_true', decide_eq_false_iff_not, ne_eq, Bool.not_eq_true] at hqt11_1
    refine wp_seq_k (fun K6 hK6 => ?_)
    refine wp_region_lit ?_
    refine sqv hf (r_assign rfl) rfl rfl rfl ?_; clear hf fa; intro fa hf
    apply wpList_nil
    (try simp only [Exit.then, Exit.inBlock, ↓reduceIte, Nat.reduceEqDiff])
    refine hK6 _ _ ?_
    refine wp_ret ?_
    (try simp only [Exit.then, Exit.inBlock])
    refine ret1 hf rfl rfl ?_
    exact ⟨rfl, hb⟩
  · have hqt11_1b := hqt11_1
    replace hqt11_1 := Bool.eq_false_iff.1 hqt11_1
    try simp only [ne_eq, decide_eq_true_eq, Bool.and_eq_true, Bool.or_eq_true, Bool.not_eq_true', decide_eq_false_iff_not] at hqt11_1
    refine wp_skip ?_
    (try simp only [Exit.then, Exit.inBlock, ↓reduceIte, Nat.reduceEqDiff])
    refine hK4 _ _ ?_
    refine wp_seq_k (fun K7 hK7 => ?_)
    refine wp_region_lit ?_
    refine sqv hf (r_move rfl) rfl rfl rfl ?_; clear hf fa; intro fa hf
    refine sqdt hf (d_callX (vs := [(.slice a l.length c)]) rfl Try.func22 (by kernel_rfl) (by kernel_rfl) (of_any l a c _ (RdS.ext hr hb) hlc (by omega) pn pl (shapeP (opl l)) hpq rfl)) rfl rfl rfl ?_; clear hf fa; rintro fa _ w2 ⟨oa1, oe1, oc1, od1, rfl, hr1, hr2, he2⟩ hf
    replace hr1 := Row.rebase hr1 hb.size
    replace hr2 := Row.rebase hr2 hb.size
    replace hb := hb.trans (Below.mono he2 hb.size)
    have hchr1 := Row.caps hr1
    have hchr2 := Row.caps hr2
    refine sqv hf (r_move rfl) rfl rfl rfl ?_; clear hf fa; intro fa hf
    refine sqv hf (r_extract rfl (i := 0) rfl) rfl rfl rfl ?_; clear hf fa; intro fa hf
    refine sqv hf (r_extract rfl (i := 1) rfl) rfl rfl rfl ?_; clear hf fa; intro fa hf
    refine sqdt hf (d_alloc (z := (.agg #[(.slice none 0 0), (.slice none 0 0)])) (cs := #[(.slice none 0 0), (.slice none 0 0)]) (by kernel_rfl) rfl) rfl rfl rfl ?_; clear hf fa; rintro fa _ w3 ⟨b1, rfl, hle1, hk1, he3⟩ hf
    have hBb1 : w.heap.size ≤ b1 := Nat.le_trans hb.size hle1
    replace hr1 := Row.ext hr1 he3
    replace hr2 := Row.ext hr2 he3
    replace hb := hb.trans (Below.mono he3 hb.size)
    refine sqn hf (d_store (T := 30) (v := (.agg #[(.slice oa1 pn.length oc1), (.slice oe1 pl.length od1)])) (cs := #[(.slice none 0 0), (.slice none 0 0)]) (cs' := #[(.slice oa1 pn.length oc1), (.slice oe1 pl.length od1)]) rfl rfl (by kernel_rfl) (by intro u hu; simp only [Value.cells, List.mem_cons, List.mem_toArray, List.not_mem_nil, or_false] at hu; rcases hu with rfl | rfl <;> rfl) hk1 (Nat.le_of_ble_eq_true rfl) rfl) rfl rfl ?_; clear hf fa; rintro fa _ w4 ⟨hk2, hg1⟩ hf
    replace hr1 := Row.grown hr1 hg1 (Row.ne_type hr1 hk1 rfl)
    replace hr2 := Row.grown hr2 hg1 (Row.ne_type hr2 hk1 rfl)
    replace hb := hb.trans (grown_below hg1 hb.size hBb1)
    refine sqv hf (r_assign rfl) rfl rfl rfl ?_; clear hf fa; intro fa hf
    apply wpList_nil
    (try simp only [Exit.then, Exit.inBlock, ↓reduceIte, Nat.reduceEqDiff])
    refine hK7 _ _ ?_
    refine wp_seq_k (fun K8 hK8 => ?_)
    refine wp_seq_k (fun K9 hK9 => ?_)
    refine wp_region_lit ?_
    refine sqv hf (r_move rfl) rfl rfl rfl ?_; clear hf fa; intro fa hf
    refine sqv hf (r_ne rfl rfl) rfl rfl rfl ?_; clear hf fa; intro fa hf
    apply wpList_nil
    (try simp only [Exit.then, Exit.inBlock, ↓reduceIte, Nat.reduceEqDiff])
    refine hK9 _ _ ?_
    refine wp_cond_split (t := (decide (((shapeP (opl l))) ≠ (0 : Int)))) (hf.ev rfl) (fun hqt18_1 => ?_) (fun hqt18_1 => ?_)
    · have hqt18_1b := hqt18_1
      try simp only [decide_eq_true_eq, Bool.and_eq_true, Bool.or_eq_true, Bool.not_eq_true', decide_eq_false_iff_not, ne_eq, Bool.not_eq_true] at hqt18_1
      refine wp_seq_k (fun K10 hK10 => ?_)
      refine wp_region_lit ?_
      refine sqv hf (r_fa rfl Try.underlying30 (f := 0) (q := 0) rfl (by kernel_rfl) rfl) rfl rfl rfl ?_; clear hf fa; intro fa hf
      refine sqv hf (r_load (v := (.slice oa1 pn.length oc1)) rfl Try.underlying28 rfl (cell_blk hk2 rfl)) rfl rfl rfl ?_; clear hf fa; intro fa hf
      refine sqv hf (r_lensl rfl Try.underlying28) rfl rfl rfl ?_; clear hf fa; intro fa hf
      refine sqv hf (r_eq rfl rfl) rfl rfl rfl ?_; clear hf fa; intro fa hf
      refine sqv hf (r_assign rfl) rfl rfl rfl ?_; clear hf fa; intro fa hf
      apply wpList_nil
      (try simp only [Exit.then, Exit.inBlock, ↓reduceIte, Nat.reduceEqDiff])
      refine hK10 _ _ ?_
      refine wp_ret ?_
      (try simp only [Exit.then, Exit.inBlock])
      refine ret1 hf rfl rfl ?_
      rw [ofQ, if_pos hqt18_1] at hpq; cases hpq
      exact ⟨congrArg (fun b => Ending.returned (.bool b)) (by simp), hb⟩
    · have hqt18_1b := hqt18_1
      replace hqt18_1 := Bool.eq_false_iff.1 hqt18_1
      try simp only [ne_eq, decide_eq_true_eq, Bool.and_eq_true, Bool.or_eq_true, Bool.not_eq_true', decide_eq_false_iff_not] at hqt18_1
      refine wp_skip ?_
      (try simp only [Exit.then, Exit.inBlock, ↓reduceIte, Nat.reduceEqDiff])
      refine hK8 _ _ ?_
      refine wp_seq_k (fun K11 hK11 => ?_)
      refine wp_seq_k (fun K12 hK12 => ?_)
      have hs := Decidable.of_not_not hqt18_1
      have hP : ofP (opl l) = (pn, pl) := by rw [ofQ, if_neg hqt18_1] at hpq; exact hpq
      obtain ⟨ho1, ho2, ho3⟩ := of_eq (opl l) hs
      rw [hP] at ho1 ho2 ho3; simp only at ho1 ho2 ho3; rw [opl_length] at ho1 ho2
      refine wp_region_lit ?_
      refine sqv hf (r_fa rfl Try.underlying30 (f := 0) (q := 0) rfl (by kernel_rfl) rfl) rfl rfl rfl ?_; clear hf fa; intro fa hf
      refine sqv hf (r_load (v := (.slice oa1 pn.length oc1)) rfl Try.underlying28 rfl (cell_blk hk2 rfl)) rfl rfl rfl ?_; clear hf fa; intro fa hf
      refine sqv hf (r_lensl rfl Try.underlying28) rfl rfl rfl ?_; clear hf fa; intro fa hf
      refine sqv hf (r_move rfl) rfl rfl rfl ?_; clear hf fa; intro fa hf
      refine sqv hf (r_lensl rfl Try.underlying27) rfl rfl rfl ?_; clear hf fa; intro fa hf
      refine sqv hf (r_ne rfl rfl) rfl rfl rfl ?_; clear hf fa; intro fa hf
      apply wpList_nil
      (try simp only [Exit.then, Exit.inBlock, ↓reduceIte, Nat.reduceEqDiff])
      refine hK12 _ _ ?_
      refine wp_cond_split (t := (decide (((pn.length : Nat) : Int) ≠ ((l.length : Nat) : Int)))) (hf.ev rfl) (fun hqt28_1 => ?_) (fun hqt28_1 => ?_)
      · have hqt28_1b := hqt28_1
        try simp only [decide_eq_true_eq, Bool.and_eq_true, Bool.or_eq_true, Bool.not_eq_true', decide_eq_false_iff_not, ne_eq, Bool.not_eq_true] at hqt28_1
        exfalso; have h := hqt28_1; omega
      · have hqt28_1b := hqt28_1
        replace hqt28_1 := Bool.eq_false_iff.1 hqt28_1
        try simp only [ne_eq, decide_eq_true_eq, Bool.and_eq_true, Bool.or_eq_true, Bool.not_eq_true', decide_eq_false_iff_not] at hqt28_1
        refine wp_skip ?_
        (try simp only [Exit.then, Exit.inBlock, ↓reduceIte, Nat.reduceEqDiff])
        refine hK11 _ _ ?_
        refine wp_seq_k (fun K13 hK13 => ?_)
        refine wp_seq_k (fun K14 hK14 => ?_)
        refine wp_region_lit ?_
        refine sqv hf (r_assign rfl) rfl rfl rfl ?_; clear hf fa; intro fa hf
        apply wpList_nil
        (try simp only [Exit.then, Exit.inBlock, ↓reduceIte, Nat.reduceEqDiff])
        refine hK14 _ _ ?_
        refine wp_block ?_
        refine wp_loop_k (fun m fa wr => ∃ (n : Nat), m = l.length - n ∧ Fr 96 fa [(0, (.slice a l.length c)), (3, (.pointer (some ⟨b1, 0, none⟩))), (5, (.int .i64 ((n : Nat) : Int)))] ∧ Below w.heap.size w wr ∧ Row 1 (vInt .i64) 3 (w.heap.size) wr (.slice oa1 (pn.length) oc1) pn ∧ wr.heap[b1]? = some (.cells #[(.slice oa1 pn.length oc1), (.slice oe1 pl.length od1)] 30 (0, 0)) ∧ (n ≤ l.length)) ?_ ?_
        · skip
          exact ⟨_, 0, rfl, hf.sub ⟨rfl, rfl, (some_int (by first | rfl | omega)), trivial⟩, hb, hr1, hk2, by omega⟩
        · skip
          clear hf fa; intro m1 fa w5 hI KL1 hKL1
          clear hb
          clear hk2
          clear hr1
          clear hr2
          obtain ⟨n, hm1, hf, hb, hrE, hkb1, hn⟩ := hI
          have hcrE := Row.caps hrE
          refine wp_seq_k (fun K15 hK15 => ?_)
          refine wp_seq_k (fun K16 hK16 => ?_)
          refine wp_region_lit ?_
          refine sqv hf (r_move rfl) rfl rfl rfl ?_; clear hf fa; intro fa hf
          refine sqv hf (r_move rfl) rfl rfl rfl ?_; clear hf fa; intro fa hf
          refine sqv hf (r_lensl rfl Try.underlying27) rfl rfl rfl ?_; clear hf fa; intro fa hf
          refine sqv hf (r_lt rfl rfl) rfl rfl rfl ?_; clear hf fa; intro fa hf
          apply wpList_nil
          (try simp only [Exit.then, Exit.inBlock, ↓reduceIte, Nat.reduceEqDiff])
          refine hK16 _ _ ?_
          refine wp_cond_split (t := (decide (((n : Nat) : Int) < ((l.length : Nat) : Int)))) (hf.ev rfl) (fun hqt32_1 => ?_) (fun hqt32_1 => ?_)
          · have hqt32_1b := hqt32_1
            try simp only [decide_eq_true_eq, Bool.and_eq_true, Bool.or_eq_true, Bool.not_eq_true', decide_eq_false_iff_not, ne_eq, Bool.not_eq_true] at hqt32_1
            refine wp_skip ?_
            (try simp only [Exit.then, Exit.inBlock, ↓reduceIte, Nat.reduceEqDiff])
            refine hK15 _ _ ?_
            refine wp_seq_k (fun K17 hK17 => ?_)
            refine wp_block ?_
            refine wp_seq_k (fun K18 hK18 => ?_)
            refine wp_region_lit ?_
            refine sqv hf (r_move rfl) rfl rfl rfl ?_; clear hf fa; intro fa hf
            refine sqv hf (r_add (C := (((n : Nat) : Int) + (1 : Int))) rfl rfl (by rw [IntKind.wrap_i64]; omega)) rfl rfl rfl ?_; clear hf fa; intro fa hf
            refine sqv hf (r_assign rfl) rfl rfl rfl ?_; clear hf fa; intro fa hf
            apply wpList_nil
            (try simp only [Exit.then, Exit.inBlock, ↓reduceIte, Nat.reduceEqDiff])
            refine hK18 _ _ ?_
            refine wp_block ?_
            refine wp_loop_k (fun m fa wr => ∃ (k : Nat), m = l.length - k ∧ Fr 96 fa [(0, (.slice a l.length c)), (3, (.pointer (some ⟨b1, 0, none⟩))), (5, (.int .i64 ((n : Nat) : Int))), (6, (.int .i64 ((k : Nat) : Int)))] ∧ Below w.heap.size w wr ∧ Row 1 (vInt .i64) 3 (w.heap.size) wr (.slice oa1 (pn.length) oc1) pn ∧ wr.heap[b1]? = some (.cells #[(.slice oa1 pn.length oc1), (.slice oe1 pl.length od1)] 30 (0, 0)) ∧ (k ≤ l.length) ∧ (n < k)) ?_ ?_
            · skip
              exact ⟨_, (n + 1), rfl, hf.sub ⟨rfl, rfl, rfl, (some_int (by first | rfl | omega)), trivial⟩, hb, hrE, hkb1, by omega, by omega⟩
            · skip
              clear hf fa; intro m2 fa w6 hI KL2 hKL2
              clear hb
              clear hkb1
              clear hrE
              obtain ⟨k, hm2, hf, hb, hrE, hkb1, hk, hnk⟩ := hI
              have hcrE := Row.caps hrE
              refine wp_seq_k (fun K19 hK19 => ?_)
              refine wp_seq_k (fun K20 hK20 => ?_)
              refine wp_region_lit ?_
              refine sqv hf (r_move rfl) rfl rfl rfl ?_; clear hf fa; intro fa hf
              refine sqv hf (r_move rfl) rfl rfl rfl ?_; clear hf fa; intro fa hf
              refine sqv hf (r_lensl rfl Try.underlying27) rfl rfl rfl ?_; clear hf fa; intro fa hf
              refine sqv hf (r_lt rfl rfl) rfl rfl rfl ?_; clear hf fa; intro fa hf
              refine sqv hf (r_move rfl) rfl rfl rfl ?_; clear hf fa; intro fa hf
              refine sqgT (act := (decide (((k : Nat) : Int) < ((l.length : Nat) : Int)))) (ag := true) (c := (decide (((k : Nat) : Int) < ((l.length : Nat) : Int)))) (v := (.pointer (some ⟨b1, 0, none⟩))) hf rfl rfl rfl (fun hact => (r_fa rfl Try.underlying30 (f := 0) (q := 0) rfl (by kernel_rfl) rfl)) rfl rfl ?_; clear hf fa; intro fa hf
              refine sqgT (act := (decide (((k : Nat) : Int) < ((l.length : Nat) : Int)))) (ag := true) (c := (decide (((k : Nat) : Int) < ((l.length : Nat) : Int)))) (v := (.slice oa1 pn.length oc1)) hf rfl rfl rfl (fun hact => (r_load (v := (.slice oa1 pn.length oc1)) (gb_ev hact rfl) Try.underlying28 rfl (cell_blk hkb1 rfl))) rfl rfl ?_; clear hf fa; intro fa hf
              refine sqgT (act := (decide (((k : Nat) : Int) < ((l.length : Nat) : Int)))) (ag := true) (c := (decide (((k : Nat) : Int) < ((l.length : Nat) : Int)))) (v := (.int .i64 ((n : Nat) : Int))) hf rfl rfl rfl (fun hact => (r_move rfl)) rfl rfl ?_; clear hf fa; intro fa hf
              obtain ⟨rb1, rfl, hbbrb1, hlbrb1⟩ := Row.some hrE (by first | omega | (simp only [List.length_set, List.length_take, List.length_append, List.length_replicate, List.length_cons, List.length_nil]; omega))
              have hy1 := getD_at (l := pn) (j := n) (0 : Int) (by first | omega | (simp only [List.length_set, List.length_take, List.length_append, List.length_replicate, List.length_cons, List.length_nil]; omega))
              have hel1 := RdS.at (Row.rd (by intros; rfl) hrE) hy1
              obtain ⟨_, _, hab, hlr1, hel1⟩ := hel1
              cases hab
              refine sqgT (act := (decide (((k : Nat) : Int) < ((l.length : Nat) : Int)))) (ag := true) (c := (decide (((k : Nat) : Int) < ((l.length : Nat) : Int)))) (v := (.pointer (some ⟨rb1, (0 + n * 1), none⟩))) hf rfl rfl rfl (fun hact => (by have hact0 := hact; simp only [Bool.and_eq_true, Bool.not_eq_true', decide_eq_true_eq, decide_eq_false_iff_not] at hact0; exact (r_ixa (sz := 1) (j := n) (gb_ev hact rfl) (gb_ev hact rfl) Try.underlying28 (by kernel_rfl) rfl (by omega) rfl))) rfl rfl ?_; clear hf fa; intro fa hf
              refine sqgT (act := (decide (((k : Nat) : Int) < ((l.length : Nat) : Int)))) (ag := true) (c := (decide (((k : Nat) : Int) < ((l.length : Nat) : Int)))) (v := (.int .i64 ((pn.getD n (0 : Int))))) hf rfl rfl rfl (fun hact => (r_load (v := (.int .i64 ((pn.getD n (0 : Int))))) (gb_ev hact rfl) Try.underlying3 rfl (cellsAt_cell hel1 (i := 0) rfl rfl))) rfl rfl ?_; clear hf fa; intro fa hf
              refine sqgT (act := (decide (((k : Nat) : Int) < ((l.length : Nat) : Int)))) (ag := true) (c := (decide (((k : Nat) : Int) < ((l.length : Nat) : Int)))) (v := (.bool (decide ((0 : Int) ≤ ((pn.getD n (0 : Int))))))) hf rfl rfl rfl (fun hact => (r_ge (gb_ev hact rfl) rfl)) rfl rfl ?_; clear hf fa; intro fa hf
              refine sqv hf (r_pickA (b := (decide (((k : Nat) : Int) < ((l.length : Nat) : Int)))) (e := (decide ((0 : Int) ≤ ((pn.getD n (0 : Int)))))) rfl rfl rfl) rfl rfl rfl ?_; clear hf fa; intro fa hf
              apply wpList_nil
              (try simp only [Exit.then, Exit.inBlock, ↓reduceIte, Nat.reduceEqDiff])
              refine hK20 _ _ ?_
              refine wp_cond_split (t := ((decide (((k : Nat) : Int) < ((l.length : Nat) : Int))) && (decide ((0 : Int) ≤ ((pn.getD n (0 : Int))))))) (hf.ev rfl) (fun hqt48_1 => ?_) (fun hqt48_1 => ?_)
              · have hqt48_1b := hqt48_1
                try simp only [decide_eq_true_eq, Bool.and_eq_true, Bool.or_eq_true, Bool.not_eq_true', decide_eq_false_iff_not, ne_eq, Bool.not_eq_true] at hqt48_1
                refine wp_skip ?_
                (try simp only [Exit.then, Exit.inBlock, ↓reduceIte, Nat.reduceEqDiff])
                refine hK19 _ _ ?_
                refine wp_seq_k (fun K21 hK21 => ?_)
                refine wp_block ?_
                refine wp_seq_k (fun K22 hK22 => ?_)
                have hy2 := getD_at (l := pn) (j := k) (0 : Int) (by first | omega | (simp only [List.length_set, List.length_take, List.length_append, List.length_replicate, List.length_cons, List.length_nil]; omega))
                have hel2 := RdS.at (Row.rd (by intros; rfl) hrE) hy2
                obtain ⟨_, _, hab, hlr2, hel2⟩ := hel2
                cases hab
                have hy3 := getD_at (l := pn) (j := n) (0 : Int) (by first | omega | (simp only [List.length_set, List.length_take, List.length_append, List.length_replicate, List.length_cons, List.length_nil]; omega))
                have hel3 := RdS.at (Row.rd (by intros; rfl) hrE) hy3
                obtain ⟨_, _, hab, hlr3, hel3⟩ := hel3
                cases hab
                have hy4 := getD_at (l := pn) (j := k) (0 : Int) (by first | omega | (simp only [List.length_set, List.length_take, List.length_append, List.length_replicate, List.length_cons, List.length_nil]; omega))
                have hel4 := RdS.at (Row.rd (by intros; rfl) hrE) hy4
                obtain ⟨_, _, hab, hlr4, hel4⟩ := hel4
                cases hab
                have hy5 := getD_at (l := pn) (j := n) (0 : Int) (by first | omega | (simp only [List.length_set, List.length_take, List.length_append, List.length_replicate, List.length_cons, List.length_nil]; omega))
                have hel5 := RdS.at (Row.rd (by intros; rfl) hrE) hy5
                obtain ⟨_, _, hab, hlr5, hel5⟩ := hel5
                cases hab
                have hy6 := getD_at (l := pn) (j := k) (0 : Int) (by first | omega | (simp only [List.length_set, List.length_take, List.length_append, List.length_replicate, List.length_cons, List.length_nil]; omega))
                have hel6 := RdS.at (Row.rd (by intros; rfl) hrE) hy6
                obtain ⟨_, _, hab, hlr6, hel6⟩ := hel6
                cases hab
                have hy7 := getD_at (l := pn) (j := k) (0 : Int) (by first | omega | (simp only [List.length_set, List.length_take, List.length_append, List.length_replicate, List.length_cons, List.length_nil]; omega))
                have hel7 := RdS.at (Row.rd (by intros; rfl) hrE) hy7
                obtain ⟨_, _, hab, hlr7, hel7⟩ := hel7
                cases hab
                refine wp_region_un (fun wq => Below w6.heap.size w6 wq) (fun w w' => Below w.heap.size w w')
                  (fun V => [(fun x _ => x = (.pointer (some ⟨b1, 0, none⟩))), (fun x _ => x = (.slice (some ⟨rb1, 0, none⟩) pn.length oc1)), (fun x _ => x = (.int .i64 ((k : Nat) : Int))), (fun x _ => x = (.pointer (some ⟨rb1, (0 + k * 1), none⟩))), (fun x _ => x = (.int .i64 ((pn.getD k (0 : Int))))), (fun x _ => x = (.bool (decide ((0 : Int) ≤ ((pn.getD k (0 : Int))))))), (fun x _ => x = (.bool (decide ((0 : Int) ≤ ((pn.getD k (0 : Int))))))), (fun x _ => x = (gb (decide ((0 : Int) ≤ ((pn.getD k (0 : Int))))) (.int .i64 ((k : Nat) : Int)))), (fun x _ => x = (gb (decide ((0 : Int) ≤ ((pn.getD k (0 : Int))))) (.pointer (some ⟨b1, 0, none⟩)))), (fun x _ => x = (gb (decide ((0 : Int) ≤ ((pn.getD k (0 : Int))))) (.slice (some ⟨rb1, 0, none⟩) pn.length oc1))), (fun x _ => x = (gb (decide ((0 : Int) ≤ ((pn.getD k (0 : Int))))) (.int .i64 ((n : Nat) : Int)))), (fun x _ => x = (gb (decide ((0 : Int) ≤ ((pn.getD k (0 : Int))))) (.pointer (some ⟨rb1, (0 + n * 1), none⟩)))), (fun x _ => x = (gb (decide ((0 : Int) ≤ ((pn.getD k (0 : Int))))) (.int .i64 ((pn.getD n (0 : Int)))))), (fun x _ => x = (gb (decide ((0 : Int) ≤ ((pn.getD k (0 : Int))))) (.bool (decide (((k : Nat) : Int) < ((pn.getD n (0 : Int)))))))), (fun x _ => x = (.bool ((decide ((0 : Int) ≤ ((pn.getD k (0 : Int))))) && (decide (((k : Nat) : Int) < ((pn.getD n (0 : Int)))))))), (fun x _ => x = (.bool ((decide ((0 : Int) ≤ ((pn.getD k (0 : Int))))) && (decide (((k : Nat) : Int) < ((pn.getD n (0 : Int)))))))), (fun x _ => x = (gb ((decide ((0 : Int) ≤ ((pn.getD k (0 : Int))))) && (decide (((k : Nat) : Int) < ((pn.getD n (0 : Int)))))) (.pointer (some ⟨b1, 0, none⟩)))), (fun x _ => x = (gb ((decide ((0 : Int) ≤ ((pn.getD k (0 : Int))))) && (decide (((k : Nat) : Int) < ((pn.getD n (0 : Int)))))) (.slice (some ⟨rb1, 0, none⟩) pn.length oc1))), (fun x _ => x = (gb ((decide ((0 : Int) ≤ ((pn.getD k (0 : Int))))) && (decide (((k : Nat) : Int) < ((pn.getD n (0 : Int)))))) (.int .i64 ((k : Nat) : Int)))), (fun x _ => x = (gb ((decide ((0 : Int) ≤ ((pn.getD k (0 : Int))))) && (decide (((k : Nat) : Int) < ((pn.getD n (0 : Int)))))) (.pointer (some ⟨rb1, (0 + k * 1), none⟩)))), (fun x _ => x = (gb ((decide ((0 : Int) ≤ ((pn.getD k (0 : Int))))) && (decide (((k : Nat) : Int) < ((pn.getD n (0 : Int)))))) (.int .i64 ((pn.getD k (0 : Int)))))), (fun x _ => x = (gb ((decide ((0 : Int) ≤ ((pn.getD k (0 : Int))))) && (decide (((k : Nat) : Int) < ((pn.getD n (0 : Int)))))) (.pointer (some ⟨b1, 0, none⟩)))), (fun x _ => x = (gb ((decide ((0 : Int) ≤ ((pn.getD k (0 : Int))))) && (decide (((k : Nat) : Int) < ((pn.getD n (0 : Int)))))) (.slice (some ⟨rb1, 0, none⟩) pn.length oc1))), (fun x _ => x = (gb ((decide ((0 : Int) ≤ ((pn.getD k (0 : Int))))) && (decide (((k : Nat) : Int) < ((pn.getD n (0 : Int)))))) (.int .i64 ((n : Nat) : Int)))), (fun x _ => x = (gb ((decide ((0 : Int) ≤ ((pn.getD k (0 : Int))))) && (decide (((k : Nat) : Int) < ((pn.getD n (0 : Int)))))) (.pointer (some ⟨rb1, (0 + n * 1), none⟩)))), (fun x _ => x = (gb ((decide ((0 : Int) ≤ ((pn.getD k (0 : Int))))) && (decide (((k : Nat) : Int) < ((pn.getD n (0 : Int)))))) (.int .i64 ((pn.getD n (0 : Int)))))), (fun x _ => x = (gb ((decide ((0 : Int) ≤ ((pn.getD k (0 : Int))))) && (decide (((k : Nat) : Int) < ((pn.getD n (0 : Int)))))) (.bool (decide (((pn.getD n (0 : Int))) ≤ ((pn.getD k (0 : Int)))))))), (fun x _ => x = (.bool (((decide ((0 : Int) ≤ ((pn.getD k (0 : Int))))) && (decide (((k : Nat) : Int) < ((pn.getD n (0 : Int)))))) && (decide (((pn.getD n (0 : Int))) ≤ ((pn.getD k (0 : Int)))))))), (fun x _ => x = (.bool (((decide ((0 : Int) ≤ ((pn.getD k (0 : Int))))) && (decide (((k : Nat) : Int) < ((pn.getD n (0 : Int)))))) && (decide (((pn.getD n (0 : Int))) ≤ ((pn.getD k (0 : Int)))))))), (fun x _ => x = (gb (!(((decide ((0 : Int) ≤ ((pn.getD k (0 : Int))))) && (decide (((k : Nat) : Int) < ((pn.getD n (0 : Int)))))) && (decide (((pn.getD n (0 : Int))) ≤ ((pn.getD k (0 : Int))))))) (.pointer (some ⟨b1, 0, none⟩)))), (fun x _ => x = (gb (!(((decide ((0 : Int) ≤ ((pn.getD k (0 : Int))))) && (decide (((k : Nat) : Int) < ((pn.getD n (0 : Int)))))) && (decide (((pn.getD n (0 : Int))) ≤ ((pn.getD k (0 : Int))))))) (.slice (some ⟨rb1, 0, none⟩) pn.length oc1))), (fun x _ => x = (gb (!(((decide ((0 : Int) ≤ ((pn.getD k (0 : Int))))) && (decide (((k : Nat) : Int) < ((pn.getD n (0 : Int)))))) && (decide (((pn.getD n (0 : Int))) ≤ ((pn.getD k (0 : Int))))))) (.int .i64 ((k : Nat) : Int)))), (fun x _ => x = (gb (!(((decide ((0 : Int) ≤ ((pn.getD k (0 : Int))))) && (decide (((k : Nat) : Int) < ((pn.getD n (0 : Int)))))) && (decide (((pn.getD n (0 : Int))) ≤ ((pn.getD k (0 : Int))))))) (.pointer (some ⟨rb1, (0 + k * 1), none⟩)))), (fun x _ => x = (gb (!(((decide ((0 : Int) ≤ ((pn.getD k (0 : Int))))) && (decide (((k : Nat) : Int) < ((pn.getD n (0 : Int)))))) && (decide (((pn.getD n (0 : Int))) ≤ ((pn.getD k (0 : Int))))))) (.int .i64 ((pn.getD k (0 : Int)))))), (fun x _ => x = (gb (!(((decide ((0 : Int) ≤ ((pn.getD k (0 : Int))))) && (decide (((k : Nat) : Int) < ((pn.getD n (0 : Int)))))) && (decide (((pn.getD n (0 : Int))) ≤ ((pn.getD k (0 : Int))))))) (.bool (decide ((0 : Int) ≤ ((pn.getD k (0 : Int)))))))), (fun x _ => x = (gb (!(((decide ((0 : Int) ≤ ((pn.getD k (0 : Int))))) && (decide (((k : Nat) : Int) < ((pn.getD n (0 : Int)))))) && (decide (((pn.getD n (0 : Int))) ≤ ((pn.getD k (0 : Int))))))) (.bool (decide ((0 : Int) ≤ ((pn.getD k (0 : Int)))))))), (fun x _ => x = (gb ((!(((decide ((0 : Int) ≤ ((pn.getD k (0 : Int))))) && (decide (((k : Nat) : Int) < ((pn.getD n (0 : Int)))))) && (decide (((pn.getD n (0 : Int))) ≤ ((pn.getD k (0 : Int))))))) && (decide ((0 : Int) ≤ ((pn.getD k (0 : Int)))))) (.pointer (some ⟨b1, 0, none⟩)))), (fun x _ => x = (gb ((!(((decide ((0 : Int) ≤ ((pn.getD k (0 : Int))))) && (decide (((k : Nat) : Int) < ((pn.getD n (0 : Int)))))) && (decide (((pn.getD n (0 : Int))) ≤ ((pn.getD k (0 : Int))))))) && (decide ((0 : Int) ≤ ((pn.getD k (0 : Int)))))) (.slice (some ⟨rb1, 0, none⟩) pn.length oc1))), (fun x _ => x = (gb ((!(((decide ((0 : Int) ≤ ((pn.getD k (0 : Int))))) && (decide (((k : Nat) : Int) < ((pn.getD n (0 : Int)))))) && (decide (((pn.getD n (0 : Int))) ≤ ((pn.getD k (0 : Int))))))) && (decide ((0 : Int) ≤ ((pn.getD k (0 : Int)))))) (.int .i64 ((k : Nat) : Int)))), (fun x _ => x = (gb ((!(((decide ((0 : Int) ≤ ((pn.getD k (0 : Int))))) && (decide (((k : Nat) : Int) < ((pn.getD n (0 : Int)))))) && (decide (((pn.getD n (0 : Int))) ≤ ((pn.getD k (0 : Int))))))) && (decide ((0 : Int) ≤ ((pn.getD k (0 : Int)))))) (.pointer (some ⟨rb1, (0 + k * 1), none⟩)))), (fun x _ => x = (gb ((!(((decide ((0 : Int) ≤ ((pn.getD k (0 : Int))))) && (decide (((k : Nat) : Int) < ((pn.getD n (0 : Int)))))) && (decide (((pn.getD n (0 : Int))) ≤ ((pn.getD k (0 : Int))))))) && (decide ((0 : Int) ≤ ((pn.getD k (0 : Int)))))) (.int .i64 ((pn.getD k (0 : Int)))))), (fun x _ => x = (gb ((!(((decide ((0 : Int) ≤ ((pn.getD k (0 : Int))))) && (decide (((k : Nat) : Int) < ((pn.getD n (0 : Int)))))) && (decide (((pn.getD n (0 : Int))) ≤ ((pn.getD k (0 : Int))))))) && (decide ((0 : Int) ≤ ((pn.getD k (0 : Int)))))) (.int .i64 ((k : Nat) : Int)))), (fun x _ => x = (gb ((!(((decide ((0 : Int) ≤ ((pn.getD k (0 : Int))))) && (decide (((k : Nat) : Int) < ((pn.getD n (0 : Int)))))) && (decide (((pn.getD n (0 : Int))) ≤ ((pn.getD k (0 : Int))))))) && (decide ((0 : Int) ≤ ((pn.getD k (0 : Int)))))) (.bool (decide (((pn.getD k (0 : Int))) ≤ ((k : Nat) : Int)))))), (fun x _ => x = (gb (!(((decide ((0 : Int) ≤ ((pn.getD k (0 : Int))))) && (decide (((k : Nat) : Int) < ((pn.getD n (0 : Int)))))) && (decide (((pn.getD n (0 : Int))) ≤ ((pn.getD k (0 : Int))))))) (.bool ((decide ((0 : Int) ≤ ((pn.getD k (0 : Int))))) && (decide (((pn.getD k (0 : Int))) ≤ ((k : Nat) : Int))))))), (fun x _ => x = (.bool ((((decide ((0 : Int) ≤ ((pn.getD k (0 : Int))))) && (decide (((k : Nat) : Int) < ((pn.getD n (0 : Int)))))) && (decide (((pn.getD n (0 : Int))) ≤ ((pn.getD k (0 : Int)))))) || ((decide ((0 : Int) ≤ ((pn.getD k (0 : Int))))) && (decide (((pn.getD k (0 : Int))) ≤ ((k : Nat) : Int)))))))])
                  []
                  [[], [0], [], [1, 2], [3], [4], [5], [6], [6], [6, 8], [6], [6, 9, 10], [6, 11], [6, 7, 12], [6, 13], [6, 14], [15], [15, 16], [15], [15, 17, 18], [15, 19], [15], [15, 21], [15], [15, 22, 23], [15, 24], [15, 20, 25], [15, 26], [15, 27], [28], [28, 29], [28], [28, 30, 31], [28, 32], [28, 33], [28, 34], [35], [35, 36], [35], [35, 37, 38], [35, 39], [35], [35, 40, 41], [28, 35, 42], [28, 43]]
                  hf (by kernel_rfl) (by kernel_rfl) (fun _ => rfl) ((Below.refl _ _).drew) (fun a b h1 h2 => h1.trans (h2.mono h1.size)) (fun _ _ h => h.size) (fun V => ⟨kept_eq, kept_eq, kept_eq, kept_eq, kept_eq, kept_eq, kept_eq, kept_eq, kept_eq, kept_eq, kept_eq, kept_eq, kept_eq, kept_eq, kept_eq, kept_eq, kept_eq, kept_eq, kept_eq, kept_eq, kept_eq, kept_eq, kept_eq, kept_eq, kept_eq, kept_eq, kept_eq, kept_eq, kept_eq, kept_eq, kept_eq, kept_eq, kept_eq, kept_eq, kept_eq, kept_eq, kept_eq, kept_eq, kept_eq, kept_eq, kept_eq, kept_eq, kept_eq, kept_eq, kept_eq, trivial⟩) (fun _ _ _ _ _ => rfl) ?_ ?_
                · skip
                  intro V
                  refine ⟨fun wu0 hC hd => ?_, ?_⟩
                  · clear hd
                    replace hb := hb.trans (hC.mono hb.size)
                    replace hkb1 := blk_ext hkb1 hC
                    replace hrE := Row.ext hrE hC
                    exact Runs.does (r_fa rfl Try.underlying30 (f := 0) (q := 0) rfl (by kernel_rfl) rfl) ⟨Below.refl _ _, rfl, nofr rfl⟩
                  refine ⟨fun wu1 hC hd => ?_, ?_⟩
                  · obtain ⟨h0, _⟩ := hd
                    skip
                    replace h0 : V 0 = (.pointer (some ⟨b1, 0, none⟩)) := h0
                    replace hb := hb.trans (hC.mono hb.size)
                    replace hkb1 := blk_ext hkb1 hC
                    replace hrE := Row.ext hrE hC
                    exact Runs.does (r_load (v := (.slice (some ⟨rb1, 0, none⟩) pn.length oc1)) (congrArg some h0) Try.underlying28 rfl (cell_blk hkb1 rfl)) ⟨Below.refl _ _, rfl, nofr rfl⟩
                  refine ⟨fun wu2 hC hd => ?_, ?_⟩
                  · clear hd
                    replace hb := hb.trans (hC.mono hb.size)
                    replace hkb1 := blk_ext hkb1 hC
                    replace hrE := Row.ext hrE hC
                    exact Runs.does (r_move rfl) ⟨Below.refl _ _, rfl, nofr rfl⟩
                  refine ⟨fun wu3 hC hd => ?_, ?_⟩
                  · obtain ⟨h1, h2, _⟩ := hd
                    skip
                    skip
                    replace h1 : V 1 = (.slice (some ⟨rb1, 0, none⟩) pn.length oc1) := h1
                    replace h2 : V 2 = (.int .i64 ((k : Nat) : Int)) := h2
                    replace hb := hb.trans (hC.mono hb.size)
                    replace hkb1 := blk_ext hkb1 hC
                    replace hrE := Row.ext hrE hC
                    exact Runs.does (r_ixa (sz := 1) (j := k) (congrArg some h1) (congrArg some h2) Try.underlying28 (by kernel_rfl) rfl (by omega) rfl) ⟨Below.refl _ _, rfl, nofr rfl⟩
                  refine ⟨fun wu4 hC hd => ?_, ?_⟩
                  · obtain ⟨h3, _⟩ := hd
                    skip
                    replace h3 : V 3 = (.pointer (some ⟨rb1, (0 + k * 1), none⟩)) := h3
                    replace hb := hb.trans (hC.mono hb.size)
                    replace hkb1 := blk_ext hkb1 hC
                    replace hrE := Row.ext hrE hC
                    exact Runs.does (r_load (v := (.int .i64 ((pn.getD k (0 : Int))))) (congrArg some h3) Try.underlying3 rfl (cellsAt_cell (cellsAt_below hel2 hC hlr2) (i := 0) rfl rfl)) ⟨Below.refl _ _, rfl, nofr rfl⟩
                  refine ⟨fun wu5 hC hd => ?_, ?_⟩
                  · obtain ⟨h4, _⟩ := hd
                    skip
                    replace h4 : V 4 = (.int .i64 ((pn.getD k (0 : Int)))) := h4
                    replace hb := hb.trans (hC.mono hb.size)
                    replace hkb1 := blk_ext hkb1 hC
                    replace hrE := Row.ext hrE hC
                    exact Runs.does (r_ge (congrArg some h4) rfl) ⟨Below.refl _ _, rfl, nofr rfl⟩
                  refine ⟨fun wu6 hC hd => ?_, ?_⟩
                  · obtain ⟨h5, _⟩ := hd
                    skip
                    replace h5 : V 5 = (.bool (decide ((0 : Int) ≤ ((pn.getD k (0 : Int)))))) := h5
                    replace hb := hb.trans (hC.mono hb.size)
                    replace hkb1 := blk_ext hkb1 hC
                    replace hrE := Row.ext hrE hC
                    exact Runs.does (r_move (congrArg some h5)) ⟨Below.refl _ _, rfl, nofr rfl⟩
                  refine ⟨fun wu7 hC hd => ?_, ?_⟩
                  · obtain ⟨h6, _⟩ := hd
                    skip
                    replace h6 : V 6 = (.bool (decide ((0 : Int) ≤ ((pn.getD k (0 : Int)))))) := h6
                    replace hb := hb.trans (hC.mono hb.size)
                    replace hkb1 := blk_ext hkb1 hC
                    replace hrE := Row.ext hrE hC
                    refine ⟨true, (decide ((0 : Int) ≤ ((pn.getD k (0 : Int))))), congrArg some h6, fun hact => ?_, fun hact => ?_⟩
                    · replace hact : (decide ((0 : Int) ≤ ((pn.getD k (0 : Int))))) = true := by simpa using hact
                      refine Runs.does (v := (.int .i64 ((k : Nat) : Int))) (r_move rfl) ⟨Below.refl _ _, ?_, nofr rfl⟩
                      show _ = gb _ _; rw [hact]; rfl
                    · replace hact : (decide ((0 : Int) ≤ ((pn.getD k (0 : Int))))) = false := by simpa using hact
                      refine ⟨Below.refl _ _, ?_, nofr rfl⟩
                      show _ = gb _ _; rw [hact]; rfl
                  refine ⟨fun wu8 hC hd => ?_, ?_⟩
                  · obtain ⟨h6, _⟩ := hd
                    skip
                    replace h6 : V 6 = (.bool (decide ((0 : Int) ≤ ((pn.getD k (0 : Int)))))) := h6
                    replace hb := hb.trans (hC.mono hb.size)
                    replace hkb1 := blk_ext hkb1 hC
                    replace hrE := Row.ext hrE hC
                    refine ⟨true, (decide ((0 : Int) ≤ ((pn.getD k (0 : Int))))), congrArg some h6, fun hact => ?_, fun hact => ?_⟩
                    · replace hact : (decide ((0 : Int) ≤ ((pn.getD k (0 : Int))))) = true := by simpa using hact
                      refine Runs.does (v := (.pointer (some ⟨b1, 0, none⟩))) (r_fa rfl Try.underlying30 (f := 0) (q := 0) rfl (by kernel_rfl) rfl) ⟨Below.refl _ _, ?_, nofr rfl⟩
                      show _ = gb _ _; rw [hact]; rfl
                    · replace hact : (decide ((0 : Int) ≤ ((pn.getD k (0 : Int))))) = false := by simpa using hact
                      refine ⟨Below.refl _ _, ?_, nofr rfl⟩
                      show _ = gb _ _; rw [hact]; rfl
                  refine ⟨fun wu9 hC hd => ?_, ?_⟩
                  · obtain ⟨h6, h8, _⟩ := hd
                    skip
                    skip
                    replace h6 : V 6 = (.bool (decide ((0 : Int) ≤ ((pn.getD k (0 : Int)))))) := h6
                    replace h8 : V 8 = (gb (decide ((0 : Int) ≤ ((pn.getD k (0 : Int))))) (.pointer (some ⟨b1, 0, none⟩))) := h8
                    replace hb := hb.trans (hC.mono hb.size)
                    replace hkb1 := blk_ext hkb1 hC
                    replace hrE := Row.ext hrE hC
                    refine ⟨true, (decide ((0 : Int) ≤ ((pn.getD k (0 : Int))))), congrArg some h6, fun hact => ?_, fun hact => ?_⟩
                    · replace hact : (decide ((0 : Int) ≤ ((pn.getD k (0 : Int))))) = true := by simpa using hact
                      refine Runs.does (v := (.slice (some ⟨rb1, 0, none⟩) pn.length oc1)) (r_load (v := (.slice (some ⟨rb1, 0, none⟩) pn.length oc1)) (gb_ev hact (congrArg some h8)) Try.underlying28 rfl (cell_blk hkb1 rfl)) ⟨Below.refl _ _, ?_, nofr rfl⟩
                      show _ = gb _ _; rw [hact]; rfl
                    · replace hact : (decide ((0 : Int) ≤ ((pn.getD k (0 : Int))))) = false := by simpa using hact
                      refine ⟨Below.refl _ _, ?_, nofr rfl⟩
                      show _ = gb _ _; rw [hact]; rfl
                  refine ⟨fun wu10 hC hd => ?_, ?_⟩
                  · obtain ⟨h6, _⟩ := hd
                    skip
                    replace h6 : V 6 = (.bool (decide ((0 : Int) ≤ ((pn.getD k (0 : Int)))))) := h6
                    replace hb := hb.trans (hC.mono hb.size)
                    replace hkb1 := blk_ext hkb1 hC
                    replace hrE := Row.ext hrE hC
                    refine ⟨true, (decide ((0 : Int) ≤ ((pn.getD k (0 : Int))))), congrArg some h6, fun hact => ?_, fun hact => ?_⟩
                    · replace hact : (decide ((0 : Int) ≤ ((pn.getD k (0 : Int))))) = true := by simpa using hact
                      refine Runs.does (v := (.int .i64 ((n : Nat) : Int))) (r_move rfl) ⟨Below.refl _ _, ?_, nofr rfl⟩
                      show _ = gb _ _; rw [hact]; rfl
                    · replace hact : (decide ((0 : Int) ≤ ((pn.getD k (0 : Int))))) = false := by simpa using hact
                      refine ⟨Below.refl _ _, ?_, nofr rfl⟩
                      show _ = gb _ _; rw [hact]; rfl
                  refine ⟨fun wu11 hC hd => ?_, ?_⟩
                  · obtain ⟨h6, h9, h10, _⟩ := hd
                    skip
                    skip
                    skip
                    replace h6 : V 6 = (.bool (decide ((0 : Int) ≤ ((pn.getD k (0 : Int)))))) := h6
                    replace h9 : V 9 = (gb (decide ((0 : Int) ≤ ((pn.getD k (0 : Int))))) (.slice (some ⟨rb1, 0, none⟩) pn.length oc1)) := h9
                    replace h10 : V 10 = (gb (decide ((0 : Int) ≤ ((pn.getD k (0 : Int))))) (.int .i64 ((n : Nat) : Int))) := h10
                    replace hb := hb.trans (hC.mono hb.size)
                    replace hkb1 := blk_ext hkb1 hC
                    replace hrE := Row.ext hrE hC
                    refine ⟨true, (decide ((0 : Int) ≤ ((pn.getD k (0 : Int))))), congrArg some h6, fun hact => ?_, fun hact => ?_⟩
                    · replace hact : (decide ((0 : Int) ≤ ((pn.getD k (0 : Int))))) = true := by simpa using hact
                      refine Runs.does (v := (.pointer (some ⟨rb1, (0 + n * 1), none⟩))) (by have hact0 := hact; simp only [Bool.and_eq_true, Bool.not_eq_true', decide_eq_true_eq, decide_eq_false_iff_not] at hact0; exact (r_ixa (sz := 1) (j := n) (gb_ev hact (congrArg some h9)) (gb_ev hact (congrArg some h10)) Try.underlying28 (by kernel_rfl) rfl (by omega) rfl)) ⟨Below.refl _ _, ?_, nofr rfl⟩
                      show _ = gb _ _; rw [hact]; rfl
                    · replace hact : (decide ((0 : Int) ≤ ((pn.getD k (0 : Int))))) = false := by simpa using hact
                      refine ⟨Below.refl _ _, ?_, nofr rfl⟩
                      show _ = gb _ _; rw [hact]; rfl
                  refine ⟨fun wu12 hC hd => ?_, ?_⟩
                  · obtain ⟨h6, h11, _⟩ := hd
                    skip
                    skip
                    replace h6 : V 6 = (.bool (decide ((0 : Int) ≤ ((pn.getD k (0 : Int)))))) := h6
                    replace h11 : V 11 = (gb (decide ((0 : Int) ≤ ((pn.getD k (0 : Int))))) (.pointer (some ⟨rb1, (0 + n * 1), none⟩))) := h11
                    replace hb := hb.trans (hC.mono hb.size)
                    replace hkb1 := blk_ext hkb1 hC
                    replace hrE := Row.ext hrE hC
                    refine ⟨true, (decide ((0 : Int) ≤ ((pn.getD k (0 : Int))))), congrArg some h6, fun hact => ?_, fun hact => ?_⟩
                    · replace hact : (decide ((0 : Int) ≤ ((pn.getD k (0 : Int))))) = true := by simpa using hact
                      refine Runs.does (v := (.int .i64 ((pn.getD n (0 : Int))))) (r_load (v := (.int .i64 ((pn.getD n (0 : Int))))) (gb_ev hact (congrArg some h11)) Try.underlying3 rfl (cellsAt_cell (cellsAt_below hel3 hC hlr3) (i := 0) rfl rfl)) ⟨Below.refl _ _, ?_, nofr rfl⟩
                      show _ = gb _ _; rw [hact]; rfl
                    · replace hact : (decide ((0 : Int) ≤ ((pn.getD k (0 : Int))))) = false := by simpa using hact
                      refine ⟨Below.refl _ _, ?_, nofr rfl⟩
                      show _ = gb _ _; rw [hact]; rfl
                  refine ⟨fun wu13 hC hd => ?_, ?_⟩
                  · obtain ⟨h6, h7, h12, _⟩ := hd
                    skip
                    skip
                    skip
                    replace h6 : V 6 = (.bool (decide ((0 : Int) ≤ ((pn.getD k (0 : Int)))))) := h6
                    replace h7 : V 7 = (gb (decide ((0 : Int) ≤ ((pn.getD k (0 : Int))))) (.int .i64 ((k : Nat) : Int))) := h7
                    replace h12 : V 12 = (gb (decide ((0 : Int) ≤ ((pn.getD k (0 : Int))))) (.int .i64 ((pn.getD n (0 : Int))))) := h12
                    replace hb := hb.trans (hC.mono hb.size)
                    replace hkb1 := blk_ext hkb1 hC
                    replace hrE := Row.ext hrE hC
                    refine ⟨true, (decide ((0 : Int) ≤ ((pn.getD k (0 : Int))))), congrArg some h6, fun hact => ?_, fun hact => ?_⟩
                    · replace hact : (decide ((0 : Int) ≤ ((pn.getD k (0 : Int))))) = true := by simpa using hact
                      refine Runs.does (v := (.bool (decide (((k : Nat) : Int) < ((pn.getD n (0 : Int))))))) (r_lt (gb_ev hact (congrArg some h7)) (gb_ev hact (congrArg some h12))) ⟨Below.refl _ _, ?_, nofr rfl⟩
                      show _ = gb _ _; rw [hact]; rfl
                    · replace hact : (decide ((0 : Int) ≤ ((pn.getD k (0 : Int))))) = false := by simpa using hact
                      refine ⟨Below.refl _ _, ?_, nofr rfl⟩
                      show _ = gb _ _; rw [hact]; rfl
                  refine ⟨fun wu14 hC hd => ?_, ?_⟩
                  · obtain ⟨h6, h13, _⟩ := hd
                    skip
                    skip
                    replace h6 : V 6 = (.bool (decide ((0 : Int) ≤ ((pn.getD k (0 : Int)))))) := h6
                    replace h13 : V 13 = (gb (decide ((0 : Int) ≤ ((pn.getD k (0 : Int))))) (.bool (decide (((k : Nat) : Int) < ((pn.getD n (0 : Int))))))) := h13
                    replace hb := hb.trans (hC.mono hb.size)
                    replace hkb1 := blk_ext hkb1 hC
                    replace hrE := Row.ext hrE hC
                    exact Runs.does (r_pickA (b := (decide ((0 : Int) ≤ ((pn.getD k (0 : Int)))))) (e := (decide (((k : Nat) : Int) < ((pn.getD n (0 : Int)))))) (congrArg some h6) (congrArg some h13) rfl) ⟨Below.refl _ _, rfl, nofr rfl⟩
                  refine ⟨fun wu15 hC hd => ?_, ?_⟩
                  · obtain ⟨h6, h14, _⟩ := hd
                    skip
                    skip
                    replace h6 : V 6 = (.bool (decide ((0 : Int) ≤ ((pn.getD k (0 : Int)))))) := h6
                    replace h14 : V 14 = (.bool ((decide ((0 : Int) ≤ ((pn.getD k (0 : Int))))) && (decide (((k : Nat) : Int) < ((pn.getD n (0 : Int))))))) := h14
                    replace hb := hb.trans (hC.mono hb.size)
                    replace hkb1 := blk_ext hkb1 hC
                    replace hrE := Row.ext hrE hC
                    exact Runs.does (r_move (congrArg some h14)) ⟨Below.refl _ _, rfl, nofr rfl⟩
                  refine ⟨fun wu16 hC hd => ?_, ?_⟩
                  · obtain ⟨h15, _⟩ := hd
                    skip
                    replace h15 : V 15 = (.bool ((decide ((0 : Int) ≤ ((pn.getD k (0 : Int))))) && (decide (((k : Nat) : Int) < ((pn.getD n (0 : Int))))))) := h15
                    replace hb := hb.trans (hC.mono hb.size)
                    replace hkb1 := blk_ext hkb1 hC
                    replace hrE := Row.ext hrE hC
                    refine ⟨true, ((decide ((0 : Int) ≤ ((pn.getD k (0 : Int))))) && (decide (((k : Nat) : Int) < ((pn.getD n (0 : Int)))))), congrArg some h15, fun hact => ?_, fun hact => ?_⟩
                    · replace hact : ((decide ((0 : Int) ≤ ((pn.getD k (0 : Int))))) && (decide (((k : Nat) : Int) < ((pn.getD n (0 : Int)))))) = true := by simpa using hact
                      refine Runs.does (v := (.pointer (some ⟨b1, 0, none⟩))) (r_fa rfl Try.underlying30 (f := 0) (q := 0) rfl (by kernel_rfl) rfl) ⟨Below.refl _ _, ?_, nofr rfl⟩
                      show _ = gb _ _; rw [hact]; rfl
                    · replace hact : ((decide ((0 : Int) ≤ ((pn.getD k (0 : Int))))) && (decide (((k : Nat) : Int) < ((pn.getD n (0 : Int)))))) = false := by simpa using hact
                      refine ⟨Below.refl _ _, ?_, nofr rfl⟩
                      show _ = gb _ _; rw [hact]; rfl
                  refine ⟨fun wu17 hC hd => ?_, ?_⟩
                  · obtain ⟨h15, h16, _⟩ := hd
                    skip
                    skip
                    replace h15 : V 15 = (.bool ((decide ((0 : Int) ≤ ((pn.getD k (0 : Int))))) && (decide (((k : Nat) : Int) < ((pn.getD n (0 : Int))))))) := h15
                    replace h16 : V 16 = (gb ((decide ((0 : Int) ≤ ((pn.getD k (0 : Int))))) && (decide (((k : Nat) : Int) < ((pn.getD n (0 : Int)))))) (.pointer (some ⟨b1, 0, none⟩))) := h16
                    replace hb := hb.trans (hC.mono hb.size)
                    replace hkb1 := blk_ext hkb1 hC
                    replace hrE := Row.ext hrE hC
                    refine ⟨true, ((decide ((0 : Int) ≤ ((pn.getD k (0 : Int))))) && (decide (((k : Nat) : Int) < ((pn.getD n (0 : Int)))))), congrArg some h15, fun hact => ?_, fun hact => ?_⟩
                    · replace hact : ((decide ((0 : Int) ≤ ((pn.getD k (0 : Int))))) && (decide (((k : Nat) : Int) < ((pn.getD n (0 : Int)))))) = true := by simpa using hact
                      refine Runs.does (v := (.slice (some ⟨rb1, 0, none⟩) pn.length oc1)) (r_load (v := (.slice (some ⟨rb1, 0, none⟩) pn.length oc1)) (gb_ev hact (congrArg some h16)) Try.underlying28 rfl (cell_blk hkb1 rfl)) ⟨Below.refl _ _, ?_, nofr rfl⟩
                      show _ = gb _ _; rw [hact]; rfl
                    · replace hact : ((decide ((0 : Int) ≤ ((pn.getD k (0 : Int))))) && (decide (((k : Nat) : Int) < ((pn.getD n (0 : Int)))))) = false := by simpa using hact
                      refine ⟨Below.refl _ _, ?_, nofr rfl⟩
                      show _ = gb _ _; rw [hact]; rfl
                  refine ⟨fun wu18 hC hd => ?_, ?_⟩
                  · obtain ⟨h15, _⟩ := hd
                    skip
                    replace h15 : V 15 = (.bool ((decide ((0 : Int) ≤ ((pn.getD k (0 : Int))))) && (decide (((k : Nat) : Int) < ((pn.getD n (0 : Int))))))) := h15
                    replace hb := hb.trans (hC.mono hb.size)
                    replace hkb1 := blk_ext hkb1 hC
                    replace hrE := Row.ext hrE hC
                    refine ⟨true, ((decide ((0 : Int) ≤ ((pn.getD k (0 : Int))))) && (decide (((k : Nat) : Int) < ((pn.getD n (0 : Int)))))), congrArg some h15, fun hact => ?_, fun hact => ?_⟩
                    · replace hact : ((decide ((0 : Int) ≤ ((pn.getD k (0 : Int))))) && (decide (((k : Nat) : Int) < ((pn.getD n (0 : Int)))))) = true := by simpa using hact
                      refine Runs.does (v := (.int .i64 ((k : Nat) : Int))) (r_move rfl) ⟨Below.refl _ _, ?_, nofr rfl⟩
                      show _ = gb _ _; rw [hact]; rfl
                    · replace hact : ((decide ((0 : Int) ≤ ((pn.getD k (0 : Int))))) && (decide (((k : Nat) : Int) < ((pn.getD n (0 : Int)))))) = false := by simpa using hact
                      refine ⟨Below.refl _ _, ?_, nofr rfl⟩
                      show _ = gb _ _; rw [hact]; rfl
                  refine ⟨fun wu19 hC hd => ?_, ?_⟩
                  · obtain ⟨h15, h17, h18, _⟩ := hd
                    skip
                    skip
                    skip
                    replace h15 : V 15 = (.bool ((decide ((0 : Int) ≤ ((pn.getD k (0 : Int))))) && (decide (((k : Nat) : Int) < ((pn.getD n (0 : Int))))))) := h15
                    replace h17 : V 17 = (gb ((decide ((0 : Int) ≤ ((pn.getD k (0 : Int))))) && (decide (((k : Nat) : Int) < ((pn.getD n (0 : Int)))))) (.slice (some ⟨rb1, 0, none⟩) pn.length oc1)) := h17
                    replace h18 : V 18 = (gb ((decide ((0 : Int) ≤ ((pn.getD k (0 : Int))))) && (decide (((k : Nat) : Int) < ((pn.getD n (0 : Int)))))) (.int .i64 ((k : Nat) : Int))) := h18
                    replace hb := hb.trans (hC.mono hb.size)
                    replace hkb1 := blk_ext hkb1 hC
                    replace hrE := Row.ext hrE hC
                    refine ⟨true, ((decide ((0 : Int) ≤ ((pn.getD k (0 : Int))))) && (decide (((k : Nat) : Int) < ((pn.getD n (0 : Int)))))), congrArg some h15, fun hact => ?_, fun hact => ?_⟩
                    · replace hact : ((decide ((0 : Int) ≤ ((pn.getD k (0 : Int))))) && (decide (((k : Nat) : Int) < ((pn.getD n (0 : Int)))))) = true := by simpa using hact
                      refine Runs.does (v := (.pointer (some ⟨rb1, (0 + k * 1), none⟩))) (by have hact0 := hact; simp only [Bool.and_eq_true, Bool.not_eq_true', decide_eq_true_eq, decide_eq_false_iff_not] at hact0; exact (r_ixa (sz := 1) (j := k) (gb_ev hact (congrArg some h17)) (gb_ev hact (congrArg some h18)) Try.underlying28 (by kernel_rfl) rfl (by omega) rfl)) ⟨Below.refl _ _, ?_, nofr rfl⟩
                      show _ = gb _ _; rw [hact]; rfl
                    · replace hact : ((decide ((0 : Int) ≤ ((pn.getD k (0 : Int))))) && (decide (((k : Nat) : Int) < ((pn.getD n (0 : Int)))))) = false := by simpa using hact
                      refine ⟨Below.refl _ _, ?_, nofr rfl⟩
                      show _ = gb _ _; rw [hact]; rfl
                  refine ⟨fun wu20 hC hd => ?_, ?_⟩
                  · obtain ⟨h15, h19, _⟩ := hd
                    skip
                    skip
                    replace h15 : V 15 = (.bool ((decide ((0 : Int) ≤ ((pn.getD k (0 : Int))))) && (decide (((k : Nat) : Int) < ((pn.getD n (0 : Int))))))) := h15
                    replace h19 : V 19 = (gb ((decide ((0 : Int) ≤ ((pn.getD k (0 : Int))))) && (decide (((k : Nat) : Int) < ((pn.getD n (0 : Int)))))) (.pointer (some ⟨rb1, (0 + k * 1), none⟩))) := h19
                    replace hb := hb.trans (hC.mono hb.size)
                    replace hkb1 := blk_ext hkb1 hC
                    replace hrE := Row.ext hrE hC
                    refine ⟨true, ((decide ((0 : Int) ≤ ((pn.getD k (0 : Int))))) && (decide (((k : Nat) : Int) < ((pn.getD n (0 : Int)))))), congrArg some h15, fun hact => ?_, fun hact => ?_⟩
                    · replace hact : ((decide ((0 : Int) ≤ ((pn.getD k (0 : Int))))) && (decide (((k : Nat) : Int) < ((pn.getD n (0 : Int)))))) = true := by simpa using hact
                      refine Runs.does (v := (.int .i64 ((pn.getD k (0 : Int))))) (r_load (v := (.int .i64 ((pn.getD k (0 : Int))))) (gb_ev hact (congrArg some h19)) Try.underlying3 rfl (cellsAt_cell (cellsAt_below hel4 hC hlr4) (i := 0) rfl rfl)) ⟨Below.refl _ _, ?_, nofr rfl⟩
                      show _ = gb _ _; rw [hact]; rfl
                    · replace hact : ((decide ((0 : Int) ≤ ((pn.getD k (0 : Int))))) && (decide (((k : Nat) : Int) < ((pn.getD n (0 : Int)))))) = false := by simpa using hact
                      refine ⟨Below.refl _ _, ?_, nofr rfl⟩
                      show _ = gb _ _; rw [hact]; rfl
                  refine ⟨fun wu21 hC hd => ?_, ?_⟩
                  · obtain ⟨h15, _⟩ := hd
                    skip
                    replace h15 : V 15 = (.bool ((decide ((0 : Int) ≤ ((pn.getD k (0 : Int))))) && (decide (((k : Nat) : Int) < ((pn.getD n (0 : Int))))))) := h15
                    replace hb := hb.trans (hC.mono hb.size)
                    replace hkb1 := blk_ext hkb1 hC
                    replace hrE := Row.ext hrE hC
                    refine ⟨true, ((decide ((0 : Int) ≤ ((pn.getD k (0 : Int))))) && (decide (((k : Nat) : Int) < ((pn.getD n (0 : Int)))))), congrArg some h15, fun hact => ?_, fun hact => ?_⟩
                    · replace hact : ((decide ((0 : Int) ≤ ((pn.getD k (0 : Int))))) && (decide (((k : Nat) : Int) < ((pn.getD n (0 : Int)))))) = true := by simpa using hact
                      refine Runs.does (v := (.pointer (some ⟨b1, 0, none⟩))) (r_fa rfl Try.underlying30 (f := 0) (q := 0) rfl (by kernel_rfl) rfl) ⟨Below.refl _ _, ?_, nofr rfl⟩
                      show _ = gb _ _; rw [hact]; rfl
                    · replace hact : ((decide ((0 : Int) ≤ ((pn.getD k (0 : Int))))) && (decide (((k : Nat) : Int) < ((pn.getD n (0 : Int)))))) = false := by simpa using hact
                      refine ⟨Below.refl _ _, ?_, nofr rfl⟩
                      show _ = gb _ _; rw [hact]; rfl
                  refine ⟨fun wu22 hC hd => ?_, ?_⟩
                  · obtain ⟨h15, h21, _⟩ := hd
                    skip
                    skip
                    replace h15 : V 15 = (.bool ((decide ((0 : Int) ≤ ((pn.getD k (0 : Int))))) && (decide (((k : Nat) : Int) < ((pn.getD n (0 : Int))))))) := h15
                    replace h21 : V 21 = (gb ((decide ((0 : Int) ≤ ((pn.getD k (0 : Int))))) && (decide (((k : Nat) : Int) < ((pn.getD n (0 : Int)))))) (.pointer (some ⟨b1, 0, none⟩))) := h21
                    replace hb := hb.trans (hC.mono hb.size)
                    replace hkb1 := blk_ext hkb1 hC
                    replace hrE := Row.ext hrE hC
                    refine ⟨true, ((decide ((0 : Int) ≤ ((pn.getD k (0 : Int))))) && (decide (((k : Nat) : Int) < ((pn.getD n (0 : Int)))))), congrArg some h15, fun hact => ?_, fun hact => ?_⟩
                    · replace hact : ((decide ((0 : Int) ≤ ((pn.getD k (0 : Int))))) && (decide (((k : Nat) : Int) < ((pn.getD n (0 : Int)))))) = true := by simpa using hact
                      refine Runs.does (v := (.slice (some ⟨rb1, 0, none⟩) pn.length oc1)) (r_load (v := (.slice (some ⟨rb1, 0, none⟩) pn.length oc1)) (gb_ev hact (congrArg some h21)) Try.underlying28 rfl (cell_blk hkb1 rfl)) ⟨Below.refl _ _, ?_, nofr rfl⟩
                      show _ = gb _ _; rw [hact]; rfl
                    · replace hact : ((decide ((0 : Int) ≤ ((pn.getD k (0 : Int))))) && (decide (((k : Nat) : Int) < ((pn.getD n (0 : Int)))))) = false := by simpa using hact
                      refine ⟨Below.refl _ _, ?_, nofr rfl⟩
                      show _ = gb _ _; rw [hact]; rfl
                  refine ⟨fun wu23 hC hd => ?_, ?_⟩
                  · obtain ⟨h15, _⟩ := hd
                    skip
                    replace h15 : V 15 = (.bool ((decide ((0 : Int) ≤ ((pn.getD k (0 : Int))))) && (decide (((k : Nat) : Int) < ((pn.getD n (0 : Int))))))) := h15
                    replace hb := hb.trans (hC.mono hb.size)
                    replace hkb1 := blk_ext hkb1 hC
                    replace hrE := Row.ext hrE hC
                    refine ⟨true, ((decide ((0 : Int) ≤ ((pn.getD k (0 : Int))))) && (decide (((k : Nat) : Int) < ((pn.getD n (0 : Int)))))), congrArg some h15, fun hact => ?_, fun hact => ?_⟩
                    · replace hact : ((decide ((0 : Int) ≤ ((pn.getD k (0 : Int))))) && (decide (((k : Nat) : Int) < ((pn.getD n (0 : Int)))))) = true := by simpa using hact
                      refine Runs.does (v := (.int .i64 ((n : Nat) : Int))) (r_move rfl) ⟨Below.refl _ _, ?_, nofr rfl⟩
                      show _ = gb _ _; rw [hact]; rfl
                    · replace hact : ((decide ((0 : Int) ≤ ((pn.getD k (0 : Int))))) && (decide (((k : Nat) : Int) < ((pn.getD n (0 : Int)))))) = false := by simpa using hact
                      refine ⟨Below.refl _ _, ?_, nofr rfl⟩
                      show _ = gb _ _; rw [hact]; rfl
                  refine ⟨fun wu24 hC hd => ?_, ?_⟩
                  · obtain ⟨h15, h22, h23, _⟩ := hd
                    skip
                    skip
                    skip
                    replace h15 : V 15 = (.bool ((decide ((0 : Int) ≤ ((pn.getD k (0 : Int))))) && (decide (((k : Nat) : Int) < ((pn.getD n (0 : Int))))))) := h15
                    replace h22 : V 22 = (gb ((decide ((0 : Int) ≤ ((pn.getD k (0 : Int))))) && (decide (((k : Nat) : Int) < ((pn.getD n (0 : Int)))))) (.slice (some ⟨rb1, 0, none⟩) pn.length oc1)) := h22
                    replace h23 : V 23 = (gb ((decide ((0 : Int) ≤ ((pn.getD k (0 : Int))))) && (decide (((k : Nat) : Int) < ((pn.getD n (0 : Int)))))) (.int .i64 ((n : Nat) : Int))) := h23
                    replace hb := hb.trans (hC.mono hb.size)
                    replace hkb1 := blk_ext hkb1 hC
                    replace hrE := Row.ext hrE hC
                    refine ⟨true, ((decide ((0 : Int) ≤ ((pn.getD k (0 : Int))))) && (decide (((k : Nat) : Int) < ((pn.getD n (0 : Int)))))), congrArg some h15, fun hact => ?_, fun hact => ?_⟩
                    · replace hact : ((decide ((0 : Int) ≤ ((pn.getD k (0 : Int))))) && (decide (((k : Nat) : Int) < ((pn.getD n (0 : Int)))))) = true := by simpa using hact
                      refine Runs.does (v := (.pointer (some ⟨rb1, (0 + n * 1), none⟩))) (by have hact0 := hact; simp only [Bool.and_eq_true, Bool.not_eq_true', decide_eq_true_eq, decide_eq_false_iff_not] at hact0; exact (r_ixa (sz := 1) (j := n) (gb_ev hact (congrArg some h22)) (gb_ev hact (congrArg some h23)) Try.underlying28 (by kernel_rfl) rfl (by omega) rfl)) ⟨Below.refl _ _, ?_, nofr rfl⟩
                      show _ = gb _ _; rw [hact]; rfl
                    · replace hact : ((decide ((0 : Int) ≤ ((pn.getD k (0 : Int))))) && (decide (((k : Nat) : Int) < ((pn.getD n (0 : Int)))))) = false := by simpa using hact
                      refine ⟨Below.refl _ _, ?_, nofr rfl⟩
                      show _ = gb _ _; rw [hact]; rfl
                  refine ⟨fun wu25 hC hd => ?_, ?_⟩
                  · obtain ⟨h15, h24, _⟩ := hd
                    skip
                    skip
                    replace h15 : V 15 = (.bool ((decide ((0 : Int) ≤ ((pn.getD k (0 : Int))))) && (decide (((k : Nat) : Int) < ((pn.getD n (0 : Int))))))) := h15
                    replace h24 : V 24 = (gb ((decide ((0 : Int) ≤ ((pn.getD k (0 : Int))))) && (decide (((k : Nat) : Int) < ((pn.getD n (0 : Int)))))) (.pointer (some ⟨rb1, (0 + n * 1), none⟩))) := h24
                    replace hb := hb.trans (hC.mono hb.size)
                    replace hkb1 := blk_ext hkb1 hC
                    replace hrE := Row.ext hrE hC
                    refine ⟨true, ((decide ((0 : Int) ≤ ((pn.getD k (0 : Int))))) && (decide (((k : Nat) : Int) < ((pn.getD n (0 : Int)))))), congrArg some h15, fun hact => ?_, fun hact => ?_⟩
                    · replace hact : ((decide ((0 : Int) ≤ ((pn.getD k (0 : Int))))) && (decide (((k : Nat) : Int) < ((pn.getD n (0 : Int)))))) = true := by simpa using hact
                      refine Runs.does (v := (.int .i64 ((pn.getD n (0 : Int))))) (r_load (v := (.int .i64 ((pn.getD n (0 : Int))))) (gb_ev hact (congrArg some h24)) Try.underlying3 rfl (cellsAt_cell (cellsAt_below hel5 hC hlr5) (i := 0) rfl rfl)) ⟨Below.refl _ _, ?_, nofr rfl⟩
                      show _ = gb _ _; rw [hact]; rfl
                    · replace hact : ((decide ((0 : Int) ≤ ((pn.getD k (0 : Int))))) && (decide (((k : Nat) : Int) < ((pn.getD n (0 : Int)))))) = false := by simpa using hact
                      refine ⟨Below.refl _ _, ?_, nofr rfl⟩
                      show _ = gb _ _; rw [hact]; rfl
                  refine ⟨fun wu26 hC hd => ?_, ?_⟩
                  · obtain ⟨h15, h20, h25, _⟩ := hd
                    skip
                    skip
                    skip
                    replace h15 : V 15 = (.bool ((decide ((0 : Int) ≤ ((pn.getD k (0 : Int))))) && (decide (((k : Nat) : Int) < ((pn.getD n (0 : Int))))))) := h15
                    replace h20 : V 20 = (gb ((decide ((0 : Int) ≤ ((pn.getD k (0 : Int))))) && (decide (((k : Nat) : Int) < ((pn.getD n (0 : Int)))))) (.int .i64 ((pn.getD k (0 : Int))))) := h20
                    replace h25 : V 25 = (gb ((decide ((0 : Int) ≤ ((pn.getD k (0 : Int))))) && (decide (((k : Nat) : Int) < ((pn.getD n (0 : Int)))))) (.int .i64 ((pn.getD n (0 : Int))))) := h25
                    replace hb := hb.trans (hC.mono hb.size)
                    replace hkb1 := blk_ext hkb1 hC
                    replace hrE := Row.ext hrE hC
                    refine ⟨true, ((decide ((0 : Int) ≤ ((pn.getD k (0 : Int))))) && (decide (((k : Nat) : Int) < ((pn.getD n (0 : Int)))))), congrArg some h15, fun hact => ?_, fun hact => ?_⟩
                    · replace hact : ((decide ((0 : Int) ≤ ((pn.getD k (0 : Int))))) && (decide (((k : Nat) : Int) < ((pn.getD n (0 : Int)))))) = true := by simpa using hact
                      refine Runs.does (v := (.bool (decide (((pn.getD n (0 : Int))) ≤ ((pn.getD k (0 : Int))))))) (r_ge (gb_ev hact (congrArg some h20)) (gb_ev hact (congrArg some h25))) ⟨Below.refl _ _, ?_, nofr rfl⟩
                      show _ = gb _ _; rw [hact]; rfl
                    · replace hact : ((decide ((0 : Int) ≤ ((pn.getD k (0 : Int))))) && (decide (((k : Nat) : Int) < ((pn.getD n (0 : Int)))))) = false := by simpa using hact
                      refine ⟨Below.refl _ _, ?_, nofr rfl⟩
                      show _ = gb _ _; rw [hact]; rfl
                  refine ⟨fun wu27 hC hd => ?_, ?_⟩
                  · obtain ⟨h15, h26, _⟩ := hd
                    skip
                    skip
                    replace h15 : V 15 = (.bool ((decide ((0 : Int) ≤ ((pn.getD k (0 : Int))))) && (decide (((k : Nat) : Int) < ((pn.getD n (0 : Int))))))) := h15
                    replace h26 : V 26 = (gb ((decide ((0 : Int) ≤ ((pn.getD k (0 : Int))))) && (decide (((k : Nat) : Int) < ((pn.getD n (0 : Int)))))) (.bool (decide (((pn.getD n (0 : Int))) ≤ ((pn.getD k (0 : Int))))))) := h26
                    replace hb := hb.trans (hC.mono hb.size)
                    replace hkb1 := blk_ext hkb1 hC
                    replace hrE := Row.ext hrE hC
                    exact Runs.does (r_pickA (b := ((decide ((0 : Int) ≤ ((pn.getD k (0 : Int))))) && (decide (((k : Nat) : Int) < ((pn.getD n (0 : Int))))))) (e := (decide (((pn.getD n (0 : Int))) ≤ ((pn.getD k (0 : Int)))))) (congrArg some h15) (congrArg some h26) rfl) ⟨Below.refl _ _, rfl, nofr rfl⟩
                  refine ⟨fun wu28 hC hd => ?_, ?_⟩
                  · obtain ⟨h15, h27, _⟩ := hd
                    skip
                    skip
                    replace h15 : V 15 = (.bool ((decide ((0 : Int) ≤ ((pn.getD k (0 : Int))))) && (decide (((k : Nat) : Int) < ((pn.getD n (0 : Int))))))) := h15
                    replace h27 : V 27 = (.bool (((decide ((0 : Int) ≤ ((pn.getD k (0 : Int))))) && (decide (((k : Nat) : Int) < ((pn.getD n (0 : Int)))))) && (decide (((pn.getD n (0 : Int))) ≤ ((pn.getD k (0 : Int))))))) := h27
                    replace hb := hb.trans (hC.mono hb.size)
                    replace hkb1 := blk_ext hkb1 hC
                    replace hrE := Row.ext hrE hC
                    exact Runs.does (r_move (congrArg some h27)) ⟨Below.refl _ _, rfl, nofr rfl⟩
                  refine ⟨fun wu29 hC hd => ?_, ?_⟩
                  · obtain ⟨h28, _⟩ := hd
                    skip
                    replace h28 : V 28 = (.bool (((decide ((0 : Int) ≤ ((pn.getD k (0 : Int))))) && (decide (((k : Nat) : Int) < ((pn.getD n (0 : Int)))))) && (decide (((pn.getD n (0 : Int))) ≤ ((pn.getD k (0 : Int))))))) := h28
                    replace hb := hb.trans (hC.mono hb.size)
                    replace hkb1 := blk_ext hkb1 hC
                    replace hrE := Row.ext hrE hC
                    refine ⟨true, (((decide ((0 : Int) ≤ ((pn.getD k (0 : Int))))) && (decide (((k : Nat) : Int) < ((pn.getD n (0 : Int)))))) && (decide (((pn.getD n (0 : Int))) ≤ ((pn.getD k (0 : Int)))))), congrArg some h28, fun hact => ?_, fun hact => ?_⟩
                    · replace hact : (!(((decide ((0 : Int) ≤ ((pn.getD k (0 : Int))))) && (decide (((k : Nat) : Int) < ((pn.getD n (0 : Int)))))) && (decide (((pn.getD n (0 : Int))) ≤ ((pn.getD k (0 : Int))))))) = true := by simpa using hact
                      refine Runs.does (v := (.pointer (some ⟨b1, 0, none⟩))) (r_fa rfl Try.underlying30 (f := 0) (q := 0) rfl (by kernel_rfl) rfl) ⟨Below.refl _ _, ?_, nofr rfl⟩
                      show _ = gb _ _; rw [hact]; rfl
                    · replace hact : (!(((decide ((0 : Int) ≤ ((pn.getD k (0 : Int))))) && (decide (((k : Nat) : Int) < ((pn.getD n (0 : Int)))))) && (decide (((pn.getD n (0 : Int))) ≤ ((pn.getD k (0 : Int))))))) = false := by simpa using hact
                      refine ⟨Below.refl _ _, ?_, nofr rfl⟩
                      show _ = gb _ _; rw [hact]; rfl
                  refine ⟨fun wu30 hC hd => ?_, ?_⟩
                  · obtain ⟨h28, h29, _⟩ := hd
                    skip
                    skip
                    replace h28 : V 28 = (.bool (((decide ((0 : Int) ≤ ((pn.getD k (0 : Int))))) && (decide (((k : Nat) : Int) < ((pn.getD n (0 : Int)))))) && (decide (((pn.getD n (0 : Int))) ≤ ((pn.getD k (0 : Int))))))) := h28
                    replace h29 : V 29 = (gb (!(((decide ((0 : Int) ≤ ((pn.getD k (0 : Int))))) && (decide (((k : Nat) : Int) < ((pn.getD n (0 : Int)))))) && (decide (((pn.getD n (0 : Int))) ≤ ((pn.getD k (0 : Int))))))) (.pointer (some ⟨b1, 0, none⟩))) := h29
                    replace hb := hb.trans (hC.mono hb.size)
                    replace hkb1 := blk_ext hkb1 hC
                    replace hrE := Row.ext hrE hC
                    refine ⟨true, (((decide ((0 : Int) ≤ ((pn.getD k (0 : Int))))) && (decide (((k : Nat) : Int) < ((pn.getD n (0 : Int)))))) && (decide (((pn.getD n (0 : Int))) ≤ ((pn.getD k (0 : Int)))))), congrArg some h28, fun hact => ?_, fun hact => ?_⟩
                    · replace hact : (!(((decide ((0 : Int) ≤ ((pn.getD k (0 : Int))))) && (decide (((k : Nat) : Int) < ((pn.getD n (0 : Int)))))) && (decide (((pn.getD n (0 : Int))) ≤ ((pn.getD k (0 : Int))))))) = true := by simpa using hact
                      refine Runs.does (v := (.slice (some ⟨rb1, 0, none⟩) pn.length oc1)) (r_load (v := (.slice (some ⟨rb1, 0, none⟩) pn.length oc1)) (gb_ev hact (congrArg some h29)) Try.underlying28 rfl (cell_blk hkb1 rfl)) ⟨Below.refl _ _, ?_, nofr rfl⟩
                      show _ = gb _ _; rw [hact]; rfl
                    · replace hact : (!(((decide ((0 : Int) ≤ ((pn.getD k (0 : Int))))) && (decide (((k : Nat) : Int) < ((pn.getD n (0 : Int)))))) && (decide (((pn.getD n (0 : Int))) ≤ ((pn.getD k (0 : Int))))))) = false := by simpa using hact
                      refine ⟨Below.refl _ _, ?_, nofr rfl⟩
                      show _ = gb _ _; rw [hact]; rfl
                  refine ⟨fun wu31 hC hd => ?_, ?_⟩
                  · obtain ⟨h28, _⟩ := hd
                    skip
                    replace h28 : V 28 = (.bool (((decide ((0 : Int) ≤ ((pn.getD k (0 : Int))))) && (decide (((k : Nat) : Int) < ((pn.getD n (0 : Int)))))) && (decide (((pn.getD n (0 : Int))) ≤ ((pn.getD k (0 : Int))))))) := h28
                    replace hb := hb.trans (hC.mono hb.size)
                    replace hkb1 := blk_ext hkb1 hC
                    replace hrE := Row.ext hrE hC
                    refine ⟨true, (((decide ((0 : Int) ≤ ((pn.getD k (0 : Int))))) && (decide (((k : Nat) : Int) < ((pn.getD n (0 : Int)))))) && (decide (((pn.getD n (0 : Int))) ≤ ((pn.getD k (0 : Int)))))), congrArg some h28, fun hact => ?_, fun hact => ?_⟩
                    · replace hact : (!(((decide ((0 : Int) ≤ ((pn.getD k (0 : Int))))) && (decide (((k : Nat) : Int) < ((pn.getD n (0 : Int)))))) && (decide (((pn.getD n (0 : Int))) ≤ ((pn.getD k (0 : Int))))))) = true := by simpa using hact
                      refine Runs.does (v := (.int .i64 ((k : Nat) : Int))) (r_move rfl) ⟨Below.refl _ _, ?_, nofr rfl⟩
                      show _ = gb _ _; rw [hact]; rfl
                    · replace hact : (!(((decide ((0 : Int) ≤ ((pn.getD k (0 : Int))))) && (decide (((k : Nat) : Int) < ((pn.getD n (0 : Int)))))) && (decide (((pn.getD n (0 : Int))) ≤ ((pn.getD k (0 : Int))))))) = false := by simpa using hact
                      refine ⟨Below.refl _ _, ?_, nofr rfl⟩
                      show _ = gb _ _; rw [hact]; rfl
                  refine ⟨fun wu32 hC hd => ?_, ?_⟩
                  · obtain ⟨h28, h30, h31, _⟩ := hd
                    skip
                    skip
                    skip
                    replace h28 : V 28 = (.bool (((decide ((0 : Int) ≤ ((pn.getD k (0 : Int))))) && (decide (((k : Nat) : Int) < ((pn.getD n (0 : Int)))))) && (decide (((pn.getD n (0 : Int))) ≤ ((pn.getD k (0 : Int))))))) := h28
                    replace h30 : V 30 = (gb (!(((decide ((0 : Int) ≤ ((pn.getD k (0 : Int))))) && (decide (((k : Nat) : Int) < ((pn.getD n (0 : Int)))))) && (decide (((pn.getD n (0 : Int))) ≤ ((pn.getD k (0 : Int))))))) (.slice (some ⟨rb1, 0, none⟩) pn.length oc1)) := h30
                    replace h31 : V 31 = (gb (!(((decide ((0 : Int) ≤ ((pn.getD k (0 : Int))))) && (decide (((k : Nat) : Int) < ((pn.getD n (0 : Int)))))) && (decide (((pn.getD n (0 : Int))) ≤ ((pn.getD k (0 : Int))))))) (.int .i64 ((k : Nat) : Int))) := h31
                    replace hb := hb.trans (hC.mono hb.size)
                    replace hkb1 := blk_ext hkb1 hC
                    replace hrE := Row.ext hrE hC
                    refine ⟨true, (((decide ((0 : Int) ≤ ((pn.getD k (0 : Int))))) && (decide (((k : Nat) : Int) < ((pn.getD n (0 : Int)))))) && (decide (((pn.getD n (0 : Int))) ≤ ((pn.getD k (0 : Int)))))), congrArg some h28, fun hact => ?_, fun hact => ?_⟩
                    · replace hact : (!(((decide ((0 : Int) ≤ ((pn.getD k (0 : Int))))) && (decide (((k : Nat) : Int) < ((pn.getD n (0 : Int)))))) && (decide (((pn.getD n (0 : Int))) ≤ ((pn.getD k (0 : Int))))))) = true := by simpa using hact
                      refine Runs.does (v := (.pointer (some ⟨rb1, (0 + k * 1), none⟩))) (by have hact0 := hact; simp only [Bool.and_eq_true, Bool.not_eq_true', decide_eq_true_eq, decide_eq_false_iff_not] at hact0; exact (r_ixa (sz := 1) (j := k) (gb_ev hact (congrArg some h30)) (gb_ev hact (congrArg some h31)) Try.underlying28 (by kernel_rfl) rfl (by omega) rfl)) ⟨Below.refl _ _, ?_, nofr rfl⟩
                      show _ = gb _ _; rw [hact]; rfl
                    · replace hact : (!(((decide ((0 : Int) ≤ ((pn.getD k (0 : Int))))) && (decide (((k : Nat) : Int) < ((pn.getD n (0 : Int)))))) && (decide (((pn.getD n (0 : Int))) ≤ ((pn.getD k (0 : Int))))))) = false := by simpa using hact
                      refine ⟨Below.refl _ _, ?_, nofr rfl⟩
                      show _ = gb _ _; rw [hact]; rfl
                  refine ⟨fun wu33 hC hd => ?_, ?_⟩
                  · obtain ⟨h28, h32, _⟩ := hd
                    skip
                    skip
                    replace h28 : V 28 = (.bool (((decide ((0 : Int) ≤ ((pn.getD k (0 : Int))))) && (decide (((k : Nat) : Int) < ((pn.getD n (0 : Int)))))) && (decide (((pn.getD n (0 : Int))) ≤ ((pn.getD k (0 : Int))))))) := h28
                    replace h32 : V 32 = (gb (!(((decide ((0 : Int) ≤ ((pn.getD k (0 : Int))))) && (decide (((k : Nat) : Int) < ((pn.getD n (0 : Int)))))) && (decide (((pn.getD n (0 : Int))) ≤ ((pn.getD k (0 : Int))))))) (.pointer (some ⟨rb1, (0 + k * 1), none⟩))) := h32
                    replace hb := hb.trans (hC.mono hb.size)
                    replace hkb1 := blk_ext hkb1 hC
                    replace hrE := Row.ext hrE hC
                    refine ⟨true, (((decide ((0 : Int) ≤ ((pn.getD k (0 : Int))))) && (decide (((k : Nat) : Int) < ((pn.getD n (0 : Int)))))) && (decide (((pn.getD n (0 : Int))) ≤ ((pn.getD k (0 : Int)))))), congrArg some h28, fun hact => ?_, fun hact => ?_⟩
                    · replace hact : (!(((decide ((0 : Int) ≤ ((pn.getD k (0 : Int))))) && (decide (((k : Nat) : Int) < ((pn.getD n (0 : Int)))))) && (decide (((pn.getD n (0 : Int))) ≤ ((pn.getD k (0 : Int))))))) = true := by simpa using hact
                      refine Runs.does (v := (.int .i64 ((pn.getD k (0 : Int))))) (r_load (v := (.int .i64 ((pn.getD k (0 : Int))))) (gb_ev hact (congrArg some h32)) Try.underlying3 rfl (cellsAt_cell (cellsAt_below hel6 hC hlr6) (i := 0) rfl rfl)) ⟨Below.refl _ _, ?_, nofr rfl⟩
                      show _ = gb _ _; rw [hact]; rfl
                    · replace hact : (!(((decide ((0 : Int) ≤ ((pn.getD k (0 : Int))))) && (decide (((k : Nat) : Int) < ((pn.getD n (0 : Int)))))) && (decide (((pn.getD n (0 : Int))) ≤ ((pn.getD k (0 : Int))))))) = false := by simpa using hact
                      refine ⟨Below.refl _ _, ?_, nofr rfl⟩
                      show _ = gb _ _; rw [hact]; rfl
                  refine ⟨fun wu34 hC hd => ?_, ?_⟩
                  · obtain ⟨h28, h33, _⟩ := hd
                    skip
                    skip
                    replace h28 : V 28 = (.bool (((decide ((0 : Int) ≤ ((pn.getD k (0 : Int))))) && (decide (((k : Nat) : Int) < ((pn.getD n (0 : Int)))))) && (decide (((pn.getD n (0 : Int))) ≤ ((pn.getD k (0 : Int))))))) := h28
                    replace h33 : V 33 = (gb (!(((decide ((0 : Int) ≤ ((pn.getD k (0 : Int))))) && (decide (((k : Nat) : Int) < ((pn.getD n (0 : Int)))))) && (decide (((pn.getD n (0 : Int))) ≤ ((pn.getD k (0 : Int))))))) (.int .i64 ((pn.getD k (0 : Int))))) := h33
                    replace hb := hb.trans (hC.mono hb.size)
                    replace hkb1 := blk_ext hkb1 hC
                    replace hrE := Row.ext hrE hC
                    refine ⟨true, (((decide ((0 : Int) ≤ ((pn.getD k (0 : Int))))) && (decide (((k : Nat) : Int) < ((pn.getD n (0 : Int)))))) && (decide (((pn.getD n (0 : Int))) ≤ ((pn.getD k (0 : Int)))))), congrArg some h28, fun hact => ?_, fun hact => ?_⟩
                    · replace hact : (!(((decide ((0 : Int) ≤ ((pn.getD k (0 : Int))))) && (decide (((k : Nat) : Int) < ((pn.getD n (0 : Int)))))) && (decide (((pn.getD n (0 : Int))) ≤ ((pn.getD k (0 : Int))))))) = true := by simpa using hact
                      refine Runs.does (v := (.bool (decide ((0 : Int) ≤ ((pn.getD k (0 : Int))))))) (r_ge (gb_ev hact (congrArg some h33)) rfl) ⟨Below.refl _ _, ?_, nofr rfl⟩
                      show _ = gb _ _; rw [hact]; rfl
                    · replace hact : (!(((decide ((0 : Int) ≤ ((pn.getD k (0 : Int))))) && (decide (((k : Nat) : Int) < ((pn.getD n (0 : Int)))))) && (decide (((pn.getD n (0 : Int))) ≤ ((pn.getD k (0 : Int))))))) = false := by simpa using hact
                      refine ⟨Below.refl _ _, ?_, nofr rfl⟩
                      show _ = gb _ _; rw [hact]; rfl
                  refine ⟨fun wu35 hC hd => ?_, ?_⟩
                  · obtain ⟨h28, h34, _⟩ := hd
                    skip
                    skip
                    replace h28 : V 28 = (.bool (((decide ((0 : Int) ≤ ((pn.getD k (0 : Int))))) && (decide (((k : Nat) : Int) < ((pn.getD n (0 : Int)))))) && (decide (((pn.getD n (0 : Int))) ≤ ((pn.getD k (0 : Int))))))) := h28
                    replace h34 : V 34 = (gb (!(((decide ((0 : Int) ≤ ((pn.getD k (0 : Int))))) && (decide (((k : Nat) : Int) < ((pn.getD n (0 : Int)))))) && (decide (((pn.getD n (0 : Int))) ≤ ((pn.getD k (0 : Int))))))) (.bool (decide ((0 : Int) ≤ ((pn.getD k (0 : Int))))))) := h34
                    replace hb := hb.trans (hC.mono hb.size)
                    replace hkb1 := blk_ext hkb1 hC
                    replace hrE := Row.ext hrE hC
                    refine ⟨true, (((decide ((0 : Int) ≤ ((pn.getD k (0 : Int))))) && (decide (((k : Nat) : Int) < ((pn.getD n (0 : Int)))))) && (decide (((pn.getD n (0 : Int))) ≤ ((pn.getD k (0 : Int)))))), congrArg some h28, fun hact => ?_, fun hact => ?_⟩
                    · replace hact : (!(((decide ((0 : Int) ≤ ((pn.getD k (0 : Int))))) && (decide (((k : Nat) : Int) < ((pn.getD n (0 : Int)))))) && (decide (((pn.getD n (0 : Int))) ≤ ((pn.getD k (0 : Int))))))) = true := by simpa using hact
                      refine Runs.does (v := (.bool (decide ((0 : Int) ≤ ((pn.getD k (0 : Int))))))) (r_move (gb_ev hact (congrArg some h34))) ⟨Below.refl _ _, ?_, nofr rfl⟩
                      show _ = gb _ _; rw [hact]; rfl
                    · replace hact : (!(((decide ((0 : Int) ≤ ((pn.getD k (0 : Int))))) && (decide (((k : Nat) : Int) < ((pn.getD n (0 : Int)))))) && (decide (((pn.getD n (0 : Int))) ≤ ((pn.getD k (0 : Int))))))) = false := by simpa using hact
                      refine ⟨Below.refl _ _, ?_, nofr rfl⟩
                      show _ = gb _ _; rw [hact]; rfl
                  refine ⟨fun wu36 hC hd => ?_, ?_⟩
                  · obtain ⟨h35, _⟩ := hd
                    skip
                    replace h35 : V 35 = (gb (!(((decide ((0 : Int) ≤ ((pn.getD k (0 : Int))))) && (decide (((k : Nat) : Int) < ((pn.getD n (0 : Int)))))) && (decide (((pn.getD n (0 : Int))) ≤ ((pn.getD k (0 : Int))))))) (.bool (decide ((0 : Int) ≤ ((pn.getD k (0 : Int))))))) := h35
                    replace hb := hb.trans (hC.mono hb.size)
                    replace hkb1 := blk_ext hkb1 hC
                    replace hrE := Row.ext hrE hC
                    refine ⟨(!(((decide ((0 : Int) ≤ ((pn.getD k (0 : Int))))) && (decide (((k : Nat) : Int) < ((pn.getD n (0 : Int)))))) && (decide (((pn.getD n (0 : Int))) ≤ ((pn.getD k (0 : Int))))))), (decide ((0 : Int) ≤ ((pn.getD k (0 : Int))))), congrArg some h35, fun hact => ?_, fun hact => ?_⟩
                    · replace hact : ((!(((decide ((0 : Int) ≤ ((pn.getD k (0 : Int))))) && (decide (((k : Nat) : Int) < ((pn.getD n (0 : Int)))))) && (decide (((pn.getD n (0 : Int))) ≤ ((pn.getD k (0 : Int))))))) && (decide ((0 : Int) ≤ ((pn.getD k (0 : Int)))))) = true := by simpa using hact
                      refine Runs.does (v := (.pointer (some ⟨b1, 0, none⟩))) (r_fa rfl Try.underlying30 (f := 0) (q := 0) rfl (by kernel_rfl) rfl) ⟨Below.refl _ _, ?_, nofr rfl⟩
                      show _ = gb _ _; rw [hact]; rfl
                    · replace hact : ((!(((decide ((0 : Int) ≤ ((pn.getD k (0 : Int))))) && (decide (((k : Nat) : Int) < ((pn.getD n (0 : Int)))))) && (decide (((pn.getD n (0 : Int))) ≤ ((pn.getD k (0 : Int))))))) && (decide ((0 : Int) ≤ ((pn.getD k (0 : Int)))))) = false := by simpa using hact
                      refine ⟨Below.refl _ _, ?_, nofr rfl⟩
                      show _ = gb _ _; rw [hact]; rfl
                  refine ⟨fun wu37 hC hd => ?_, ?_⟩
                  · obtain ⟨h35, h36, _⟩ := hd
                    skip
                    skip
                    replace h35 : V 35 = (gb (!(((decide ((0 : Int) ≤ ((pn.getD k (0 : Int))))) && (decide (((k : Nat) : Int) < ((pn.getD n (0 : Int)))))) && (decide (((pn.getD n (0 : Int))) ≤ ((pn.getD k (0 : Int))))))) (.bool (decide ((0 : Int) ≤ ((pn.getD k (0 : Int))))))) := h35
                    replace h36 : V 36 = (gb ((!(((decide ((0 : Int) ≤ ((pn.getD k (0 : Int))))) && (decide (((k : Nat) : Int) < ((pn.getD n (0 : Int)))))) && (decide (((pn.getD n (0 : Int))) ≤ ((pn.getD k (0 : Int))))))) && (decide ((0 : Int) ≤ ((pn.getD k (0 : Int)))))) (.pointer (some ⟨b1, 0, none⟩))) := h36
                    replace hb := hb.trans (hC.mono hb.size)
                    replace hkb1 := blk_ext hkb1 hC
                    replace hrE := Row.ext hrE hC
                    refine ⟨(!(((decide ((0 : Int) ≤ ((pn.getD k (0 : Int))))) && (decide (((k : Nat) : Int) < ((pn.getD n (0 : Int)))))) && (decide (((pn.getD n (0 : Int))) ≤ ((pn.getD k (0 : Int))))))), (decide ((0 : Int) ≤ ((pn.getD k (0 : Int))))), congrArg some h35, fun hact => ?_, fun hact => ?_⟩
                    · replace hact : ((!(((decide ((0 : Int) ≤ ((pn.getD k (0 : Int))))) && (decide (((k : Nat) : Int) < ((pn.getD n (0 : Int)))))) && (decide (((pn.getD n (0 : Int))) ≤ ((pn.getD k (0 : Int))))))) && (decide ((0 : Int) ≤ ((pn.getD k (0 : Int)))))) = true := by simpa using hact
                      refine Runs.does (v := (.slice (some ⟨rb1, 0, none⟩) pn.length oc1)) (r_load (v := (.slice (some ⟨rb1, 0, none⟩) pn.length oc1)) (gb_ev hact (congrArg some h36)) Try.underlying28 rfl (cell_blk hkb1 rfl)) ⟨Below.refl _ _, ?_, nofr rfl⟩
                      show _ = gb _ _; rw [hact]; rfl
                    · replace hact : ((!(((decide ((0 : Int) ≤ ((pn.getD k (0 : Int))))) && (decide (((k : Nat) : Int) < ((pn.getD n (0 : Int)))))) && (decide (((pn.getD n (0 : Int))) ≤ ((pn.getD k (0 : Int))))))) && (decide ((0 : Int) ≤ ((pn.getD k (0 : Int)))))) = false := by simpa using hact
                      refine ⟨Below.refl _ _, ?_, nofr rfl⟩
                      show _ = gb _ _; rw [hact]; rfl
                  refine ⟨fun wu38 hC hd => ?_, ?_⟩
                  · obtain ⟨h35, _⟩ := hd
                    skip
                    replace h35 : V 35 = (gb (!(((decide ((0 : Int) ≤ ((pn.getD k (0 : Int))))) && (decide (((k : Nat) : Int) < ((pn.getD n (0 : Int)))))) && (decide (((pn.getD n (0 : Int))) ≤ ((pn.getD k (0 : Int))))))) (.bool (decide ((0 : Int) ≤ ((pn.getD k (0 : Int))))))) := h35
                    replace hb := hb.trans (hC.mono hb.size)
                    replace hkb1 := blk_ext hkb1 hC
                    replace hrE := Row.ext hrE hC
                    refine ⟨(!(((decide ((0 : Int) ≤ ((pn.getD k (0 : Int))))) && (decide (((k : Nat) : Int) < ((pn.getD n (0 : Int)))))) && (decide (((pn.getD n (0 : Int))) ≤ ((pn.getD k (0 : Int))))))), (decide ((0 : Int) ≤ ((pn.getD k (0 : Int))))), congrArg some h35, fun hact => ?_, fun hact => ?_⟩
                    · replace hact : ((!(((decide ((0 : Int) ≤ ((pn.getD k (0 : Int))))) && (decide (((k : Nat) : Int) < ((pn.getD n (0 : Int)))))) && (decide (((pn.getD n (0 : Int))) ≤ ((pn.getD k (0 : Int))))))) && (decide ((0 : Int) ≤ ((pn.getD k (0 : Int)))))) = true := by simpa using hact
                      refine Runs.does (v := (.int .i64 ((k : Nat) : Int))) (r_move rfl) ⟨Below.refl _ _, ?_, nofr rfl⟩
                      show _ = gb _ _; rw [hact]; rfl
                    · replace hact : ((!(((decide ((0 : Int) ≤ ((pn.getD k (0 : Int))))) && (decide (((k : Nat) : Int) < ((pn.getD n (0 : Int)))))) && (decide (((pn.getD n (0 : Int))) ≤ ((pn.getD k (0 : Int))))))) && (decide ((0 : Int) ≤ ((pn.getD k (0 : Int)))))) = false := by simpa using hact
                      refine ⟨Below.refl _ _, ?_, nofr rfl⟩
                      show _ = gb _ _; rw [hact]; rfl
                  refine ⟨fun wu39 hC hd => ?_, ?_⟩
                  · obtain ⟨h35, h37, h38, _⟩ := hd
                    skip
                    skip
                    skip
                    replace h35 : V 35 = (gb (!(((decide ((0 : Int) ≤ ((pn.getD k (0 : Int))))) && (decide (((k : Nat) : Int) < ((pn.getD n (0 : Int)))))) && (decide (((pn.getD n (0 : Int))) ≤ ((pn.getD k (0 : Int))))))) (.bool (decide ((0 : Int) ≤ ((pn.getD k (0 : Int))))))) := h35
                    replace h37 : V 37 = (gb ((!(((decide ((0 : Int) ≤ ((pn.getD k (0 : Int))))) && (decide (((k : Nat) : Int) < ((pn.getD n (0 : Int)))))) && (decide (((pn.getD n (0 : Int))) ≤ ((pn.getD k (0 : Int))))))) && (decide ((0 : Int) ≤ ((pn.getD k (0 : Int)))))) (.slice (some ⟨rb1, 0, none⟩) pn.length oc1)) := h37
                    replace h38 : V 38 = (gb ((!(((decide ((0 : Int) ≤ ((pn.getD k (0 : Int))))) && (decide (((k : Nat) : Int) < ((pn.getD n (0 : Int)))))) && (decide (((pn.getD n (0 : Int))) ≤ ((pn.getD k (0 : Int))))))) && (decide ((0 : Int) ≤ ((pn.getD k (0 : Int)))))) (.int .i64 ((k : Nat) : Int))) := h38
                    replace hb := hb.trans (hC.mono hb.size)
                    replace hkb1 := blk_ext hkb1 hC
                    replace hrE := Row.ext hrE hC
                    refine ⟨(!(((decide ((0 : Int) ≤ ((pn.getD k (0 : Int))))) && (decide (((k : Nat) : Int) < ((pn.getD n (0 : Int)))))) && (decide (((pn.getD n (0 : Int))) ≤ ((pn.getD k (0 : Int))))))), (decide ((0 : Int) ≤ ((pn.getD k (0 : Int))))), congrArg some h35, fun hact => ?_, fun hact => ?_⟩
                    · replace hact : ((!(((decide ((0 : Int) ≤ ((pn.getD k (0 : Int))))) && (decide (((k : Nat) : Int) < ((pn.getD n (0 : Int)))))) && (decide (((pn.getD n (0 : Int))) ≤ ((pn.getD k (0 : Int))))))) && (decide ((0 : Int) ≤ ((pn.getD k (0 : Int)))))) = true := by simpa using hact
                      refine Runs.does (v := (.pointer (some ⟨rb1, (0 + k * 1), none⟩))) (by have hact0 := hact; simp only [Bool.and_eq_true, Bool.not_eq_true', decide_eq_true_eq, decide_eq_false_iff_not] at hact0; exact (r_ixa (sz := 1) (j := k) (gb_ev hact (congrArg some h37)) (gb_ev hact (congrArg some h38)) Try.underlying28 (by kernel_rfl) rfl (by omega) rfl)) ⟨Below.refl _ _, ?_, nofr rfl⟩
                      show _ = gb _ _; rw [hact]; rfl
                    · replace hact : ((!(((decide ((0 : Int) ≤ ((pn.getD k (0 : Int))))) && (decide (((k : Nat) : Int) < ((pn.getD n (0 : Int)))))) && (decide (((pn.getD n (0 : Int))) ≤ ((pn.getD k (0 : Int))))))) && (decide ((0 : Int) ≤ ((pn.getD k (0 : Int)))))) = false := by simpa using hact
                      refine ⟨Below.refl _ _, ?_, nofr rfl⟩
                      show _ = gb _ _; rw [hact]; rfl
                  refine ⟨fun wu40 hC hd => ?_, ?_⟩
                  · obtain ⟨h35, h39, _⟩ := hd
                    skip
                    skip
                    replace h35 : V 35 = (gb (!(((decide ((0 : Int) ≤ ((pn.getD k (0 : Int))))) && (decide (((k : Nat) : Int) < ((pn.getD n (0 : Int)))))) && (decide (((pn.getD n (0 : Int))) ≤ ((pn.getD k (0 : Int))))))) (.bool (decide ((0 : Int) ≤ ((pn.getD k (0 : Int))))))) := h35
                    replace h39 : V 39 = (gb ((!(((decide ((0 : Int) ≤ ((pn.getD k (0 : Int))))) && (decide (((k : Nat) : Int) < ((pn.getD n (0 : Int)))))) && (decide (((pn.getD n (0 : Int))) ≤ ((pn.getD k (0 : Int))))))) && (decide ((0 : Int) ≤ ((pn.getD k (0 : Int)))))) (.pointer (some ⟨rb1, (0 + k * 1), none⟩))) := h39
                    replace hb := hb.trans (hC.mono hb.size)
                    replace hkb1 := blk_ext hkb1 hC
                    replace hrE := Row.ext hrE hC
                    refine ⟨(!(((decide ((0 : Int) ≤ ((pn.getD k (0 : Int))))) && (decide (((k : Nat) : Int) < ((pn.getD n (0 : Int)))))) && (decide (((pn.getD n (0 : Int))) ≤ ((pn.getD k (0 : Int))))))), (decide ((0 : Int) ≤ ((pn.getD k (0 : Int))))), congrArg some h35, fun hact => ?_, fun hact => ?_⟩
                    · replace hact : ((!(((decide ((0 : Int) ≤ ((pn.getD k (0 : Int))))) && (decide (((k : Nat) : Int) < ((pn.getD n (0 : Int)))))) && (decide (((pn.getD n (0 : Int))) ≤ ((pn.getD k (0 : Int))))))) && (decide ((0 : Int) ≤ ((pn.getD k (0 : Int)))))) = true := by simpa using hact
                      refine Runs.does (v := (.int .i64 ((pn.getD k (0 : Int))))) (r_load (v := (.int .i64 ((pn.getD k (0 : Int))))) (gb_ev hact (congrArg some h39)) Try.underlying3 rfl (cellsAt_cell (cellsAt_below hel7 hC hlr7) (i := 0) rfl rfl)) ⟨Below.refl _ _, ?_, nofr rfl⟩
                      show _ = gb _ _; rw [hact]; rfl
                    · replace hact : ((!(((decide ((0 : Int) ≤ ((pn.getD k (0 : Int))))) && (decide (((k : Nat) : Int) < ((pn.getD n (0 : Int)))))) && (decide (((pn.getD n (0 : Int))) ≤ ((pn.getD k (0 : Int))))))) && (decide ((0 : Int) ≤ ((pn.getD k (0 : Int)))))) = false := by simpa using hact
                      refine ⟨Below.refl _ _, ?_, nofr rfl⟩
                      show _ = gb _ _; rw [hact]; rfl
                  refine ⟨fun wu41 hC hd => ?_, ?_⟩
                  · obtain ⟨h35, _⟩ := hd
                    skip
                    replace h35 : V 35 = (gb (!(((decide ((0 : Int) ≤ ((pn.getD k (0 : Int))))) && (decide (((k : Nat) : Int) < ((pn.getD n (0 : Int)))))) && (decide (((pn.getD n (0 : Int))) ≤ ((pn.getD k (0 : Int))))))) (.bool (decide ((0 : Int) ≤ ((pn.getD k (0 : Int))))))) := h35
                    replace hb := hb.trans (hC.mono hb.size)
                    replace hkb1 := blk_ext hkb1 hC
                    replace hrE := Row.ext hrE hC
                    refine ⟨(!(((decide ((0 : Int) ≤ ((pn.getD k (0 : Int))))) && (decide (((k : Nat) : Int) < ((pn.getD n (0 : Int)))))) && (decide (((pn.getD n (0 : Int))) ≤ ((pn.getD k (0 : Int))))))), (decide ((0 : Int) ≤ ((pn.getD k (0 : Int))))), congrArg some h35, fun hact => ?_, fun hact => ?_⟩
                    · replace hact : ((!(((decide ((0 : Int) ≤ ((pn.getD k (0 : Int))))) && (decide (((k : Nat) : Int) < ((pn.getD n (0 : Int)))))) && (decide (((pn.getD n (0 : Int))) ≤ ((pn.getD k (0 : Int))))))) && (decide ((0 : Int) ≤ ((pn.getD k (0 : Int)))))) = true := by simpa using hact
                      refine Runs.does (v := (.int .i64 ((k : Nat) : Int))) (r_move rfl) ⟨Below.refl _ _, ?_, nofr rfl⟩
                      show _ = gb _ _; rw [hact]; rfl
                    · replace hact : ((!(((decide ((0 : Int) ≤ ((pn.getD k (0 : Int))))) && (decide (((k : Nat) : Int) < ((pn.getD n (0 : Int)))))) && (decide (((pn.getD n (0 : Int))) ≤ ((pn.getD k (0 : Int))))))) && (decide ((0 : Int) ≤ ((pn.getD k (0 : Int)))))) = false := by simpa using hact
                      refine ⟨Below.refl _ _, ?_, nofr rfl⟩
                      show _ = gb _ _; rw [hact]; rfl
                  refine ⟨fun wu42 hC hd => ?_, ?_⟩
                  · obtain ⟨h35, h40, h41, _⟩ := hd
                    skip
                    skip
                    skip
                    replace h35 : V 35 = (gb (!(((decide ((0 : Int) ≤ ((pn.getD k (0 : Int))))) && (decide (((k : Nat) : Int) < ((pn.getD n (0 : Int)))))) && (decide (((pn.getD n (0 : Int))) ≤ ((pn.getD k (0 : Int))))))) (.bool (decide ((0 : Int) ≤ ((pn.getD k (0 : Int))))))) := h35
                    replace h40 : V 40 = (gb ((!(((decide ((0 : Int) ≤ ((pn.getD k (0 : Int))))) && (decide (((k : Nat) : Int) < ((pn.getD n (0 : Int)))))) && (decide (((pn.getD n (0 : Int))) ≤ ((pn.getD k (0 : Int))))))) && (decide ((0 : Int) ≤ ((pn.getD k (0 : Int)))))) (.int .i64 ((pn.getD k (0 : Int))))) := h40
                    replace h41 : V 41 = (gb ((!(((decide ((0 : Int) ≤ ((pn.getD k (0 : Int))))) && (decide (((k : Nat) : Int) < ((pn.getD n (0 : Int)))))) && (decide (((pn.getD n (0 : Int))) ≤ ((pn.getD k (0 : Int))))))) && (decide ((0 : Int) ≤ ((pn.getD k (0 : Int)))))) (.int .i64 ((k : Nat) : Int))) := h41
                    replace hb := hb.trans (hC.mono hb.size)
                    replace hkb1 := blk_ext hkb1 hC
                    replace hrE := Row.ext hrE hC
                    refine ⟨(!(((decide ((0 : Int) ≤ ((pn.getD k (0 : Int))))) && (decide (((k : Nat) : Int) < ((pn.getD n (0 : Int)))))) && (decide (((pn.getD n (0 : Int))) ≤ ((pn.getD k (0 : Int))))))), (decide ((0 : Int) ≤ ((pn.getD k (0 : Int))))), congrArg some h35, fun hact => ?_, fun hact => ?_⟩
                    · replace hact : ((!(((decide ((0 : Int) ≤ ((pn.getD k (0 : Int))))) && (decide (((k : Nat) : Int) < ((pn.getD n (0 : Int)))))) && (decide (((pn.getD n (0 : Int))) ≤ ((pn.getD k (0 : Int))))))) && (decide ((0 : Int) ≤ ((pn.getD k (0 : Int)))))) = true := by simpa using hact
                      refine Runs.does (v := (.bool (decide (((pn.getD k (0 : Int))) ≤ ((k : Nat) : Int))))) (r_le (gb_ev hact (congrArg some h40)) (gb_ev hact (congrArg some h41))) ⟨Below.refl _ _, ?_, nofr rfl⟩
                      show _ = gb _ _; rw [hact]; rfl
                    · replace hact : ((!(((decide ((0 : Int) ≤ ((pn.getD k (0 : Int))))) && (decide (((k : Nat) : Int) < ((pn.getD n (0 : Int)))))) && (decide (((pn.getD n (0 : Int))) ≤ ((pn.getD k (0 : Int))))))) && (decide ((0 : Int) ≤ ((pn.getD k (0 : Int)))))) = false := by simpa using hact
                      refine ⟨Below.refl _ _, ?_, nofr rfl⟩
                      show _ = gb _ _; rw [hact]; rfl
                  refine ⟨fun wu43 hC hd => ?_, ?_⟩
                  · obtain ⟨h28, h35, h42, _⟩ := hd
                    skip
                    skip
                    skip
                    replace h28 : V 28 = (.bool (((decide ((0 : Int) ≤ ((pn.getD k (0 : Int))))) && (decide (((k : Nat) : Int) < ((pn.getD n (0 : Int)))))) && (decide (((pn.getD n (0 : Int))) ≤ ((pn.getD k (0 : Int))))))) := h28
                    replace h35 : V 35 = (gb (!(((decide ((0 : Int) ≤ ((pn.getD k (0 : Int))))) && (decide (((k : Nat) : Int) < ((pn.getD n (0 : Int)))))) && (decide (((pn.getD n (0 : Int))) ≤ ((pn.getD k (0 : Int))))))) (.bool (decide ((0 : Int) ≤ ((pn.getD k (0 : Int))))))) := h35
                    replace h42 : V 42 = (gb ((!(((decide ((0 : Int) ≤ ((pn.getD k (0 : Int))))) && (decide (((k : Nat) : Int) < ((pn.getD n (0 : Int)))))) && (decide (((pn.getD n (0 : Int))) ≤ ((pn.getD k (0 : Int))))))) && (decide ((0 : Int) ≤ ((pn.getD k (0 : Int)))))) (.bool (decide (((pn.getD k (0 : Int))) ≤ ((k : Nat) : Int))))) := h42
                    replace hb := hb.trans (hC.mono hb.size)
                    replace hkb1 := blk_ext hkb1 hC
                    replace hrE := Row.ext hrE hC
                    refine ⟨true, (((decide ((0 : Int) ≤ ((pn.getD k (0 : Int))))) && (decide (((k : Nat) : Int) < ((pn.getD n (0 : Int)))))) && (decide (((pn.getD n (0 : Int))) ≤ ((pn.getD k (0 : Int)))))), congrArg some h28, fun hact => ?_, fun hact => ?_⟩
                    · replace hact : (!(((decide ((0 : Int) ≤ ((pn.getD k (0 : Int))))) && (decide (((k : Nat) : Int) < ((pn.getD n (0 : Int)))))) && (decide (((pn.getD n (0 : Int))) ≤ ((pn.getD k (0 : Int))))))) = true := by simpa using hact
                      refine Runs.does (v := (.bool ((decide ((0 : Int) ≤ ((pn.getD k (0 : Int))))) && (decide (((pn.getD k (0 : Int))) ≤ ((k : Nat) : Int)))))) (r_pickA2 (q := (!(((decide ((0 : Int) ≤ ((pn.getD k (0 : Int))))) && (decide (((k : Nat) : Int) < ((pn.getD n (0 : Int)))))) && (decide (((pn.getD n (0 : Int))) ≤ ((pn.getD k (0 : Int)))))))) (b := (decide ((0 : Int) ≤ ((pn.getD k (0 : Int)))))) (e := (decide (((pn.getD k (0 : Int))) ≤ ((k : Nat) : Int)))) hact (congrArg some h35) (congrArg some h42) rfl) ⟨Below.refl _ _, ?_, nofr rfl⟩
                      show _ = gb _ _; rw [hact]; rfl
                    · replace hact : (!(((decide ((0 : Int) ≤ ((pn.getD k (0 : Int))))) && (decide (((k : Nat) : Int) < ((pn.getD n (0 : Int)))))) && (decide (((pn.getD n (0 : Int))) ≤ ((pn.getD k (0 : Int))))))) = false := by simpa using hact
                      refine ⟨Below.refl _ _, ?_, nofr rfl⟩
                      show _ = gb _ _; rw [hact]; rfl
                  refine ⟨fun wu44 hC hd => ?_, ?_⟩
                  · obtain ⟨h28, h43, _⟩ := hd
                    skip
                    skip
                    replace h28 : V 28 = (.bool (((decide ((0 : Int) ≤ ((pn.getD k (0 : Int))))) && (decide (((k : Nat) : Int) < ((pn.getD n (0 : Int)))))) && (decide (((pn.getD n (0 : Int))) ≤ ((pn.getD k (0 : Int))))))) := h28
                    replace h43 : V 43 = (gb (!(((decide ((0 : Int) ≤ ((pn.getD k (0 : Int))))) && (decide (((k : Nat) : Int) < ((pn.getD n (0 : Int)))))) && (decide (((pn.getD n (0 : Int))) ≤ ((pn.getD k (0 : Int))))))) (.bool ((decide ((0 : Int) ≤ ((pn.getD k (0 : Int))))) && (decide (((pn.getD k (0 : Int))) ≤ ((k : Nat) : Int)))))) := h43
                    replace hb := hb.trans (hC.mono hb.size)
                    replace hkb1 := blk_ext hkb1 hC
                    replace hrE := Row.ext hrE hC
                    exact Runs.does (r_pickO (b := (((decide ((0 : Int) ≤ ((pn.getD k (0 : Int))))) && (decide (((k : Nat) : Int) < ((pn.getD n (0 : Int)))))) && (decide (((pn.getD n (0 : Int))) ≤ ((pn.getD k (0 : Int))))))) (e := ((decide ((0 : Int) ≤ ((pn.getD k (0 : Int))))) && (decide (((pn.getD k (0 : Int))) ≤ ((k : Nat) : Int))))) (congrArg some h28) rfl (congrArg some h43)) ⟨Below.refl _ _, rfl, nofr rfl⟩
                  trivial
                · skip
                  clear hf fa; intro V w7 fa he4 hp hnb hf
                  have hv0 : V 0 = (.pointer (some ⟨b1, 0, none⟩)) := postsHold_at hp 0 rfl
                  have hv1 : V 1 = (.slice (some ⟨rb1, 0, none⟩) pn.length oc1) := postsHold_at hp 1 rfl
                  have hv2 : V 2 = (.int .i64 ((k : Nat) : Int)) := postsHold_at hp 2 rfl
                  have hv3 : V 3 = (.pointer (some ⟨rb1, (0 + k * 1), none⟩)) := postsHold_at hp 3 rfl
                  have hv4 : V 4 = (.int .i64 ((pn.getD k (0 : Int)))) := postsHold_at hp 4 rfl
                  have hv5 : V 5 = (.bool (decide ((0 : Int) ≤ ((pn.getD k (0 : Int)))))) := postsHold_at hp 5 rfl
                  have hv6 : V 6 = (.bool (decide ((0 : Int) ≤ ((pn.getD k (0 : Int)))))) := postsHold_at hp 6 rfl
                  have hv7 : V 7 = (gb (decide ((0 : Int) ≤ ((pn.getD k (0 : Int))))) (.int .i64 ((k : Nat) : Int))) := postsHold_at hp 7 rfl
                  have hv8 : V 8 = (gb (decide ((0 : Int) ≤ ((pn.getD k (0 : Int))))) (.pointer (some ⟨b1, 0, none⟩))) := postsHold_at hp 8 rfl
                  have hv9 : V 9 = (gb (decide ((0 : Int) ≤ ((pn.getD k (0 : Int))))) (.slice (some ⟨rb1, 0, none⟩) pn.length oc1)) := postsHold_at hp 9 rfl
                  have hv10 : V 10 = (gb (decide ((0 : Int) ≤ ((pn.getD k (0 : Int))))) (.int .i64 ((n : Nat) : Int))) := postsHold_at hp 10 rfl
                  have hv11 : V 11 = (gb (decide ((0 : Int) ≤ ((pn.getD k (0 : Int))))) (.pointer (some ⟨rb1, (0 + n * 1), none⟩))) := postsHold_at hp 11 rfl
                  have hv12 : V 12 = (gb (decide ((0 : Int) ≤ ((pn.getD k (0 : Int))))) (.int .i64 ((pn.getD n (0 : Int))))) := postsHold_at hp 12 rfl
                  have hv13 : V 13 = (gb (decide ((0 : Int) ≤ ((pn.getD k (0 : Int))))) (.bool (decide (((k : Nat) : Int) < ((pn.getD n (0 : Int))))))) := postsHold_at hp 13 rfl
                  have hv14 : V 14 = (.bool ((decide ((0 : Int) ≤ ((pn.getD k (0 : Int))))) && (decide (((k : Nat) : Int) < ((pn.getD n (0 : Int))))))) := postsHold_at hp 14 rfl
                  have hv15 : V 15 = (.bool ((decide ((0 : Int) ≤ ((pn.getD k (0 : Int))))) && (decide (((k : Nat) : Int) < ((pn.getD n (0 : Int))))))) := postsHold_at hp 15 rfl
                  have hv16 : V 16 = (gb ((decide ((0 : Int) ≤ ((pn.getD k (0 : Int))))) && (decide (((k : Nat) : Int) < ((pn.getD n (0 : Int)))))) (.pointer (some ⟨b1, 0, none⟩))) := postsHold_at hp 16 rfl
                  have hv17 : V 17 = (gb ((decide ((0 : Int) ≤ ((pn.getD k (0 : Int))))) && (decide (((k : Nat) : Int) < ((pn.getD n (0 : Int)))))) (.slice (some ⟨rb1, 0, none⟩) pn.length oc1)) := postsHold_at hp 17 rfl
                  have hv18 : V 18 = (gb ((decide ((0 : Int) ≤ ((pn.getD k (0 : Int))))) && (decide (((k : Nat) : Int) < ((pn.getD n (0 : Int)))))) (.int .i64 ((k : Nat) : Int))) := postsHold_at hp 18 rfl
                  have hv19 : V 19 = (gb ((decide ((0 : Int) ≤ ((pn.getD k (0 : Int))))) && (decide (((k : Nat) : Int) < ((pn.getD n (0 : Int)))))) (.pointer (some ⟨rb1, (0 + k * 1), none⟩))) := postsHold_at hp 19 rfl
                  have hv20 : V 20 = (gb ((decide ((0 : Int) ≤ ((pn.getD k (0 : Int))))) && (decide (((k : Nat) : Int) < ((pn.getD n (0 : Int)))))) (.int .i64 ((pn.getD k (0 : Int))))) := postsHold_at hp 20 rfl
                  have hv21 : V 21 = (gb ((decide ((0 : Int) ≤ ((pn.getD k (0 : Int))))) && (decide (((k : Nat) : Int) < ((pn.getD n (0 : Int)))))) (.pointer (some ⟨b1, 0, none⟩))) := postsHold_at hp 21 rfl
                  have hv22 : V 22 = (gb ((decide ((0 : Int) ≤ ((pn.getD k (0 : Int))))) && (decide (((k : Nat) : Int) < ((pn.getD n (0 : Int)))))) (.slice (some ⟨rb1, 0, none⟩) pn.length oc1)) := postsHold_at hp 22 rfl
                  have hv23 : V 23 = (gb ((decide ((0 : Int) ≤ ((pn.getD k (0 : Int))))) && (decide (((k : Nat) : Int) < ((pn.getD n (0 : Int)))))) (.int .i64 ((n : Nat) : Int))) := postsHold_at hp 23 rfl
                  have hv24 : V 24 = (gb ((decide ((0 : Int) ≤ ((pn.getD k (0 : Int))))) && (decide (((k : Nat) : Int) < ((pn.getD n (0 : Int)))))) (.pointer (some ⟨rb1, (0 + n * 1), none⟩))) := postsHold_at hp 24 rfl
                  have hv25 : V 25 = (gb ((decide ((0 : Int) ≤ ((pn.getD k (0 : Int))))) && (decide (((k : Nat) : Int) < ((pn.getD n (0 : Int)))))) (.int .i64 ((pn.getD n (0 : Int))))) := postsHold_at hp 25 rfl
                  have hv26 : V 26 = (gb ((decide ((0 : Int) ≤ ((pn.getD k (0 : Int))))) && (decide (((k : Nat) : Int) < ((pn.getD n (0 : Int)))))) (.bool (decide (((pn.getD n (0 : Int))) ≤ ((pn.getD k (0 : Int))))))) := postsHold_at hp 26 rfl
                  have hv27 : V 27 = (.bool (((decide ((0 : Int) ≤ ((pn.getD k (0 : Int))))) && (decide (((k : Nat) : Int) < ((pn.getD n (0 : Int)))))) && (decide (((pn.getD n (0 : Int))) ≤ ((pn.getD k (0 : Int))))))) := postsHold_at hp 27 rfl
                  have hv28 : V 28 = (.bool (((decide ((0 : Int) ≤ ((pn.getD k (0 : Int))))) && (decide (((k : Nat) : Int) < ((pn.getD n (0 : Int)))))) && (decide (((pn.getD n (0 : Int))) ≤ ((pn.getD k (0 : Int))))))) := postsHold_at hp 28 rfl
                  have hv29 : V 29 = (gb (!(((decide ((0 : Int) ≤ ((pn.getD k (0 : Int))))) && (decide (((k : Nat) : Int) < ((pn.getD n (0 : Int)))))) && (decide (((pn.getD n (0 : Int))) ≤ ((pn.getD k (0 : Int))))))) (.pointer (some ⟨b1, 0, none⟩))) := postsHold_at hp 29 rfl
                  have hv30 : V 30 = (gb (!(((decide ((0 : Int) ≤ ((pn.getD k (0 : Int))))) && (decide (((k : Nat) : Int) < ((pn.getD n (0 : Int)))))) && (decide (((pn.getD n (0 : Int))) ≤ ((pn.getD k (0 : Int))))))) (.slice (some ⟨rb1, 0, none⟩) pn.length oc1)) := postsHold_at hp 30 rfl
                  have hv31 : V 31 = (gb (!(((decide ((0 : Int) ≤ ((pn.getD k (0 : Int))))) && (decide (((k : Nat) : Int) < ((pn.getD n (0 : Int)))))) && (decide (((pn.getD n (0 : Int))) ≤ ((pn.getD k (0 : Int))))))) (.int .i64 ((k : Nat) : Int))) := postsHold_at hp 31 rfl
                  have hv32 : V 32 = (gb (!(((decide ((0 : Int) ≤ ((pn.getD k (0 : Int))))) && (decide (((k : Nat) : Int) < ((pn.getD n (0 : Int)))))) && (decide (((pn.getD n (0 : Int))) ≤ ((pn.getD k (0 : Int))))))) (.pointer (some ⟨rb1, (0 + k * 1), none⟩))) := postsHold_at hp 32 rfl
                  have hv33 : V 33 = (gb (!(((decide ((0 : Int) ≤ ((pn.getD k (0 : Int))))) && (decide (((k : Nat) : Int) < ((pn.getD n (0 : Int)))))) && (decide (((pn.getD n (0 : Int))) ≤ ((pn.getD k (0 : Int))))))) (.int .i64 ((pn.getD k (0 : Int))))) := postsHold_at hp 33 rfl
                  have hv34 : V 34 = (gb (!(((decide ((0 : Int) ≤ ((pn.getD k (0 : Int))))) && (decide (((k : Nat) : Int) < ((pn.getD n (0 : Int)))))) && (decide (((pn.getD n (0 : Int))) ≤ ((pn.getD k (0 : Int))))))) (.bool (decide ((0 : Int) ≤ ((pn.getD k (0 : Int))))))) := postsHold_at hp 34 rfl
                  have hv35 : V 35 = (gb (!(((decide ((0 : Int) ≤ ((pn.getD k (0 : Int))))) && (decide (((k : Nat) : Int) < ((pn.getD n (0 : Int)))))) && (decide (((pn.getD n (0 : Int))) ≤ ((pn.getD k (0 : Int))))))) (.bool (decide ((0 : Int) ≤ ((pn.getD k (0 : Int))))))) := postsHold_at hp 35 rfl
                  have hv36 : V 36 = (gb ((!(((decide ((0 : Int) ≤ ((pn.getD k (0 : Int))))) && (decide (((k : Nat) : Int) < ((pn.getD n (0 : Int)))))) && (decide (((pn.getD n (0 : Int))) ≤ ((pn.getD k (0 : Int))))))) && (decide ((0 : Int) ≤ ((pn.getD k (0 : Int)))))) (.pointer (some ⟨b1, 0, none⟩))) := postsHold_at hp 36 rfl
                  have hv37 : V 37 = (gb ((!(((decide ((0 : Int) ≤ ((pn.getD k (0 : Int))))) && (decide (((k : Nat) : Int) < ((pn.getD n (0 : Int)))))) && (decide (((pn.getD n (0 : Int))) ≤ ((pn.getD k (0 : Int))))))) && (decide ((0 : Int) ≤ ((pn.getD k (0 : Int)))))) (.slice (some ⟨rb1, 0, none⟩) pn.length oc1)) := postsHold_at hp 37 rfl
                  have hv38 : V 38 = (gb ((!(((decide ((0 : Int) ≤ ((pn.getD k (0 : Int))))) && (decide (((k : Nat) : Int) < ((pn.getD n (0 : Int)))))) && (decide (((pn.getD n (0 : Int))) ≤ ((pn.getD k (0 : Int))))))) && (decide ((0 : Int) ≤ ((pn.getD k (0 : Int)))))) (.int .i64 ((k : Nat) : Int))) := postsHold_at hp 38 rfl
                  have hv39 : V 39 = (gb ((!(((decide ((0 : Int) ≤ ((pn.getD k (0 : Int))))) && (decide (((k : Nat) : Int) < ((pn.getD n (0 : Int)))))) && (decide (((pn.getD n (0 : Int))) ≤ ((pn.getD k (0 : Int))))))) && (decide ((0 : Int) ≤ ((pn.getD k (0 : Int)))))) (.pointer (some ⟨rb1, (0 + k * 1), none⟩))) := postsHold_at hp 39 rfl
                  have hv40 : V 40 = (gb ((!(((decide ((0 : Int) ≤ ((pn.getD k (0 : Int))))) && (decide (((k : Nat) : Int) < ((pn.getD n (0 : Int)))))) && (decide (((pn.getD n (0 : Int))) ≤ ((pn.getD k (0 : Int))))))) && (decide ((0 : Int) ≤ ((pn.getD k (0 : Int)))))) (.int .i64 ((pn.getD k (0 : Int))))) := postsHold_at hp 40 rfl
                  have hv41 : V 41 = (gb ((!(((decide ((0 : Int) ≤ ((pn.getD k (0 : Int))))) && (decide (((k : Nat) : Int) < ((pn.getD n (0 : Int)))))) && (decide (((pn.getD n (0 : Int))) ≤ ((pn.getD k (0 : Int))))))) && (decide ((0 : Int) ≤ ((pn.getD k (0 : Int)))))) (.int .i64 ((k : Nat) : Int))) := postsHold_at hp 41 rfl
                  have hv42 : V 42 = (gb ((!(((decide ((0 : Int) ≤ ((pn.getD k (0 : Int))))) && (decide (((k : Nat) : Int) < ((pn.getD n (0 : Int)))))) && (decide (((pn.getD n (0 : Int))) ≤ ((pn.getD k (0 : Int))))))) && (decide ((0 : Int) ≤ ((pn.getD k (0 : Int)))))) (.bool (decide (((pn.getD k (0 : Int))) ≤ ((k : Nat) : Int))))) := postsHold_at hp 42 rfl
                  have hv43 : V 43 = (gb (!(((decide ((0 : Int) ≤ ((pn.getD k (0 : Int))))) && (decide (((k : Nat) : Int) < ((pn.getD n (0 : Int)))))) && (decide (((pn.getD n (0 : Int))) ≤ ((pn.getD k (0 : Int))))))) (.bool ((decide ((0 : Int) ≤ ((pn.getD k (0 : Int))))) && (decide (((pn.getD k (0 : Int))) ≤ ((k : Nat) : Int)))))) := postsHold_at hp 43 rfl
                  have hv44 : V 44 = (.bool ((((decide ((0 : Int) ≤ ((pn.getD k (0 : Int))))) && (decide (((k : Nat) : Int) < ((pn.getD n (0 : Int)))))) && (decide (((pn.getD n (0 : Int))) ≤ ((pn.getD k (0 : Int)))))) || ((decide ((0 : Int) ≤ ((pn.getD k (0 : Int))))) && (decide (((pn.getD k (0 : Int))) ≤ ((k : Nat) : Int)))))) := postsHold_at hp 44 rfl
                  simp only [List.take_succ_cons, List.take_zero, insAll, ins, hv0, hv1, hv2, hv3, hv4, hv5, hv6, hv7, hv8, hv9, hv10, hv11, hv12, hv13, hv14, hv15, hv16, hv17, hv18, hv19, hv20, hv21, hv22, hv23, hv24, hv25, hv26, hv27, hv28, hv29, hv30, hv31, hv32, hv33, hv34, hv35, hv36, hv37, hv38, hv39, hv40, hv41, hv42, hv43, hv44] at hf
                  clear hp hnb hv0 hv1 hv2 hv3 hv4 hv5 hv6 hv7 hv8 hv9 hv10 hv11 hv12 hv13 hv14 hv15 hv16 hv17 hv18 hv19 hv20 hv21 hv22 hv23 hv24 hv25 hv26 hv27 hv28 hv29 hv30 hv31 hv32 hv33 hv34 hv35 hv36 hv37 hv38 hv39 hv40 hv41 hv42 hv43 hv44
                  replace hkb1 := blk_ext hkb1 he4
                  replace hrE := Row.ext hrE he4
                  replace hb := hb.trans (Below.mono he4 hb.size)
                  (try simp only [Exit.then, Exit.inBlock, ↓reduceIte, Nat.reduceEqDiff])
                  refine hK22 _ _ ?_
                  refine wp_cond_split (t := ((((decide ((0 : Int) ≤ ((pn.getD k (0 : Int))))) && (decide (((k : Nat) : Int) < ((pn.getD n (0 : Int)))))) && (decide (((pn.getD n (0 : Int))) ≤ ((pn.getD k (0 : Int)))))) || ((decide ((0 : Int) ≤ ((pn.getD k (0 : Int))))) && (decide (((pn.getD k (0 : Int))) ≤ ((k : Nat) : Int)))))) (hf.ev rfl) (fun hqt95_1 => ?_) (fun hqt95_1 => ?_)
                  · have hqt95_1b := hqt95_1
                    try simp only [decide_eq_true_eq, Bool.and_eq_true, Bool.or_eq_true, Bool.not_eq_true', decide_eq_false_iff_not, ne_eq, Bool.not_eq_true] at hqt95_1
                    exfalso; have hE : ∀ i, i < l.length → pn.getD i 0 = if opensI ((opl l).getD i 0) = true then (seekP (opl l) i).1 else -1 := by
                      intro i hi; have ho := congrArg Prod.fst (ho3 i (by rw [opl_length]; exact hi)); rw [show (pn.getD i 0, pl.getD i 0).1 = pn.getD i 0 from rfl] at ho; rw [ho]; split <;> rfl
                    have hopn : opensI ((opl l).getD n 0) = true := by
                      have h := hE n (by omega); (by_cases hz : opensI ((opl l).getD n 0) = true); exact hz; (rw [if_neg hz] at h; omega)
                    have hopk : opensI ((opl l).getD k 0) = true := by
                      have h := hE k (by omega); (by_cases hz : opensI ((opl l).getD k 0) = true); exact hz; (rw [if_neg hz] at h; rcases hqt95_1 with h2 | h2 <;> omega)
                    have h1 := hE n (by omega); have h2 := hE k (by omega); rw [if_pos hopn] at h1; rw [if_pos hopk] at h2
                    have h4 := seek_found (opl l) hs (j := k) (by rw [opl_length]; omega) hopk
                    rcases hqt95_1 with h3 | h3
                    · have h5 := nests (opl l) hs (i := n) (k := k) hnk (by rw [opl_length]; omega) hopn hopk (by omega); omega
                    · omega
                  · have hqt95_1b := hqt95_1
                    replace hqt95_1 := Bool.eq_false_iff.1 hqt95_1
                    try simp only [ne_eq, decide_eq_true_eq, Bool.and_eq_true, Bool.or_eq_true, Bool.not_eq_true', decide_eq_false_iff_not] at hqt95_1
                    refine wp_skip ?_
                    (try simp only [Exit.then, Exit.inBlock, ↓reduceIte, Nat.reduceEqDiff])
                    refine hK21 _ _ ?_
                    refine wp_region_lit ?_
                    refine sqv hf (r_move rfl) rfl rfl rfl ?_; clear hf fa; intro fa hf
                    refine sqv hf (r_add (C := (((k : Nat) : Int) + (1 : Int))) rfl rfl (by rw [IntKind.wrap_i64]; omega)) rfl rfl rfl ?_; clear hf fa; intro fa hf
                    refine sqv hf (r_assign rfl) rfl rfl rfl ?_; clear hf fa; intro fa hf
                    apply wpList_nil
                    (try simp only [Exit.then, Exit.inBlock, ↓reduceIte, Nat.reduceEqDiff])
                    refine hKL2 _ _ _ (by omega) ⟨(k + 1), rfl, hf.sub ⟨rfl, rfl, rfl, (some_int (by first | rfl | omega)), trivial⟩, hb, hrE, hkb1, by omega, by omega⟩
              · have hqt48_1b := hqt48_1
                replace hqt48_1 := Bool.eq_false_iff.1 hqt48_1
                try simp only [ne_eq, decide_eq_true_eq, Bool.and_eq_true, Bool.or_eq_true, Bool.not_eq_true', decide_eq_false_iff_not] at hqt48_1
                refine wp_exit ?_
                (try simp only [Exit.then, Exit.inBlock, ↓reduceIte, Nat.reduceEqDiff])
                refine hK17 _ _ ?_
                refine wp_region_lit ?_
                refine sqv hf (r_move rfl) rfl rfl rfl ?_; clear hf fa; intro fa hf
                refine sqv hf (r_add (C := (((n : Nat) : Int) + (1 : Int))) rfl rfl (by rw [IntKind.wrap_i64]; omega)) rfl rfl rfl ?_; clear hf fa; intro fa hf
                refine sqv hf (r_assign rfl) rfl rfl rfl ?_; clear hf fa; intro fa hf
                apply wpList_nil
                (try simp only [Exit.then, Exit.inBlock, ↓reduceIte, Nat.reduceEqDiff])
                refine hKL1 _ _ _ (by omega) ⟨(n + 1), rfl, hf.sub ⟨rfl, rfl, (some_int (by first | rfl | omega)), trivial⟩, hb, hrE, hkb1, by omega⟩
          · have hqt32_1b := hqt32_1
            replace hqt32_1 := Bool.eq_false_iff.1 hqt32_1
            try simp only [ne_eq, decide_eq_true_eq, Bool.and_eq_true, Bool.or_eq_true, Bool.not_eq_true', decide_eq_false_iff_not] at hqt32_1
            refine wp_exit ?_
            (try simp only [Exit.then, Exit.inBlock, ↓reduceIte, Nat.reduceEqDiff])
            refine hK13 _ _ ?_
            refine wp_seq_k (fun K23 hK23 => ?_)
            refine wp_region_lit ?_
            refine sqv hf (r_assign rfl) rfl rfl rfl ?_; clear hf fa; intro fa hf
            apply wpList_nil
            (try simp only [Exit.then, Exit.inBlock, ↓reduceIte, Nat.reduceEqDiff])
            refine hK23 _ _ ?_
            refine wp_ret ?_
            (try simp only [Exit.then, Exit.inBlock])
            refine ret1 hf rfl rfl ?_
            exact ⟨rfl, hb⟩
end Go.Proofs.Ytahgkfekggkjnaa
