/- What is proved here: a memory: loads, places. -/
import Derived.Test.YtmcmickgllffoaaMpDp
namespace Go.Proofs.Ytmcmickgllffoaa
open Go.RowKit
set_option linter.unusedVariables false
set_option linter.unusedSimpArgs false
theorem St26.nums {B p ln : Nat} {w : World} {mo : Int} {C : List MCe} (h : St26 B w p ln mo C) : ln ≤ 16777216 ∧ (∀ c ∈ C, (0 ≤ c.1 ∧ c.1 < ((ln : Nat) : Int)) ∧ (0 ≤ c.2 ∧ c.2 < 256)) ∧ ln % 65536 = 0 ∧ ((ln / 65536 : Nat) : Int) ≤ mo ∧ mo ≤ 256 := by
  obtain ⟨L, h1, h2, h3, h4, h5, h6, h7, h8⟩ := h
  exact ⟨h5, by rw [← h2]; exact h4.1, h6, h7, h8⟩
theorem atP_rng {C : List MCe} (h : ∀ c ∈ C, 0 ≤ c.2 ∧ c.2 < 256) (i : Int) : 0 ≤ atP C i ∧ atP C i < 256 := by
  induction C using rev_ind with
  | nil => show (0 : Int) ≤ 0 ∧ (0 : Int) < 256; omega
  | append_singleton l c ih =>
    rw [atP_snoc]
    split
    · exact h c (List.mem_append_right _ (List.mem_singleton.2 rfl))
    · exact ih (fun d hd => h d (List.mem_append_left _ hd))
theorem rdF_rng {C : List MCe} (h : ∀ c ∈ C, 0 ≤ c.2 ∧ c.2 < 256) (k : Nat) : ∀ n, ∀ y ∈ rdF C k n, 0 ≤ y ∧ y < 256
  | 0, y, hy => by cases hy
  | n + 1, y, hy => by
    rw [rdF] at hy
    rcases List.mem_append.1 hy with hy | hy
    · exact rdF_rng h k n y hy
    · rw [List.mem_singleton.1 hy]; exact atP_rng h _
theorem racc_to {op n0 : Nat} (w : World) (hop : op < 256) (hn : (accT op).1 = ((n0 : Nat) : Int)) : Calls Try.prog 47 #[(.int .i64 ((op : Nat) : Int))] w fun e w' => e = .returned (.tuple #[.int .i64 ((n0 : Nat) : Int), .bool (decide ((accT op).2.1 = 126)), .bool (accT op).2.2.1, .bool (accT op).2.2.2.1, .bool (accT op).2.2.2.2]) ∧ Below w.heap.size w w' := by
  have h := racc_any op w hop
  rw [hn] at h
  exact h
theorem rplace_to {b o n s : Nat} {x : Bool} (w : World) (hb0 : b < 18446744073709551616) (ho0 : o < 18446744073709551616) (hn0 : n ≤ 1000000) (hs0 : s ≤ 16777216) (h : (plP b o n s).2 = x) : Calls Try.prog 91 #[(.int .u64 ((b : Nat) : Int)), (.int .u64 ((o : Nat) : Int)), (.int .i64 ((n : Nat) : Int)), (.int .u64 ((s : Nat) : Int))] w fun e w' => e = .returned (.tuple #[.int .u64 (((plP b o n s).1 : Nat) : Int), .bool x]) ∧ Below w.heap.size w w' := by
  have h2 := rplace_any b o n s w hb0 ho0 hn0 hs0
  rw [h] at h2
  exact h2
theorem bytes_to {op v n0 : Nat} (w : World) (hv : v < 18446744073709551616) (hn : (accT op).1 = ((n0 : Nat) : Int)) (hw : (writeT op v).2 = true) : Calls Try.prog 50 #[(.int .u64 ((v : Nat) : Int)), (.int .i64 ((n0 : Nat) : Int))] w fun e w' => e = .returned (.string (strOfNums (writeT op v).1)) ∧ Below w.heap.size w w' := by
  have h := dbytes_any v ((n0 : Nat) : Int) w hv
  rw [writeT_yes hw, hn]
  exact h

set_option maxHeartbeats 1000000 in
set_option maxRecDepth 100000 in
theorem loads_A (B p : Nat) (ln : Nat) (mo : Int) (ca : Option Addr) (C : List MCe) (cc : Nat) (w : World) (hSt : St26 B w p ln mo C) (hCd : RdS 2 vCe w ca C) (hCl : C.length ≤ 1000000) (kd nn : Int) (at_ op vv ww : Nat) (da : Option Addr) (dn dc : Nat) (ha0 : at_ < 18446744073709551616) (hop : op < 256) (hv0 : vv < 18446744073709551616) (hw0 : ww < 18446744073709551616) (n0 : Nat) (hn0 : (accT op).1 = ((n0 : Nat) : Int)) (hn8 : n0 ≤ 8) (hok : okL op = false) : Calls Try.prog 84 #[(.pointer (some ⟨p, 0, none⟩)), (.agg #[(.int .i64 ((ln : Nat) : Int)), (.int .i64 mo), (.slice ca C.length cc)]), (.agg #[(.int .i64 kd), (.int .u64 ((at_ : Nat) : Int)), (.int .i64 nn), (.int .u8 ((op : Nat) : Int)), (.int .u64 ((vv : Nat) : Int)), (.int .u64 ((ww : Nat) : Int)), (.slice da dn dc)])] w fun e w' => e = .returned (.bool true) ∧ Below w.heap.size w w' := by
  obtain ⟨hln, hCr, _⟩ := hSt.nums
  have hC2 : ∀ c ∈ C, 0 ≤ c.2 ∧ c.2 < 256 := fun c hc => (hCr c hc).2
  refine sx_enter (L := [(0, (.pointer (some ⟨p, 0, none⟩))), (1, (.agg #[(.int .i64 ((ln : Nat) : Int)), (.int .i64 mo), (.slice ca C.length cc)])), (2, (.agg #[(.int .i64 kd), (.int .u64 ((at_ : Nat) : Int)), (.int .i64 nn), (.int .u8 ((op : Nat) : Int)), (.int .u64 ((vv : Nat) : Int)), (.int .u64 ((ww : Nat) : Int)), (.slice da dn dc)]))]) Try.func84 rfl rfl rfl rfl (fun fa hf => ?_)
  have hb : Below w.heap.size w w := Below.refl _ _
  refine wp_seq_k (fun K1 hK1 => ?_)
  refine wp_region_lit ?_
  refine sqdt hf (d_box (cs := #[(.int .i64 ((ln : Nat) : Int)), (.int .i64 mo), (.slice ca C.length cc)]) rfl rfl) rfl rfl rfl ?_; clear hf fa; rintro fa _ w1 ⟨b1, rfl, hle1, hk1, he1⟩ hf
  have hBb1 : w.heap.size ≤ b1 := Nat.le_trans hb.size hle1
  replace hb := hb.trans (Below.mono he1 hb.size)
  refine sqdt hf (d_box (cs := #[(.int .i64 kd), (.int .u64 ((at_ : Nat) : Int)), (.int .i64 nn), (.int .u8 ((op : Nat) : Int)), (.int .u64 ((vv : Nat) : Int)), (.int .u64 ((ww : Nat) : Int)), (.slice da dn dc)]) rfl rfl) rfl rfl rfl ?_; clear hf fa; rintro fa _ w2 ⟨b2, rfl, hle2, hk2, he2⟩ hf
  have hBb2 : w.heap.size ≤ b2 := Nat.le_trans hb.size hle2
  have : b1 < b2 := Nat.lt_of_lt_of_le (blk_lt hk1) hle2
  replace hk1 := blk_ext hk1 he2
  replace hb := hb.trans (Below.mono he2 hb.size)
  refine sqv hf (r_assign rfl) rfl rfl rfl ?_; clear hf fa; intro fa hf
  apply wpList_nil
  (try simp only [Exit.then, Exit.inBlock, ↓reduceIte, Nat.reduceEqDiff])
  refine hK1 _ _ ?_
  refine wp_seq_k (fun K2 hK2 => ?_)
  refine wp_region_lit ?_
  refine sqv hf (r_move rfl) rfl rfl rfl ?_; clear hf fa; intro fa hf
  refine sqv hf (r_fa rfl Try.underlying113 (f := 3) (q := 3) rfl (by kernel_rfl) rfl) rfl rfl rfl ?_; clear hf fa; intro fa hf
  refine sqv hf (r_load (v := (.int .u8 ((op : Nat) : Int))) rfl Try.underlying5 rfl (cell_blk hk2 rfl)) rfl rfl rfl ?_; clear hf fa; intro fa hf
  refine sqv hf (r_fa rfl Try.underlying113 (f := 1) (q := 1) rfl (by kernel_rfl) rfl) rfl rfl rfl ?_; clear hf fa; intro fa hf
  refine sqv hf (r_load (v := (.int .u64 ((at_ : Nat) : Int))) rfl Try.underlying26 rfl (cell_blk hk2 rfl)) rfl rfl rfl ?_; clear hf fa; intro fa hf
  refine sqv hf (r_fa rfl Try.underlying113 (f := 4) (q := 4) rfl (by kernel_rfl) rfl) rfl rfl rfl ?_; clear hf fa; intro fa hf
  refine sqv hf (r_load (v := (.int .u64 ((vv : Nat) : Int))) rfl Try.underlying26 rfl (cell_blk hk2 rfl)) rfl rfl rfl ?_; clear hf fa; intro fa hf
  refine sqdt hf (d_callB (vs := [(.pointer (some ⟨p, 0, none⟩)), (.int .u8 ((op : Nat) : Int)), (.int .u64 ((at_ : Nat) : Int)), (.int .u64 ((vv : Nat) : Int))]) rfl Try.func90 (by kernel_rfl) (by kernel_rfl) (load_A (hSt.ext hb) hop ha0 hv0 hok)) rfl rfl rfl ?_; clear hf fa; rintro fa _ w3 ⟨rfl, he3⟩ hf
  replace hk1 := blk_ext hk1 he3
  replace hk2 := blk_ext hk2 he3
  replace hb := hb.trans (Below.mono he3 hb.size)
  refine sqv hf (r_move rfl) rfl rfl rfl ?_; clear hf fa; intro fa hf
  refine sqv hf (r_extract rfl (i := 0) rfl) rfl rfl rfl ?_; clear hf fa; intro fa hf
  refine sqv hf (r_extract rfl (i := 1) rfl) rfl rfl rfl ?_; clear hf fa; intro fa hf
  refine sqdt hf (d_alloc (z := (.agg #[(.int .u8 (0 : Int)), (.int .u64 (0 : Int))])) (cs := #[(.int .u8 (0 : Int)), (.int .u64 (0 : Int))]) (by kernel_rfl) rfl) rfl rfl rfl ?_; clear hf fa; rintro fa _ w4 ⟨b3, rfl, hle3, hk3, he4⟩ hf
  have hBb3 : w.heap.size ≤ b3 := Nat.le_trans hb.size hle3
  have : b1 < b3 := Nat.lt_of_lt_of_le (blk_lt hk1) hle3
  have : b2 < b3 := Nat.lt_of_lt_of_le (blk_lt hk2) hle3
  replace hk1 := blk_ext hk1 he4
  replace hk2 := blk_ext hk2 he4
  replace hb := hb.trans (Below.mono he4 hb.size)
  refine sqn hf (d_storeK (T := 86) (v := (.agg #[(.int .u8 (0 : Int)), (.int .u64 (0 : Int))])) (cs := #[(.int .u8 (0 : Int)), (.int .u64 (0 : Int))]) (cs' := #[(.int .u8 (0 : Int)), (.int .u64 (0 : Int))]) rfl rfl (by kernel_rfl) (by kernel_rfl) hk3 (by kernel_rfl) (by kernel_rfl)) rfl rfl ?_; clear hf fa; rintro fa _ w5 ⟨hk4, hg1⟩ hf
  replace hk1 := blk_grown hk1 hg1 (by omega)
  replace hk2 := blk_grown hk2 hg1 (by omega)
  replace hb := hb.trans (grown_below hg1 hb.size hBb3)
  refine sqv hf (r_assign rfl) rfl rfl rfl ?_; clear hf fa; intro fa hf
  apply wpList_nil
  (try simp only [Exit.then, Exit.inBlock, ↓reduceIte, Nat.reduceEqDiff])
  refine hK2 _ _ ?_
  refine wp_seq_k (fun K3 hK3 => ?_)
  refine wp_region_lit ?_
  refine sqv hf (r_fa rfl Try.underlying113 (f := 3) (q := 3) rfl (by kernel_rfl) rfl) rfl rfl rfl ?_; clear hf fa; intro fa hf
  refine sqv hf (r_load (v := (.int .u8 ((op : Nat) : Int))) rfl Try.underlying5 rfl (cell_blk hk2 rfl)) rfl rfl rfl ?_; clear hf fa; intro fa hf
  refine sqv hf (r_conv (C := ((op : Nat) : Int)) rfl Try.underlying5 Try.underlying3 (by rw [IntKind.wrap_i64]; omega)) rfl rfl rfl ?_; clear hf fa; intro fa hf
  refine sqdt hf (d_callB (vs := [(.int .i64 ((op : Nat) : Int))]) rfl Try.func47 (by kernel_rfl) (by kernel_rfl) (racc_to _ hop hn0)) rfl rfl rfl ?_; clear hf fa; rintro fa _ w6 ⟨rfl, he5⟩ hf
  replace hk1 := blk_ext hk1 he5
  replace hk2 := blk_ext hk2 he5
  replace hk4 := blk_ext hk4 he5
  replace hb := hb.trans (Below.mono he5 hb.size)
  refine sqv hf (r_move rfl) rfl rfl rfl ?_; clear hf fa; intro fa hf
  refine sqv hf (r_extract rfl (i := 0) rfl) rfl rfl rfl ?_; clear hf fa; intro fa hf
  refine sqv hf (r_extract rfl (i := 1) rfl) rfl rfl rfl ?_; clear hf fa; intro fa hf
  refine sqv hf (r_extract rfl (i := 2) rfl) rfl rfl rfl ?_; clear hf fa; intro fa hf
  refine sqv hf (r_extract rfl (i := 3) rfl) rfl rfl rfl ?_; clear hf fa; intro fa hf
  refine sqv hf (r_extract rfl (i := 4) rfl) rfl rfl rfl ?_; clear hf fa; intro fa hf
  refine sqv hf (r_assign rfl) rfl rfl rfl ?_; clear hf fa; intro fa hf
  refine sqv hf (r_assign rfl) rfl rfl rfl ?_; clear hf fa; intro fa hf
  refine sqv hf (r_assign rfl) rfl rfl rfl ?_; clear hf fa; intro fa hf
  refine sqv hf (r_assign rfl) rfl rfl rfl ?_; clear hf fa; intro fa hf
  refine sqv hf (r_assign rfl) rfl rfl rfl ?_; clear hf fa; intro fa hf
  apply wpList_nil
  (try simp only [Exit.then, Exit.inBlock, ↓reduceIte, Nat.reduceEqDiff])
  refine hK3 _ _ ?_
  refine wp_seq_k (fun K4 hK4 => ?_)
  refine wp_region_lit ?_
  refine sqv hf (r_fa rfl Try.underlying113 (f := 1) (q := 1) rfl (by kernel_rfl) rfl) rfl rfl rfl ?_; clear hf fa; intro fa hf
  refine sqv hf (r_load (v := (.int .u64 ((at_ : Nat) : Int))) rfl Try.underlying26 rfl (cell_blk hk2 rfl)) rfl rfl rfl ?_; clear hf fa; intro fa hf
  refine sqv hf (r_fa rfl Try.underlying113 (f := 4) (q := 4) rfl (by kernel_rfl) rfl) rfl rfl rfl ?_; clear hf fa; intro fa hf
  refine sqv hf (r_load (v := (.int .u64 ((vv : Nat) : Int))) rfl Try.underlying26 rfl (cell_blk hk2 rfl)) rfl rfl rfl ?_; clear hf fa; intro fa hf
  refine sqv hf (r_move rfl) rfl rfl rfl ?_; clear hf fa; intro fa hf
  refine sqv hf (r_fa rfl Try.underlying111 (f := 0) (q := 0) rfl (by kernel_rfl) rfl) rfl rfl rfl ?_; clear hf fa; intro fa hf
  refine sqv hf (r_load (v := (.int .i64 ((ln : Nat) : Int))) rfl Try.underlying3 rfl (cell_blk hk1 rfl)) rfl rfl rfl ?_; clear hf fa; intro fa hf
  refine sqv hf (r_conv (C := ((ln : Nat) : Int)) rfl Try.underlying3 Try.underlying26 (by rw [IntKind.wrap_u64]; omega)) rfl rfl rfl ?_; clear hf fa; intro fa hf
  refine sqdt hf (d_callB (vs := [(.int .u64 ((at_ : Nat) : Int)), (.int .u64 ((vv : Nat) : Int)), (.int .i64 ((n0 : Nat) : Int)), (.int .u64 ((ln : Nat) : Int))]) rfl Try.func91 (by kernel_rfl) (by kernel_rfl) (rplace_to _ ha0 hv0 (by omega) hln rfl)) rfl rfl rfl ?_; clear hf fa; rintro fa _ w7 ⟨rfl, he6⟩ hf
  replace hk1 := blk_ext hk1 he6
  replace hk2 := blk_ext hk2 he6
  replace hk4 := blk_ext hk4 he6
  replace hb := hb.trans (Below.mono he6 hb.size)
  refine sqv hf (r_move rfl) rfl rfl rfl ?_; clear hf fa; intro fa hf
  refine sqv hf (r_extract rfl (i := 0) rfl) rfl rfl rfl ?_; clear hf fa; intro fa hf
  refine sqv hf (r_extract rfl (i := 1) rfl) rfl rfl rfl ?_; clear hf fa; intro fa hf
  refine sqv hf (r_assign rfl) rfl rfl rfl ?_; clear hf fa; intro fa hf
  refine sqv hf (r_assign rfl) rfl rfl rfl ?_; clear hf fa; intro fa hf
  apply wpList_nil
  (try simp only [Exit.then, Exit.inBlock, ↓reduceIte, Nat.reduceEqDiff])
  refine hK4 _ _ ?_
  refine wp_seq_k (fun K5 hK5 => ?_)
  refine wp_seq_k (fun K6 hK6 => ?_)
  refine wp_region_lit ?_
  refine sqv hf (r_move rfl) rfl rfl rfl ?_; clear hf fa; intro fa hf
  refine sqv hf (r_not rfl) rfl rfl rfl ?_; clear hf fa; intro fa hf
  refine sqv hf (r_move rfl) rfl rfl rfl ?_; clear hf fa; intro fa hf
  refine sqgF (act := (!(!(accT op).2.2.2.2))) (ag := true) (c := (!(accT op).2.2.2.2)) (v := (.bool (accT op).2.2.1)) hf rfl rfl rfl (fun hact => (r_move rfl)) rfl rfl ?_; clear hf fa; intro fa hf
  refine sqv hf (Runs.veq (r_pickO (b := (!(accT op).2.2.2.2)) (e := (accT op).2.2.1) rfl rfl rfl) (congrArg Value.bool (show _ = true from (by revert hok; unfold okL; cases (accT op).2.2.2.2 <;> cases (accT op).2.2.1 <;> simp)))) rfl rfl rfl ?_; clear hf fa; intro fa hf
  apply wpList_nil
  (try simp only [Exit.then, Exit.inBlock, ↓reduceIte, Nat.reduceEqDiff])
  refine hK6 _ _ ?_
  refine wp_cond_true (hf.ev rfl) ?_
  refine wp_seq_k (fun K7 hK7 => ?_)
  refine wp_region_lit ?_
  refine sqv hf (r_loadA (cs := [(.int .u8 (0 : Int)), (.int .u64 (0 : Int))]) rfl Try.underlying86 rfl (by kernel_rfl) (cellsAt_blk hk4)) rfl rfl rfl ?_; clear hf fa; intro fa hf
  refine sqv hf (r_build (vs := []) (cs := #[(.int .u8 (0 : Int)), (.int .u64 (0 : Int))]) rfl (fun _ => by kernel_rfl)) rfl rfl rfl ?_; clear hf fa; intro fa hf
  refine sqv hf (Runs.veq (r_aeq (k := 5) rfl rfl (by kernel_rfl) (eqt_struct (xs := #[(.int .u8 (0 : Int)), (.int .u64 (0 : Int))]) (ys := #[(.int .u8 (0 : Int)), (.int .u64 (0 : Int))]) Try.underlying86 (by kernel_rfl) (eqf_cons (by kernel_rfl) (fun _ => by kernel_rfl) (fun _ => by kernel_rfl) (eqt_int (kk := .u8) (a := (0 : Int)) (b := (0 : Int)) Try.underlying5) (eqf_one (by kernel_rfl) (fun _ => by kernel_rfl) (fun _ => by kernel_rfl) (eqt_int (kk := .u64) (a := (0 : Int)) (b := (0 : Int)) Try.underlying26)))) rfl) (congrArg Value.bool (show _ = true from (by simp)))) rfl rfl rfl ?_; clear hf fa; intro fa hf
  refine sqv hf (r_move rfl) rfl rfl rfl ?_; clear hf fa; intro fa hf
  refine sqgd (act := true) (g := 3) (want := true) (ag := true) (c := true) hf (by rfl) (by rfl) rfl (fun _ =>  Runs.does (R := fun vq wq => vq = (.int .i64 (9 : Int)) ∧ w7 = wq) (r_move rfl) ⟨rfl, rfl⟩) (fun h => by cases h) rfl ?_; clear hf fa; rintro fa _ _ ⟨rfl, rfl⟩ hf
  change Fr _ _ ((60, (.int .i64 (9 : Int))) :: _) at hf
  refine sqgd (act := true) (g := 3) (want := true) (ag := true) (c := true) hf (by rfl) (by rfl) rfl (fun _ =>  Runs.does (R := fun vq wq => vq = (.bool true) ∧ w7 = wq) (Runs.veq (r_eq rfl rfl) (congrArg Value.bool (show _ = true from by decide))) ⟨rfl, rfl⟩) (fun h => by cases h) rfl ?_; clear hf fa; rintro fa _ _ ⟨rfl, rfl⟩ hf
  change Fr _ _ ((61, (.bool true)) :: _) at hf
  refine sqv hf (r_pick (b := true) rfl rfl rfl rfl) rfl rfl rfl ?_; clear hf fa; intro fa hf
  refine sqv hf (r_assign rfl) rfl rfl rfl ?_; clear hf fa; intro fa hf
  apply wpList_nil
  (try simp only [Exit.then, Exit.inBlock, ↓reduceIte, Nat.reduceEqDiff])
  refine hK7 _ _ ?_
  refine wp_ret ?_
  (try simp only [Exit.then, Exit.inBlock])
  refine ret1 hf rfl rfl ?_
  exact ⟨rfl, hb⟩

set_option maxHeartbeats 1000000 in
set_option maxRecDepth 100000 in
theorem loads_B (B p : Nat) (ln : Nat) (mo : Int) (ca : Option Addr) (C : List MCe) (cc : Nat) (w : World) (hSt : St26 B w p ln mo C) (hCd : RdS 2 vCe w ca C) (hCl : C.length ≤ 1000000) (kd nn : Int) (at_ op vv ww : Nat) (da : Option Addr) (dn dc : Nat) (ha0 : at_ < 18446744073709551616) (hop : op < 256) (hv0 : vv < 18446744073709551616) (hw0 : ww < 18446744073709551616) (n0 : Nat) (hn0 : (accT op).1 = ((n0 : Nat) : Int)) (hn8 : n0 ≤ 8) (hok : okL op = true) (hi : (plP at_ vv n0 ln).2 = false) : Calls Try.prog 84 #[(.pointer (some ⟨p, 0, none⟩)), (.agg #[(.int .i64 ((ln : Nat) : Int)), (.int .i64 mo), (.slice ca C.length cc)]), (.agg #[(.int .i64 kd), (.int .u64 ((at_ : Nat) : Int)), (.int .i64 nn), (.int .u8 ((op : Nat) : Int)), (.int .u64 ((vv : Nat) : Int)), (.int .u64 ((ww : Nat) : Int)), (.slice da dn dc)])] w fun e w' => e = .returned (.bool true) ∧ Below w.heap.size w w' := by
  obtain ⟨hln, hCr, _⟩ := hSt.nums
  have hC2 : ∀ c ∈ C, 0 ≤ c.2 ∧ c.2 < 256 := fun c hc => (hCr c hc).2
  refine sx_enter (L := [(0, (.pointer (some ⟨p, 0, none⟩))), (1, (.agg #[(.int .i64 ((ln : Nat) : Int)), (.int .i64 mo), (.slice ca C.length cc)])), (2, (.agg #[(.int .i64 kd), (.int .u64 ((at_ : Nat) : Int)), (.int .i64 nn), (.int .u8 ((op : Nat) : Int)), (.int .u64 ((vv : Nat) : Int)), (.int .u64 ((ww : Nat) : Int)), (.slice da dn dc)]))]) Try.func84 rfl rfl rfl rfl (fun fa hf => ?_)
  have hb : Below w.heap.size w w := Below.refl _ _
  refine wp_seq_k (fun K1 hK1 => ?_)
  refine wp_region_lit ?_
  refine sqdt hf (d_box (cs := #[(.int .i64 ((ln : Nat) : Int)), (.int .i64 mo), (.slice ca C.length cc)]) rfl rfl) rfl rfl rfl ?_; clear hf fa; rintro fa _ w1 ⟨b1, rfl, hle1, hk1, he1⟩ hf
  have hBb1 : w.heap.size ≤ b1 := Nat.le_trans hb.size hle1
  replace hb := hb.trans (Below.mono he1 hb.size)
  refine sqdt hf (d_box (cs := #[(.int .i64 kd), (.int .u64 ((at_ : Nat) : Int)), (.int .i64 nn), (.int .u8 ((op : Nat) : Int)), (.int .u64 ((vv : Nat) : Int)), (.int .u64 ((ww : Nat) : Int)), (.slice da dn dc)]) rfl rfl) rfl rfl rfl ?_; clear hf fa; rintro fa _ w2 ⟨b2, rfl, hle2, hk2, he2⟩ hf
  have hBb2 : w.heap.size ≤ b2 := Nat.le_trans hb.size hle2
  have : b1 < b2 := Nat.lt_of_lt_of_le (blk_lt hk1) hle2
  replace hk1 := blk_ext hk1 he2
  replace hb := hb.trans (Below.mono he2 hb.size)
  refine sqv hf (r_assign rfl) rfl rfl rfl ?_; clear hf fa; intro fa hf
  apply wpList_nil
  (try simp only [Exit.then, Exit.inBlock, ↓reduceIte, Nat.reduceEqDiff])
  refine hK1 _ _ ?_
  refine wp_seq_k (fun K2 hK2 => ?_)
  refine wp_region_lit ?_
  refine sqv hf (r_move rfl) rfl rfl rfl ?_; clear hf fa; intro fa hf
  refine sqv hf (r_fa rfl Try.underlying113 (f := 3) (q := 3) rfl (by kernel_rfl) rfl) rfl rfl rfl ?_; clear hf fa; intro fa hf
  refine sqv hf (r_load (v := (.int .u8 ((op : Nat) : Int))) rfl Try.underlying5 rfl (cell_blk hk2 rfl)) rfl rfl rfl ?_; clear hf fa; intro fa hf
  refine sqv hf (r_fa rfl Try.underlying113 (f := 1) (q := 1) rfl (by kernel_rfl) rfl) rfl rfl rfl ?_; clear hf fa; intro fa hf
  refine sqv hf (r_load (v := (.int .u64 ((at_ : Nat) : Int))) rfl Try.underlying26 rfl (cell_blk hk2 rfl)) rfl rfl rfl ?_; clear hf fa; intro fa hf
  refine sqv hf (r_fa rfl Try.underlying113 (f := 4) (q := 4) rfl (by kernel_rfl) rfl) rfl rfl rfl ?_; clear hf fa; intro fa hf
  refine sqv hf (r_load (v := (.int .u64 ((vv : Nat) : Int))) rfl Try.underlying26 rfl (cell_blk hk2 rfl)) rfl rfl rfl ?_; clear hf fa; intro fa hf
  refine sqdt hf (d_callB (vs := [(.pointer (some ⟨p, 0, none⟩)), (.int .u8 ((op : Nat) : Int)), (.int .u64 ((at_ : Nat) : Int)), (.int .u64 ((vv : Nat) : Int))]) rfl Try.func90 (by kernel_rfl) (by kernel_rfl) (load_B (hSt.ext hb) hop ha0 hv0 hok hn0 hi)) rfl rfl rfl ?_; clear hf fa; rintro fa _ w3 ⟨rfl, he3⟩ hf
  replace hk1 := blk_ext hk1 he3
  replace hk2 := blk_ext hk2 he3
  replace hb := hb.trans (Below.mono he3 hb.size)
  refine sqv hf (r_move rfl) rfl rfl rfl ?_; clear hf fa; intro fa hf
  refine sqv hf (r_extract rfl (i := 0) rfl) rfl rfl rfl ?_; clear hf fa; intro fa hf
  refine sqv hf (r_extract rfl (i := 1) rfl) rfl rfl rfl ?_; clear hf fa; intro fa hf
  refine sqdt hf (d_alloc (z := (.agg #[(.int .u8 (0 : Int)), (.int .u64 (0 : Int))])) (cs := #[(.int .u8 (0 : Int)), (.int .u64 (0 : Int))]) (by kernel_rfl) rfl) rfl rfl rfl ?_; clear hf fa; rintro fa _ w4 ⟨b3, rfl, hle3, hk3, he4⟩ hf
  have hBb3 : w.heap.size ≤ b3 := Nat.le_trans hb.size hle3
  have : b1 < b3 := Nat.lt_of_lt_of_le (blk_lt hk1) hle3
  have : b2 < b3 := Nat.lt_of_lt_of_le (blk_lt hk2) hle3
  replace hk1 := blk_ext hk1 he4
  replace hk2 := blk_ext hk2 he4
  replace hb := hb.trans (Below.mono he4 hb.size)
  refine sqn hf (d_storeK (T := 86) (v := (.agg #[(.int .u8 (0 : Int)), (.int .u64 (0 : Int))])) (cs := #[(.int .u8 (0 : Int)), (.int .u64 (0 : Int))]) (cs' := #[(.int .u8 (0 : Int)), (.int .u64 (0 : Int))]) rfl rfl (by kernel_rfl) (by kernel_rfl) hk3 (by kernel_rfl) (by kernel_rfl)) rfl rfl ?_; clear hf fa; rintro fa _ w5 ⟨hk4, hg1⟩ hf
  replace hk1 := blk_grown hk1 hg1 (by omega)
  replace hk2 := blk_grown hk2 hg1 (by omega)
  replace hb := hb.trans (grown_below hg1 hb.size hBb3)
  refine sqv hf (r_assign rfl) rfl rfl rfl ?_; clear hf fa; intro fa hf
  apply wpList_nil
  (try simp only [Exit.then, Exit.inBlock, ↓reduceIte, Nat.reduceEqDiff])
  refine hK2 _ _ ?_
  refine wp_seq_k (fun K3 hK3 => ?_)
  refine wp_region_lit ?_
  refine sqv hf (r_fa rfl Try.underlying113 (f := 3) (q := 3) rfl (by kernel_rfl) rfl) rfl rfl rfl ?_; clear hf fa; intro fa hf
  refine sqv hf (r_load (v := (.int .u8 ((op : Nat) : Int))) rfl Try.underlying5 rfl (cell_blk hk2 rfl)) rfl rfl rfl ?_; clear hf fa; intro fa hf
  refine sqv hf (r_conv (C := ((op : Nat) : Int)) rfl Try.underlying5 Try.underlying3 (by rw [IntKind.wrap_i64]; omega)) rfl rfl rfl ?_; clear hf fa; intro fa hf
  refine sqdt hf (d_callB (vs := [(.int .i64 ((op : Nat) : Int))]) rfl Try.func47 (by kernel_rfl) (by kernel_rfl) (racc_to _ hop hn0)) rfl rfl rfl ?_; clear hf fa; rintro fa _ w6 ⟨rfl, he5⟩ hf
  replace hk1 := blk_ext hk1 he5
  replace hk2 := blk_ext hk2 he5
  replace hk4 := blk_ext hk4 he5
  replace hb := hb.trans (Below.mono he5 hb.size)
  refine sqv hf (r_move rfl) rfl rfl rfl ?_; clear hf fa; intro fa hf
  refine sqv hf (r_extract rfl (i := 0) rfl) rfl rfl rfl ?_; clear hf fa; intro fa hf
  refine sqv hf (r_extract rfl (i := 1) rfl) rfl rfl rfl ?_; clear hf fa; intro fa hf
  refine sqv hf (r_extract rfl (i := 2) rfl) rfl rfl rfl ?_; clear hf fa; intro fa hf
  refine sqv hf (r_extract rfl (i := 3) rfl) rfl rfl rfl ?_; clear hf fa; intro fa hf
  refine sqv hf (r_extract rfl (i := 4) rfl) rfl rfl rfl ?_; clear hf fa; intro fa hf
  refine sqv hf (r_assign rfl) rfl rfl rfl ?_; clear hf fa; intro fa hf
  refine sqv hf (r_assign rfl) rfl rfl rfl ?_; clear hf fa; intro fa hf
  refine sqv hf (r_assign rfl) rfl rfl rfl ?_; clear hf fa; intro fa hf
  refine sqv hf (r_assign rfl) rfl rfl rfl ?_; clear hf fa; intro fa hf
  refine sqv hf (r_assign rfl) rfl rfl rfl ?_; clear hf fa; intro fa hf
  apply wpList_nil
  (try simp only [Exit.then, Exit.inBlock, ↓reduceIte, Nat.reduceEqDiff])
  refine hK3 _ _ ?_
  refine wp_seq_k (fun K4 hK4 => ?_)
  refine wp_region_lit ?_
  refine sqv hf (r_fa rfl Try.underlying113 (f := 1) (q := 1) rfl (by kernel_rfl) rfl) rfl rfl rfl ?_; clear hf fa; intro fa hf
  refine sqv hf (r_load (v := (.int .u64 ((at_ : Nat) : Int))) rfl Try.underlying26 rfl (cell_blk hk2 rfl)) rfl rfl rfl ?_; clear hf fa; intro fa hf
  refine sqv hf (r_fa rfl Try.underlying113 (f := 4) (q := 4) rfl (by kernel_rfl) rfl) rfl rfl rfl ?_; clear hf fa; intro fa hf
  refine sqv hf (r_load (v := (.int .u64 ((vv : Nat) : Int))) rfl Try.underlying26 rfl (cell_blk hk2 rfl)) rfl rfl rfl ?_; clear hf fa; intro fa hf
  refine sqv hf (r_move rfl) rfl rfl rfl ?_; clear hf fa; intro fa hf
  refine sqv hf (r_fa rfl Try.underlying111 (f := 0) (q := 0) rfl (by kernel_rfl) rfl) rfl rfl rfl ?_; clear hf fa; intro fa hf
  refine sqv hf (r_load (v := (.int .i64 ((ln : Nat) : Int))) rfl Try.underlying3 rfl (cell_blk hk1 rfl)) rfl rfl rfl ?_; clear hf fa; intro fa hf
  refine sqv hf (r_conv (C := ((ln : Nat) : Int)) rfl Try.underlying3 Try.underlying26 (by rw [IntKind.wrap_u64]; omega)) rfl rfl rfl ?_; clear hf fa; intro fa hf
  refine sqdt hf (d_callB (vs := [(.int .u64 ((at_ : Nat) : Int)), (.int .u64 ((vv : Nat) : Int)), (.int .i64 ((n0 : Nat) : Int)), (.int .u64 ((ln : Nat) : Int))]) rfl Try.func91 (by kernel_rfl) (by kernel_rfl) (rplace_to _ ha0 hv0 (by omega) hln hi)) rfl rfl rfl ?_; clear hf fa; rintro fa _ w7 ⟨rfl, he6⟩ hf
  replace hk1 := blk_ext hk1 he6
  replace hk2 := blk_ext hk2 he6
  replace hk4 := blk_ext hk4 he6
  replace hb := hb.trans (Below.mono he6 hb.size)
  refine sqv hf (r_move rfl) rfl rfl rfl ?_; clear hf fa; intro fa hf
  refine sqv hf (r_extract rfl (i := 0) rfl) rfl rfl rfl ?_; clear hf fa; intro fa hf
  refine sqv hf (r_extract rfl (i := 1) rfl) rfl rfl rfl ?_; clear hf fa; intro fa hf
  refine sqv hf (r_assign rfl) rfl rfl rfl ?_; clear hf fa; intro fa hf
  refine sqv hf (r_assign rfl) rfl rfl rfl ?_; clear hf fa; intro fa hf
  apply wpList_nil
  (try simp only [Exit.then, Exit.inBlock, ↓reduceIte, Nat.reduceEqDiff])
  refine hK4 _ _ ?_
  refine wp_seq_k (fun K5 hK5 => ?_)
  refine wp_seq_k (fun K6 hK6 => ?_)
  refine wp_region_lit ?_
  refine sqv hf (r_move rfl) rfl rfl rfl ?_; clear hf fa; intro fa hf
  refine sqv hf (r_not rfl) rfl rfl rfl ?_; clear hf fa; intro fa hf
  refine sqv hf (r_move rfl) rfl rfl rfl ?_; clear hf fa; intro fa hf
  refine sqgF (act := (!(!(accT op).2.2.2.2))) (ag := true) (c := (!(accT op).2.2.2.2)) (v := (.bool (accT op).2.2.1)) hf rfl rfl rfl (fun hact => (r_move rfl)) rfl rfl ?_; clear hf fa; intro fa hf
  refine sqv hf (Runs.veq (r_pickO (b := (!(accT op).2.2.2.2)) (e := (accT op).2.2.1) rfl rfl rfl) (congrArg Value.bool (show _ = false from (by revert hok; unfold okL; cases (accT op).2.2.2.2 <;> cases (accT op).2.2.1 <;> simp)))) rfl rfl rfl ?_; clear hf fa; intro fa hf
  apply wpList_nil
  (try simp only [Exit.then, Exit.inBlock, ↓reduceIte, Nat.reduceEqDiff])
  refine hK6 _ _ ?_
  refine wp_cond_false (hf.ev rfl) ?_
  refine wp_skip ?_
  (try simp only [Exit.then, Exit.inBlock, ↓reduceIte, Nat.reduceEqDiff])
  refine hK5 _ _ ?_
  refine wp_seq_k (fun K7 hK7 => ?_)
  refine wp_seq_k (fun K8 hK8 => ?_)
  refine wp_region_lit ?_
  refine sqv hf (r_move rfl) rfl rfl rfl ?_; clear hf fa; intro fa hf
  refine sqv hf (Runs.veq (v' := (.bool true)) (r_not rfl) rfl) rfl rfl rfl ?_; clear hf fa; intro fa hf
  apply wpList_nil
  (try simp only [Exit.then, Exit.inBlock, ↓reduceIte, Nat.reduceEqDiff])
  refine hK8 _ _ ?_
  refine wp_cond_true (hf.ev rfl) ?_
  refine wp_seq_k (fun K9 hK9 => ?_)
  refine wp_region_lit ?_
  refine sqv hf (r_loadA (cs := [(.int .u8 (0 : Int)), (.int .u64 (0 : Int))]) rfl Try.underlying86 rfl (by kernel_rfl) (cellsAt_blk hk4)) rfl rfl rfl ?_; clear hf fa; intro fa hf
  refine sqv hf (r_build (vs := []) (cs := #[(.int .u8 (0 : Int)), (.int .u64 (0 : Int))]) rfl (fun _ => by kernel_rfl)) rfl rfl rfl ?_; clear hf fa; intro fa hf
  refine sqv hf (Runs.veq (r_aeq (k := 5) rfl rfl (by kernel_rfl) (eqt_struct (xs := #[(.int .u8 (0 : Int)), (.int .u64 (0 : Int))]) (ys := #[(.int .u8 (0 : Int)), (.int .u64 (0 : Int))]) Try.underlying86 (by kernel_rfl) (eqf_cons (by kernel_rfl) (fun _ => by kernel_rfl) (fun _ => by kernel_rfl) (eqt_int (kk := .u8) (a := (0 : Int)) (b := (0 : Int)) Try.underlying5) (eqf_one (by kernel_rfl) (fun _ => by kernel_rfl) (fun _ => by kernel_rfl) (eqt_int (kk := .u64) (a := (0 : Int)) (b := (0 : Int)) Try.underlying26)))) rfl) (congrArg Value.bool (show _ = true from (by simp)))) rfl rfl rfl ?_; clear hf fa; intro fa hf
  refine sqv hf (r_move rfl) rfl rfl rfl ?_; clear hf fa; intro fa hf
  refine sqgd (act := true) (g := 3) (want := true) (ag := true) (c := true) hf (by rfl) (by rfl) rfl (fun _ =>  Runs.does (R := fun vq wq => vq = (.int .i64 (63 : Int)) ∧ w7 = wq) (r_move rfl) ⟨rfl, rfl⟩) (fun h => by cases h) rfl ?_; clear hf fa; rintro fa _ _ ⟨rfl, rfl⟩ hf
  change Fr _ _ ((69, (.int .i64 (63 : Int))) :: _) at hf
  refine sqgd (act := true) (g := 3) (want := true) (ag := true) (c := true) hf (by rfl) (by rfl) rfl (fun _ =>  Runs.does (R := fun vq wq => vq = (.bool true) ∧ w7 = wq) (Runs.veq (r_eq rfl rfl) (congrArg Value.bool (show _ = true from by decide))) ⟨rfl, rfl⟩) (fun h => by cases h) rfl ?_; clear hf fa; rintro fa _ _ ⟨rfl, rfl⟩ hf
  change Fr _ _ ((70, (.bool true)) :: _) at hf
  refine sqv hf (r_pick (b := true) rfl rfl rfl rfl) rfl rfl rfl ?_; clear hf fa; intro fa hf
  refine sqv hf (r_assign rfl) rfl rfl rfl ?_; clear hf fa; intro fa hf
  apply wpList_nil
  (try simp only [Exit.then, Exit.inBlock, ↓reduceIte, Nat.reduceEqDiff])
  refine hK9 _ _ ?_
  refine wp_ret ?_
  (try simp only [Exit.then, Exit.inBlock])
  refine ret1 hf rfl rfl ?_
  exact ⟨rfl, hb⟩

set_option maxHeartbeats 1000000 in
set_option maxRecDepth 100000 in
theorem loads_C (B p : Nat) (ln : Nat) (mo : Int) (ca : Option Addr) (C : List MCe) (cc : Nat) (w : World) (hSt : St26 B w p ln mo C) (hCd : RdS 2 vCe w ca C) (hCl : C.length ≤ 1000000) (kd nn : Int) (at_ op vv ww : Nat) (da : Option Addr) (dn dc : Nat) (ha0 : at_ < 18446744073709551616) (hop : op < 256) (hv0 : vv < 18446744073709551616) (hw0 : ww < 18446744073709551616) (n0 : Nat) (hn0 : (accT op).1 = ((n0 : Nat) : Int)) (hn8 : n0 ≤ 8) (hok : okL op = true) (hi : (plP at_ vv n0 ln).2 = true) : Calls Try.prog 84 #[(.pointer (some ⟨p, 0, none⟩)), (.agg #[(.int .i64 ((ln : Nat) : Int)), (.int .i64 mo), (.slice ca C.length cc)]), (.agg #[(.int .i64 kd), (.int .u64 ((at_ : Nat) : Int)), (.int .i64 nn), (.int .u8 ((op : Nat) : Int)), (.int .u64 ((vv : Nat) : Int)), (.int .u64 ((ww : Nat) : Int)), (.slice da dn dc)])] w fun e w' => e = .returned (.bool true) ∧ Below w.heap.size w w' := by
  obtain ⟨hln, hCr, _⟩ := hSt.nums
  have hC2 : ∀ c ∈ C, 0 ≤ c.2 ∧ c.2 < 256 := fun c hc => (hCr c hc).2
  have hpi := plP_in hi
  refine sx_enter (L := [(0, (.pointer (some ⟨p, 0, none⟩))), (1, (.agg #[(.int .i64 ((ln : Nat) : Int)), (.int .i64 mo), (.slice ca C.length cc)])), (2, (.agg #[(.int .i64 kd), (.int .u64 ((at_ : Nat) : Int)), (.int .i64 nn), (.int .u8 ((op : Nat) : Int)), (.int .u64 ((vv : Nat) : Int)), (.int .u64 ((ww : Nat) : Int)), (.slice da dn dc)]))]) Try.func84 rfl rfl rfl rfl (fun fa hf => ?_)
  have hb : Below w.heap.size w w := Below.refl _ _
  refine wp_seq_k (fun K1 hK1 => ?_)
  refine wp_region_lit ?_
  refine sqdt hf (d_box (cs := #[(.int .i64 ((ln : Nat) : Int)), (.int .i64 mo), (.slice ca C.length cc)]) rfl rfl) rfl rfl rfl ?_; clear hf fa; rintro fa _ w1 ⟨b1, rfl, hle1, hk1, he1⟩ hf
  have hBb1 : w.heap.size ≤ b1 := Nat.le_trans hb.size hle1
  replace hb := hb.trans (Below.mono he1 hb.size)
  refine sqdt hf (d_box (cs := #[(.int .i64 kd), (.int .u64 ((at_ : Nat) : Int)), (.int .i64 nn), (.int .u8 ((op : Nat) : Int)), (.int .u64 ((vv : Nat) : Int)), (.int .u64 ((ww : Nat) : Int)), (.slice da dn dc)]) rfl rfl) rfl rfl rfl ?_; clear hf fa; rintro fa _ w2 ⟨b2, rfl, hle2, hk2, he2⟩ hf
  have hBb2 : w.heap.size ≤ b2 := Nat.le_trans hb.size hle2
  have : b1 < b2 := Nat.lt_of_lt_of_le (blk_lt hk1) hle2
  replace hk1 := blk_ext hk1 he2
  replace hb := hb.trans (Below.mono he2 hb.size)
  refine sqv hf (r_assign rfl) rfl rfl rfl ?_; clear hf fa; intro fa hf
  apply wpList_nil
  (try simp only [Exit.then, Exit.inBlock, ↓reduceIte, Nat.reduceEqDiff])
  refine hK1 _ _ ?_
  refine wp_seq_k (fun K2 hK2 => ?_)
  refine wp_region_lit ?_
  refine sqv hf (r_move rfl) rfl rfl rfl ?_; clear hf fa; intro fa hf
  refine sqv hf (r_fa rfl Try.underlying113 (f := 3) (q := 3) rfl (by kernel_rfl) rfl) rfl rfl rfl ?_; clear hf fa; intro fa hf
  refine sqv hf (r_load (v := (.int .u8 ((op : Nat) : Int))) rfl Try.underlying5 rfl (cell_blk hk2 rfl)) rfl rfl rfl ?_; clear hf fa; intro fa hf
  refine sqv hf (r_fa rfl Try.underlying113 (f := 1) (q := 1) rfl (by kernel_rfl) rfl) rfl rfl rfl ?_; clear hf fa; intro fa hf
  refine sqv hf (r_load (v := (.int .u64 ((at_ : Nat) : Int))) rfl Try.underlying26 rfl (cell_blk hk2 rfl)) rfl rfl rfl ?_; clear hf fa; intro fa hf
  refine sqv hf (r_fa rfl Try.underlying113 (f := 4) (q := 4) rfl (by kernel_rfl) rfl) rfl rfl rfl ?_; clear hf fa; intro fa hf
  refine sqv hf (r_load (v := (.int .u64 ((vv : Nat) : Int))) rfl Try.underlying26 rfl (cell_blk hk2 rfl)) rfl rfl rfl ?_; clear hf fa; intro fa hf
  refine sqdt hf (d_callB (vs := [(.pointer (some ⟨p, 0, none⟩)), (.int .u8 ((op : Nat) : Int)), (.int .u64 ((at_ : Nat) : Int)), (.int .u64 ((vv : Nat) : Int))]) rfl Try.func90 (by kernel_rfl) (by kernel_rfl) (load_C (hSt.ext hb) hop ha0 hv0 hok hn0 hi)) rfl rfl rfl ?_; clear hf fa; rintro fa _ w3 ⟨rfl, he3⟩ hf
  replace hk1 := blk_ext hk1 he3
  replace hk2 := blk_ext hk2 he3
  replace hb := hb.trans (Below.mono he3 hb.size)
  refine sqv hf (r_move rfl) rfl rfl rfl ?_; clear hf fa; intro fa hf
  refine sqv hf (r_extract rfl (i := 0) rfl) rfl rfl rfl ?_; clear hf fa; intro fa hf
  refine sqv hf (r_extract rfl (i := 1) rfl) rfl rfl rfl ?_; clear hf fa; intro fa hf
  refine sqdt hf (d_alloc (z := (.agg #[(.int .u8 (0 : Int)), (.int .u64 (0 : Int))])) (cs := #[(.int .u8 (0 : Int)), (.int .u64 (0 : Int))]) (by kernel_rfl) rfl) rfl rfl rfl ?_; clear hf fa; rintro fa _ w4 ⟨b3, rfl, hle3, hk3, he4⟩ hf
  have hBb3 : w.heap.size ≤ b3 := Nat.le_trans hb.size hle3
  have : b1 < b3 := Nat.lt_of_lt_of_le (blk_lt hk1) hle3
  have : b2 < b3 := Nat.lt_of_lt_of_le (blk_lt hk2) hle3
  replace hk1 := blk_ext hk1 he4
  replace hk2 := blk_ext hk2 he4
  replace hb := hb.trans (Below.mono he4 hb.size)
  refine sqn hf (d_storeK (T := 86) (v := (.agg #[(.int .u8 ((readT op (rdF C (plP at_ vv n0 ln).1 n0)).1)), (.int .u64 (((readT op (rdF C (plP at_ vv n0 ln).1 n0)).2.1 : Nat) : Int))])) (cs := #[(.int .u8 (0 : Int)), (.int .u64 (0 : Int))]) (cs' := #[(.int .u8 ((readT op (rdF C (plP at_ vv n0 ln).1 n0)).1)), (.int .u64 (((readT op (rdF C (plP at_ vv n0 ln).1 n0)).2.1 : Nat) : Int))]) rfl rfl (by kernel_rfl) (by kernel_rfl) hk3 (by kernel_rfl) (by kernel_rfl)) rfl rfl ?_; clear hf fa; rintro fa _ w5 ⟨hk4, hg1⟩ hf
  replace hk1 := blk_grown hk1 hg1 (by omega)
  replace hk2 := blk_grown hk2 hg1 (by omega)
  replace hb := hb.trans (grown_below hg1 hb.size hBb3)
  refine sqv hf (r_assign rfl) rfl rfl rfl ?_; clear hf fa; intro fa hf
  apply wpList_nil
  (try simp only [Exit.then, Exit.inBlock, ↓reduceIte, Nat.reduceEqDiff])
  refine hK2 _ _ ?_
  refine wp_seq_k (fun K3 hK3 => ?_)
  refine wp_region_lit ?_
  refine sqv hf (r_fa rfl Try.underlying113 (f := 3) (q := 3) rfl (by kernel_rfl) rfl) rfl rfl rfl ?_; clear hf fa; intro fa hf
  refine sqv hf (r_load (v := (.int .u8 ((op : Nat) : Int))) rfl Try.underlying5 rfl (cell_blk hk2 rfl)) rfl rfl rfl ?_; clear hf fa; intro fa hf
  refine sqv hf (r_conv (C := ((op : Nat) : Int)) rfl Try.underlying5 Try.underlying3 (by rw [IntKind.wrap_i64]; omega)) rfl rfl rfl ?_; clear hf fa; intro fa hf
  refine sqdt hf (d_callB (vs := [(.int .i64 ((op : Nat) : Int))]) rfl Try.func47 (by kernel_rfl) (by kernel_rfl) (racc_to _ hop hn0)) rfl rfl rfl ?_; clear hf fa; rintro fa _ w6 ⟨rfl, he5⟩ hf
  replace hk1 := blk_ext hk1 he5
  replace hk2 := blk_ext hk2 he5
  replace hk4 := blk_ext hk4 he5
  replace hb := hb.trans (Below.mono he5 hb.size)
  refine sqv hf (r_move rfl) rfl rfl rfl ?_; clear hf fa; intro fa hf
  refine sqv hf (r_extract rfl (i := 0) rfl) rfl rfl rfl ?_; clear hf fa; intro fa hf
  refine sqv hf (r_extract rfl (i := 1) rfl) rfl rfl rfl ?_; clear hf fa; intro fa hf
  refine sqv hf (r_extract rfl (i := 2) rfl) rfl rfl rfl ?_; clear hf fa; intro fa hf
  refine sqv hf (r_extract rfl (i := 3) rfl) rfl rfl rfl ?_; clear hf fa; intro fa hf
  refine sqv hf (r_extract rfl (i := 4) rfl) rfl rfl rfl ?_; clear hf fa; intro fa hf
  refine sqv hf (r_assign rfl) rfl rfl rfl ?_; clear hf fa; intro fa hf
  refine sqv hf (r_assign rfl) rfl rfl rfl ?_; clear hf fa; intro fa hf
  refine sqv hf (r_assign rfl) rfl rfl rfl ?_; clear hf fa; intro fa hf
  refine sqv hf (r_assign rfl) rfl rfl rfl ?_; clear hf fa; intro fa hf
  refine sqv hf (r_assign rfl) rfl rfl rfl ?_; clear hf fa; intro fa hf
  apply wpList_nil
  (try simp only [Exit.then, Exit.inBlock, ↓reduceIte, Nat.reduceEqDiff])
  refine hK3 _ _ ?_
  refine wp_seq_k (fun K4 hK4 => ?_)
  refine wp_region_lit ?_
  refine sqv hf (r_fa rfl Try.underlying113 (f := 1) (q := 1) rfl (by kernel_rfl) rfl) rfl rfl rfl ?_; clear hf fa; intro fa hf
  refine sqv hf (r_load (v := (.int .u64 ((at_ : Nat) : Int))) rfl Try.underlying26 rfl (cell_blk hk2 rfl)) rfl rfl rfl ?_; clear hf fa; intro fa hf
  refine sqv hf (r_fa rfl Try.underlying113 (f := 4) (q := 4) rfl (by kernel_rfl) rfl) rfl rfl rfl ?_; clear hf fa; intro fa hf
  refine sqv hf (r_load (v := (.int .u64 ((vv : Nat) : Int))) rfl Try.underlying26 rfl (cell_blk hk2 rfl)) rfl rfl rfl ?_; clear hf fa; intro fa hf
  refine sqv hf (r_move rfl) rfl rfl rfl ?_; clear hf fa; intro fa hf
  refine sqv hf (r_fa rfl Try.underlying111 (f := 0) (q := 0) rfl (by kernel_rfl) rfl) rfl rfl rfl ?_; clear hf fa; intro fa hf
  refine sqv hf (r_load (v := (.int .i64 ((ln : Nat) : Int))) rfl Try.underlying3 rfl (cell_blk hk1 rfl)) rfl rfl rfl ?_; clear hf fa; intro fa hf
  refine sqv hf (r_conv (C := ((ln : Nat) : Int)) rfl Try.underlying3 Try.underlying26 (by rw [IntKind.wrap_u64]; omega)) rfl rfl rfl ?_; clear hf fa; intro fa hf
  refine sqdt hf (d_callB (vs := [(.int .u64 ((at_ : Nat) : Int)), (.int .u64 ((vv : Nat) : Int)), (.int .i64 ((n0 : Nat) : Int)), (.int .u64 ((ln : Nat) : Int))]) rfl Try.func91 (by kernel_rfl) (by kernel_rfl) (rplace_to _ ha0 hv0 (by omega) hln hi)) rfl rfl rfl ?_; clear hf fa; rintro fa _ w7 ⟨rfl, he6⟩ hf
  replace hk1 := blk_ext hk1 he6
  replace hk2 := blk_ext hk2 he6
  replace hk4 := blk_ext hk4 he6
  replace hb := hb.trans (Below.mono he6 hb.size)
  refine sqv hf (r_move rfl) rfl rfl rfl ?_; clear hf fa; intro fa hf
  refine sqv hf (r_extract rfl (i := 0) rfl) rfl rfl rfl ?_; clear hf fa; intro fa hf
  refine sqv hf (r_extract rfl (i := 1) rfl) rfl rfl rfl ?_; clear hf fa; intro fa hf
  refine sqv hf (r_assign rfl) rfl rfl rfl ?_; clear hf fa; intro fa hf
  refine sqv hf (r_assign rfl) rfl rfl rfl ?_; clear hf fa; intro fa hf
  apply wpList_nil
  (try simp only [Exit.then, Exit.inBlock, ↓reduceIte, Nat.reduceEqDiff])
  refine hK4 _ _ ?_
  refine wp_seq_k (fun K5 hK5 => ?_)
  refine wp_seq_k (fun K6 hK6 => ?_)
  refine wp_region_lit ?_
  refine sqv hf (r_move rfl) rfl rfl rfl ?_; clear hf fa; intro fa hf
  refine sqv hf (r_not rfl) rfl rfl rfl ?_; clear hf fa; intro fa hf
  refine sqv hf (r_move rfl) rfl rfl rfl ?_; clear hf fa; intro fa hf
  refine sqgF (act := (!(!(accT op).2.2.2.2))) (ag := true) (c := (!(accT op).2.2.2.2)) (v := (.bool (accT op).2.2.1)) hf rfl rfl rfl (fun hact => (r_move rfl)) rfl rfl ?_; clear hf fa; intro fa hf
  refine sqv hf (Runs.veq (r_pickO (b := (!(accT op).2.2.2.2)) (e := (accT op).2.2.1) rfl rfl rfl) (congrArg Value.bool (show _ = false from (by revert hok; unfold okL; cases (accT op).2.2.2.2 <;> cases (accT op).2.2.1 <;> simp)))) rfl rfl rfl ?_; clear hf fa; intro fa hf
  apply wpList_nil
  (try simp only [Exit.then, Exit.inBlock, ↓reduceIte, Nat.reduceEqDiff])
  refine hK6 _ _ ?_
  refine wp_cond_false (hf.ev rfl) ?_
  refine wp_skip ?_
  (try simp only [Exit.then, Exit.inBlock, ↓reduceIte, Nat.reduceEqDiff])
  refine hK5 _ _ ?_
  refine wp_seq_k (fun K7 hK7 => ?_)
  refine wp_seq_k (fun K8 hK8 => ?_)
  refine wp_region_lit ?_
  refine sqv hf (r_move rfl) rfl rfl rfl ?_; clear hf fa; intro fa hf
  refine sqv hf (Runs.veq (v' := (.bool false)) (r_not rfl) rfl) rfl rfl rfl ?_; clear hf fa; intro fa hf
  apply wpList_nil
  (try simp only [Exit.then, Exit.inBlock, ↓reduceIte, Nat.reduceEqDiff])
  refine hK8 _ _ ?_
  refine wp_cond_false (hf.ev rfl) ?_
  refine wp_skip ?_
  (try simp only [Exit.then, Exit.inBlock, ↓reduceIte, Nat.reduceEqDiff])
  refine hK7 _ _ ?_
  refine wp_seq_k (fun K9 hK9 => ?_)
  refine wp_region_vnT 13 (fun _ wq => Below w7.heap.size w7 wq)
    (fun V S => [(fun x _ => x = (.pointer (some ⟨b2, 3, none⟩))), (fun x _ => x = (.int .u8 ((op : Nat) : Int))), (fun x _ => x = (.int .i64 ((op : Nat) : Int))), (fun x _ => x = (.agg #[(.int .i64 ((ln : Nat) : Int)), (.int .i64 mo), (.slice ca C.length cc)])), (fun x _ => x = (.int .u64 (((plP at_ vv n0 ln).1 : Nat) : Int))), (fun x _ => x = (.int .i64 ((n0 : Nat) : Int))), (fun x _ => x = (.string (strOfNums (rdF C (plP at_ vv n0 ln).1 n0)))), (fun x _ => x = (.tuple #[(.agg #[(.int .u8 ((readT op (rdF C (plP at_ vv n0 ln).1 n0)).1)), (.int .u64 (((readT op (rdF C (plP at_ vv n0 ln).1 n0)).2.1 : Nat) : Int))]), (.bool (readT op (rdF C (plP at_ vv n0 ln).1 n0)).2.2)])), (fun x _ => x = (.tuple #[(.agg #[(.int .u8 ((readT op (rdF C (plP at_ vv n0 ln).1 n0)).1)), (.int .u64 (((readT op (rdF C (plP at_ vv n0 ln).1 n0)).2.1 : Nat) : Int))]), (.bool (readT op (rdF C (plP at_ vv n0 ln).1 n0)).2.2)])), (fun x _ => x = (.agg #[(.int .u8 ((readT op (rdF C (plP at_ vv n0 ln).1 n0)).1)), (.int .u64 (((readT op (rdF C (plP at_ vv n0 ln).1 n0)).2.1 : Nat) : Int))])), (fun x _ => x = (.bool (readT op (rdF C (plP at_ vv n0 ln).1 n0)).2.2)), (fun x wq => ∃ b, x = .pointer (some ⟨b, 0, none⟩) ∧ w7.heap.size ≤ b ∧ (¬ S 12 → wq.heap[b]? = some (.cells #[(.int .u8 (0 : Int)), (.int .u64 (0 : Int))] 86 (0, 0))) ∧ (S 12 → wq.heap[b]? = some (.cells #[(.int .u8 ((readT op (rdF C (plP at_ vv n0 ln).1 n0)).1)), (.int .u64 (((readT op (rdF C (plP at_ vv n0 ln).1 n0)).2.1 : Nat) : Int))] 86 (0, 0)))), (fun _ _ => True)])
    [11]
    [[], [0], [1], [], [], [], [3, 4, 5], [2, 6], [7], [8], [8], [], [0, 1, 2, 3, 4, 5, 6, 7, 8, 9, 11], []]
    hf (by kernel_rfl) (by kernel_rfl) (by kernel_rfl) (fun _ _ => rfl) (fun _ hS_ => (Below.refl _ _).drew) (fun _ _ _ _ _ _ => rfl) ?_ ?_
  · skip
    intro V
    have hKP : ∀ (i : Nat) (S : Nat → Prop) (wk : World), (∀ q ∈ ([12] : List Nat), q ≠ i) → ∀ j v w', (((fun (S : Nat → Prop) => ([(fun x _ => x = (.pointer (some ⟨b2, 3, none⟩))), (fun x _ => x = (.int .u8 ((op : Nat) : Int))), (fun x _ => x = (.int .i64 ((op : Nat) : Int))), (fun x _ => x = (.agg #[(.int .i64 ((ln : Nat) : Int)), (.int .i64 mo), (.slice ca C.length cc)])), (fun x _ => x = (.int .u64 (((plP at_ vv n0 ln).1 : Nat) : Int))), (fun x _ => x = (.int .i64 ((n0 : Nat) : Int))), (fun x _ => x = (.string (strOfNums (rdF C (plP at_ vv n0 ln).1 n0)))), (fun x _ => x = (.tuple #[(.agg #[(.int .u8 ((readT op (rdF C (plP at_ vv n0 ln).1 n0)).1)), (.int .u64 (((readT op (rdF C (plP at_ vv n0 ln).1 n0)).2.1 : Nat) : Int))]), (.bool (readT op (rdF C (plP at_ vv n0 ln).1 n0)).2.2)])), (fun x _ => x = (.tuple #[(.agg #[(.int .u8 ((readT op (rdF C (plP at_ vv n0 ln).1 n0)).1)), (.int .u64 (((readT op (rdF C (plP at_ vv n0 ln).1 n0)).2.1 : Nat) : Int))]), (.bool (readT op (rdF C (plP at_ vv n0 ln).1 n0)).2.2)])), (fun x _ => x = (.agg #[(.int .u8 ((readT op (rdF C (plP at_ vv n0 ln).1 n0)).1)), (.int .u64 (((readT op (rdF C (plP at_ vv n0 ln).1 n0)).2.1 : Nat) : Int))])), (fun x _ => x = (.bool (readT op (rdF C (plP at_ vv n0 ln).1 n0)).2.2)), (fun x wq => ∃ b, x = .pointer (some ⟨b, 0, none⟩) ∧ w7.heap.size ≤ b ∧ (¬ S 12 → wq.heap[b]? = some (.cells #[(.int .u8 (0 : Int)), (.int .u64 (0 : Int))] 86 (0, 0))) ∧ (S 12 → wq.heap[b]? = some (.cells #[(.int .u8 ((readT op (rdF C (plP at_ vv n0 ln).1 n0)).1)), (.int .u64 (((readT op (rdF C (plP at_ vv n0 ln).1 n0)).2.1 : Nat) : Int))] 86 (0, 0)))), (fun _ _ => True)] : List (Value → World → Prop))) S).getD j (fun _ _ => True)) v wk → Below wk.heap.size wk w' → (((fun (S : Nat → Prop) => ([(fun x _ => x = (.pointer (some ⟨b2, 3, none⟩))), (fun x _ => x = (.int .u8 ((op : Nat) : Int))), (fun x _ => x = (.int .i64 ((op : Nat) : Int))), (fun x _ => x = (.agg #[(.int .i64 ((ln : Nat) : Int)), (.int .i64 mo), (.slice ca C.length cc)])), (fun x _ => x = (.int .u64 (((plP at_ vv n0 ln).1 : Nat) : Int))), (fun x _ => x = (.int .i64 ((n0 : Nat) : Int))), (fun x _ => x = (.string (strOfNums (rdF C (plP at_ vv n0 ln).1 n0)))), (fun x _ => x = (.tuple #[(.agg #[(.int .u8 ((readT op (rdF C (plP at_ vv n0 ln).1 n0)).1)), (.int .u64 (((readT op (rdF C (plP at_ vv n0 ln).1 n0)).2.1 : Nat) : Int))]), (.bool (readT op (rdF C (plP at_ vv n0 ln).1 n0)).2.2)])), (fun x _ => x = (.tuple #[(.agg #[(.int .u8 ((readT op (rdF C (plP at_ vv n0 ln).1 n0)).1)), (.int .u64 (((readT op (rdF C (plP at_ vv n0 ln).1 n0)).2.1 : Nat) : Int))]), (.bool (readT op (rdF C (plP at_ vv n0 ln).1 n0)).2.2)])), (fun x _ => x = (.agg #[(.int .u8 ((readT op (rdF C (plP at_ vv n0 ln).1 n0)).1)), (.int .u64 (((readT op (rdF C (plP at_ vv n0 ln).1 n0)).2.1 : Nat) : Int))])), (fun x _ => x = (.bool (readT op (rdF C (plP at_ vv n0 ln).1 n0)).2.2)), (fun x wq => ∃ b, x = .pointer (some ⟨b, 0, none⟩) ∧ w7.heap.size ≤ b ∧ (¬ S 12 → wq.heap[b]? = some (.cells #[(.int .u8 (0 : Int)), (.int .u64 (0 : Int))] 86 (0, 0))) ∧ (S 12 → wq.heap[b]? = some (.cells #[(.int .u8 ((readT op (rdF C (plP at_ vv n0 ln).1 n0)).1)), (.int .u64 (((readT op (rdF C (plP at_ vv n0 ln).1 n0)).2.1 : Nat) : Int))] 86 (0, 0)))), (fun _ _ => True)] : List (Value → World → Prop))) (ad i S)).getD j (fun _ _ => True)) v w' := by
      intro i S wk hi j v w' h hB
      match j with
      | 0 =>
        exact h
      | 1 =>
        exact h
      | 2 =>
        exact h
      | 3 =>
        exact h
      | 4 =>
        exact h
      | 5 =>
        exact h
      | 6 =>
        exact h
      | 7 =>
        exact h
      | 8 =>
        exact h
      | 9 =>
        exact h
      | 10 =>
        exact h
      | 11 =>
        obtain ⟨b, e1, e2, e3, e4⟩ := h
        exact ⟨b, e1, e2, fun hn => blk_ext (e3 (fun hs => hn (.inr hs))) hB, fun hs => by rcases hs with e | hs; exact absurd e (hi 12 (by decide)); exact blk_ext (e4 hs) hB⟩
      | 12 =>
        exact h
      | _ + 13 => trivial
    refine ⟨fun S wu0 hC hS hd hi => ?_, ?_⟩
    · skip
      replace hC : Below w7.heap.size w7 wu0 := hC
      refine uv_plain (C := (fun _ wq => Below w7.heap.size w7 wq)) (hKP 0 S wu0 (by decide)) (fun _ h1 h2 => Below.trans h1 (Below.mono h2 (Below.size h1))) hC hS ?_
      replace hb := hb.trans (hC.mono hb.size)
      replace hk1 := blk_ext hk1 hC
      replace hk2 := blk_ext hk2 hC
      replace hk4 := blk_ext hk4 hC
      exact Runs.does (r_fa rfl Try.underlying113 (f := 3) (q := 3) rfl (by kernel_rfl) rfl) ⟨Below.refl _ _, rfl, nofr rfl⟩
    refine ⟨fun S wu1 hC hS hd hi => ?_, ?_⟩
    · skip
      replace hC : Below w7.heap.size w7 wu1 := hC
      refine uv_plain (C := (fun _ wq => Below w7.heap.size w7 wq)) (hKP 1 S wu1 (by decide)) (fun _ h1 h2 => Below.trans h1 (Below.mono h2 (Below.size h1))) hC hS ?_
      have h0 := hS.post 0 (hd 0 (by decide))
      replace h0 : V 0 = (.pointer (some ⟨b2, 3, none⟩)) := h0
      replace hb := hb.trans (hC.mono hb.size)
      replace hk1 := blk_ext hk1 hC
      replace hk2 := blk_ext hk2 hC
      replace hk4 := blk_ext hk4 hC
      exact Runs.does (r_load (v := (.int .u8 ((op : Nat) : Int))) (congrArg some h0) Try.underlying5 rfl (cell_blk hk2 rfl)) ⟨Below.refl _ _, rfl, nofr rfl⟩
    refine ⟨fun S wu2 hC hS hd hi => ?_, ?_⟩
    · skip
      replace hC : Below w7.heap.size w7 wu2 := hC
      refine uv_plain (C := (fun _ wq => Below w7.heap.size w7 wq)) (hKP 2 S wu2 (by decide)) (fun _ h1 h2 => Below.trans h1 (Below.mono h2 (Below.size h1))) hC hS ?_
      have h1 := hS.post 1 (hd 1 (by decide))
      replace h1 : V 1 = (.int .u8 ((op : Nat) : Int)) := h1
      replace hb := hb.trans (hC.mono hb.size)
      replace hk1 := blk_ext hk1 hC
      replace hk2 := blk_ext hk2 hC
      replace hk4 := blk_ext hk4 hC
      exact Runs.does (r_conv (C := ((op : Nat) : Int)) (congrArg some h1) Try.underlying5 Try.underlying3 (by rw [IntKind.wrap_i64]; omega)) ⟨Below.refl _ _, rfl, nofr rfl⟩
    refine ⟨fun S wu3 hC hS hd hi => ?_, ?_⟩
    · skip
      replace hC : Below w7.heap.size w7 wu3 := hC
      refine uv_plain (C := (fun _ wq => Below w7.heap.size w7 wq)) (hKP 3 S wu3 (by decide)) (fun _ h1 h2 => Below.trans h1 (Below.mono h2 (Below.size h1))) hC hS ?_
      replace hb := hb.trans (hC.mono hb.size)
      replace hk1 := blk_ext hk1 hC
      replace hk2 := blk_ext hk2 hC
      replace hk4 := blk_ext hk4 hC
      exact Runs.does (r_loadA (cs := [(.int .i64 ((ln : Nat) : Int)), (.int .i64 mo), (.slice ca C.length cc)]) rfl Try.underlying111 rfl (by kernel_rfl) (cellsAt_blk hk1)) ⟨Below.refl _ _, rfl, nofr rfl⟩
    refine ⟨fun S wu4 hC hS hd hi => ?_, ?_⟩
    · skip
      replace hC : Below w7.heap.size w7 wu4 := hC
      refine uv_plain (C := (fun _ wq => Below w7.heap.size w7 wq)) (hKP 4 S wu4 (by decide)) (fun _ h1 h2 => Below.trans h1 (Below.mono h2 (Below.size h1))) hC hS ?_
      replace hb := hb.trans (hC.mono hb.size)
      replace hk1 := blk_ext hk1 hC
      replace hk2 := blk_ext hk2 hC
      replace hk4 := blk_ext hk4 hC
      exact Runs.does (r_move rfl) ⟨Below.refl _ _, rfl, nofr rfl⟩
    refine ⟨fun S wu5 hC hS hd hi => ?_, ?_⟩
    · skip
      replace hC : Below w7.heap.size w7 wu5 := hC
      refine uv_plain (C := (fun _ wq => Below w7.heap.size w7 wq)) (hKP 5 S wu5 (by decide)) (fun _ h1 h2 => Below.trans h1 (Below.mono h2 (Below.size h1))) hC hS ?_
      replace hb := hb.trans (hC.mono hb.size)
      replace hk1 := blk_ext hk1 hC
      replace hk2 := blk_ext hk2 hC
      replace hk4 := blk_ext hk4 hC
      exact Runs.does (r_move rfl) ⟨Below.refl _ _, rfl, nofr rfl⟩
    refine ⟨fun S wu6 hC hS hd hi => ?_, ?_⟩
    · skip
      replace hC : Below w7.heap.size w7 wu6 := hC
      refine uv_plain (C := (fun _ wq => Below w7.heap.size w7 wq)) (hKP 6 S wu6 (by decide)) (fun _ h1 h2 => Below.trans h1 (Below.mono h2 (Below.size h1))) hC hS ?_
      have h3 := hS.post 3 (hd 3 (by decide))
      replace h3 : V 3 = (.agg #[(.int .i64 ((ln : Nat) : Int)), (.int .i64 mo), (.slice ca C.length cc)]) := h3
      have h4 := hS.post 4 (hd 4 (by decide))
      replace h4 : V 4 = (.int .u64 (((plP at_ vv n0 ln).1 : Nat) : Int)) := h4
      have h5 := hS.post 5 (hd 5 (by decide))
      replace h5 : V 5 = (.int .i64 ((n0 : Nat) : Int)) := h5
      replace hb := hb.trans (hC.mono hb.size)
      replace hk1 := blk_ext hk1 hC
      replace hk2 := blk_ext hk2 hC
      replace hk4 := blk_ext hk4 hC
      refine Does.mono (d_callB (vs := [(.agg #[(.int .i64 ((ln : Nat) : Int)), (.int .i64 mo), (.slice ca C.length cc)]), (.int .u64 (((plP at_ vv n0 ln).1 : Nat) : Int)), (.int .i64 ((n0 : Nat) : Int))]) (show [some (V 3), some (V 4), some (V 5)] = [some (.agg #[(.int .i64 ((ln : Nat) : Int)), (.int .i64 mo), (.slice ca C.length cc)]), some (.int .u64 (((plP at_ vv n0 ln).1 : Nat) : Int)), some (.int .i64 ((n0 : Nat) : Int))] from by rw [h3, h4, h5]) Try.func81 (by kernel_rfl) (by kernel_rfl) (rread26 ln mo ca C cc _ (RdS.ext hCd hb) hln hCl (plP at_ vv n0 ln).1 n0 (by omega) (by omega))) (fun _ _ h => ⟨h.2, h.1, nofr rfl⟩)
    refine ⟨fun S wu7 hC hS hd hi => ?_, ?_⟩
    · skip
      replace hC : Below w7.heap.size w7 wu7 := hC
      refine uv_plain (C := (fun _ wq => Below w7.heap.size w7 wq)) (hKP 7 S wu7 (by decide)) (fun _ h1 h2 => Below.trans h1 (Below.mono h2 (Below.size h1))) hC hS ?_
      have h2 := hS.post 2 (hd 2 (by decide))
      replace h2 : V 2 = (.int .i64 ((op : Nat) : Int)) := h2
      have h6 := hS.post 6 (hd 6 (by decide))
      replace h6 : V 6 = (.string (strOfNums (rdF C (plP at_ vv n0 ln).1 n0))) := h6
      replace hb := hb.trans (hC.mono hb.size)
      replace hk1 := blk_ext hk1 hC
      replace hk2 := blk_ext hk2 hC
      replace hk4 := blk_ext hk4 hC
      refine Does.mono (d_callB (vs := [(.int .i64 ((op : Nat) : Int)), (.string (strOfNums (rdF C (plP at_ vv n0 ln).1 n0)))]) (show [some (V 2), some (V 6)] = [some (.int .i64 ((op : Nat) : Int)), some (.string (strOfNums (rdF C (plP at_ vv n0 ln).1 n0)))] from by rw [h2, h6]) Try.func45 (by kernel_rfl) (by kernel_rfl) (rread_l op (rdF C (plP at_ vv n0 ln).1 n0) _ hop (rdF_rng hC2 _ _) (by rw [rdF_len]; omega))) (fun _ _ h => ⟨h.2, h.1, nofr rfl⟩)
    refine ⟨fun S wu8 hC hS hd hi => ?_, ?_⟩
    · skip
      replace hC : Below w7.heap.size w7 wu8 := hC
      refine uv_plain (C := (fun _ wq => Below w7.heap.size w7 wq)) (hKP 8 S wu8 (by decide)) (fun _ h1 h2 => Below.trans h1 (Below.mono h2 (Below.size h1))) hC hS ?_
      have h7 := hS.post 7 (hd 7 (by decide))
      replace h7 : V 7 = (.tuple #[(.agg #[(.int .u8 ((readT op (rdF C (plP at_ vv n0 ln).1 n0)).1)), (.int .u64 (((readT op (rdF C (plP at_ vv n0 ln).1 n0)).2.1 : Nat) : Int))]), (.bool (readT op (rdF C (plP at_ vv n0 ln).1 n0)).2.2)]) := h7
      replace hb := hb.trans (hC.mono hb.size)
      replace hk1 := blk_ext hk1 hC
      replace hk2 := blk_ext hk2 hC
      replace hk4 := blk_ext hk4 hC
      exact Runs.does (r_move (congrArg some h7)) ⟨Below.refl _ _, rfl, nofr rfl⟩
    refine ⟨fun S wu9 hC hS hd hi => ?_, ?_⟩
    · skip
      replace hC : Below w7.heap.size w7 wu9 := hC
      refine uv_plain (C := (fun _ wq => Below w7.heap.size w7 wq)) (hKP 9 S wu9 (by decide)) (fun _ h1 h2 => Below.trans h1 (Below.mono h2 (Below.size h1))) hC hS ?_
      have h8 := hS.post 8 (hd 8 (by decide))
      replace h8 : V 8 = (.tuple #[(.agg #[(.int .u8 ((readT op (rdF C (plP at_ vv n0 ln).1 n0)).1)), (.int .u64 (((readT op (rdF C (plP at_ vv n0 ln).1 n0)).2.1 : Nat) : Int))]), (.bool (readT op (rdF C (plP at_ vv n0 ln).1 n0)).2.2)]) := h8
      replace hb := hb.trans (hC.mono hb.size)
      replace hk1 := blk_ext hk1 hC
      replace hk2 := blk_ext hk2 hC
      replace hk4 := blk_ext hk4 hC
      exact Runs.does (r_extract (congrArg some h8) (i := 0) rfl) ⟨Below.refl _ _, rfl, nofr rfl⟩
    refine ⟨fun S wu10 hC hS hd hi => ?_, ?_⟩
    · skip
      replace hC : Below w7.heap.size w7 wu10 := hC
      refine uv_plain (C := (fun _ wq => Below w7.heap.size w7 wq)) (hKP 10 S wu10 (by decide)) (fun _ h1 h2 => Below.trans h1 (Below.mono h2 (Below.size h1))) hC hS ?_
      have h8 := hS.post 8 (hd 8 (by decide))
      replace h8 : V 8 = (.tuple #[(.agg #[(.int .u8 ((readT op (rdF C (plP at_ vv n0 ln).1 n0)).1)), (.int .u64 (((readT op (rdF C (plP at_ vv n0 ln).1 n0)).2.1 : Nat) : Int))]), (.bool (readT op (rdF C (plP at_ vv n0 ln).1 n0)).2.2)]) := h8
      replace hb := hb.trans (hC.mono hb.size)
      replace hk1 := blk_ext hk1 hC
      replace hk2 := blk_ext hk2 hC
      replace hk4 := blk_ext hk4 hC
      exact Runs.does (r_extract (congrArg some h8) (i := 1) rfl) ⟨Below.refl _ _, rfl, nofr rfl⟩
    refine ⟨fun S wu11 hC hS hd hi => ?_, ?_⟩
    · skip
      replace hC : Below w7.heap.size w7 wu11 := hC
      refine uv_plain (C := (fun _ wq => Below w7.heap.size w7 wq)) (hKP 11 S wu11 (by decide)) (fun _ h1 h2 => Below.trans h1 (Below.mono h2 (Below.size h1))) hC hS ?_
      replace hb := hb.trans (hC.mono hb.size)
      replace hk1 := blk_ext hk1 hC
      replace hk2 := blk_ext hk2 hC
      replace hk4 := blk_ext hk4 hC
      refine Does.mono (d_alloc (z := (.agg #[(.int .u8 (0 : Int)), (.int .u64 (0 : Int))])) (cs := #[(.int .u8 (0 : Int)), (.int .u64 (0 : Int))]) (by kernel_rfl) rfl) ?_
      rintro _ w' ⟨b, rfl, hF⟩
      exact ⟨hF.2.2, ⟨b, rfl, Nat.le_trans hC.size hF.1, fun _ => hF.2.1, fun hs => by rcases hs with e | hs; exact absurd e (by decide); exact absurd (hS.down 12 hs 11 (by decide)) hi⟩, isfr rfl hF.1 (blk_lt hF.2.1)⟩
    refine ⟨fun S wu12 hC hS hd hi => ?_, ?_⟩
    · skip
      replace hC : Below w7.heap.size w7 wu12 := hC
      have h0 := hS.post 0 (hd 0 (by decide))
      replace h0 : V 0 = (.pointer (some ⟨b2, 3, none⟩)) := h0
      have h1 := hS.post 1 (hd 1 (by decide))
      replace h1 : V 1 = (.int .u8 ((op : Nat) : Int)) := h1
      have h2 := hS.post 2 (hd 2 (by decide))
      replace h2 : V 2 = (.int .i64 ((op : Nat) : Int)) := h2
      have h3 := hS.post 3 (hd 3 (by decide))
      replace h3 : V 3 = (.agg #[(.int .i64 ((ln : Nat) : Int)), (.int .i64 mo), (.slice ca C.length cc)]) := h3
      have h4 := hS.post 4 (hd 4 (by decide))
      replace h4 : V 4 = (.int .u64 (((plP at_ vv n0 ln).1 : Nat) : Int)) := h4
      have h5 := hS.post 5 (hd 5 (by decide))
      replace h5 : V 5 = (.int .i64 ((n0 : Nat) : Int)) := h5
      have h6 := hS.post 6 (hd 6 (by decide))
      replace h6 : V 6 = (.string (strOfNums (rdF C (plP at_ vv n0 ln).1 n0))) := h6
      have h7 := hS.post 7 (hd 7 (by decide))
      replace h7 : V 7 = (.tuple #[(.agg #[(.int .u8 ((readT op (rdF C (plP at_ vv n0 ln).1 n0)).1)), (.int .u64 (((readT op (rdF C (plP at_ vv n0 ln).1 n0)).2.1 : Nat) : Int))]), (.bool (readT op (rdF C (plP at_ vv n0 ln).1 n0)).2.2)]) := h7
      have h8 := hS.post 8 (hd 8 (by decide))
      replace h8 : V 8 = (.tuple #[(.agg #[(.int .u8 ((readT op (rdF C (plP at_ vv n0 ln).1 n0)).1)), (.int .u64 (((readT op (rdF C (plP at_ vv n0 ln).1 n0)).2.1 : Nat) : Int))]), (.bool (readT op (rdF C (plP at_ vv n0 ln).1 n0)).2.2)]) := h8
      have h9 := hS.post 9 (hd 9 (by decide))
      replace h9 : V 9 = (.agg #[(.int .u8 ((readT op (rdF C (plP at_ vv n0 ln).1 n0)).1)), (.int .u64 (((readT op (rdF C (plP at_ vv n0 ln).1 n0)).2.1 : Nat) : Int))]) := h9
      have h11 := hS.post 11 (hd 11 (by decide))
      obtain ⟨b4, h11, hle4, hk5z, hk5⟩ := h11
      replace hk5 := hk5z hi
      replace hb := hb.trans (hC.mono hb.size)
      replace hk1 := blk_ext hk1 hC
      replace hk2 := blk_ext hk2 hC
      replace hk4 := blk_ext hk4 hC
      refine Does.mono (R := fun _ wz => Wrote wu12 b4 #[(.int .u8 ((readT op (rdF C (plP at_ vv n0 ln).1 n0)).1)), (.int .u64 (((readT op (rdF C (plP at_ vv n0 ln).1 n0)).2.1 : Nat) : Int))] 86 wz) (d_storeK (T := 86) (v := (.agg #[(.int .u8 ((readT op (rdF C (plP at_ vv n0 ln).1 n0)).1)), (.int .u64 (((readT op (rdF C (plP at_ vv n0 ln).1 n0)).2.1 : Nat) : Int))])) (cs := #[(.int .u8 (0 : Int)), (.int .u64 (0 : Int))]) (cs' := #[(.int .u8 ((readT op (rdF C (plP at_ vv n0 ln).1 n0)).1)), (.int .u64 (((readT op (rdF C (plP at_ vv n0 ln).1 n0)).2.1 : Nat) : Int))]) (congrArg some h11) (congrArg some h9) (by kernel_rfl) (by kernel_rfl) hk5 (by kernel_rfl) (by kernel_rfl)) ?_
      rintro _ wz ⟨hY, hgY⟩
      refine ⟨⟨hC.trans (grown_below hgY hC.size hle4), fun j hj => ?_, hgY.size⟩, trivial, nofr rfl⟩
      match j with
      | 0 =>
        exact hS.post 0 hj
      | 1 =>
        exact hS.post 1 hj
      | 2 =>
        exact hS.post 2 hj
      | 3 =>
        exact hS.post 3 hj
      | 4 =>
        exact hS.post 4 hj
      | 5 =>
        exact hS.post 5 hj
      | 6 =>
        exact hS.post 6 hj
      | 7 =>
        exact hS.post 7 hj
      | 8 =>
        exact hS.post 8 hj
      | 9 =>
        exact hS.post 9 hj
      | 10 =>
        exact hS.post 10 hj
      | 11 =>
        exact ⟨b4, h11, hle4, fun hn => absurd (.inl rfl) hn, fun _ => hY⟩
      | 12 =>
        trivial
      | _ + 13 => trivial
    trivial
  · skip
    clear hf fa; intro V S w8 fa hall he7 hp hnb hf
    have hv0 := postsHold_at hp 0 rfl
    replace hv0 : V 0 = (.pointer (some ⟨b2, 3, none⟩)) := hv0
    have hv1 := postsHold_at hp 1 rfl
    replace hv1 : V 1 = (.int .u8 ((op : Nat) : Int)) := hv1
    have hv2 := postsHold_at hp 2 rfl
    replace hv2 : V 2 = (.int .i64 ((op : Nat) : Int)) := hv2
    have hv3 := postsHold_at hp 3 rfl
    replace hv3 : V 3 = (.agg #[(.int .i64 ((ln : Nat) : Int)), (.int .i64 mo), (.slice ca C.length cc)]) := hv3
    have hv4 := postsHold_at hp 4 rfl
    replace hv4 : V 4 = (.int .u64 (((plP at_ vv n0 ln).1 : Nat) : Int)) := hv4
    have hv5 := postsHold_at hp 5 rfl
    replace hv5 : V 5 = (.int .i64 ((n0 : Nat) : Int)) := hv5
    have hv6 := postsHold_at hp 6 rfl
    replace hv6 : V 6 = (.string (strOfNums (rdF C (plP at_ vv n0 ln).1 n0))) := hv6
    have hv7 := postsHold_at hp 7 rfl
    replace hv7 : V 7 = (.tuple #[(.agg #[(.int .u8 ((readT op (rdF C (plP at_ vv n0 ln).1 n0)).1)), (.int .u64 (((readT op (rdF C (plP at_ vv n0 ln).1 n0)).2.1 : Nat) : Int))]), (.bool (readT op (rdF C (plP at_ vv n0 ln).1 n0)).2.2)]) := hv7
    have hv8 := postsHold_at hp 8 rfl
    replace hv8 : V 8 = (.tuple #[(.agg #[(.int .u8 ((readT op (rdF C (plP at_ vv n0 ln).1 n0)).1)), (.int .u64 (((readT op (rdF C (plP at_ vv n0 ln).1 n0)).2.1 : Nat) : Int))]), (.bool (readT op (rdF C (plP at_ vv n0 ln).1 n0)).2.2)]) := hv8
    have hv9 := postsHold_at hp 9 rfl
    replace hv9 : V 9 = (.agg #[(.int .u8 ((readT op (rdF C (plP at_ vv n0 ln).1 n0)).1)), (.int .u64 (((readT op (rdF C (plP at_ vv n0 ln).1 n0)).2.1 : Nat) : Int))]) := hv9
    have hv10 := postsHold_at hp 10 rfl
    replace hv10 : V 10 = (.bool (readT op (rdF C (plP at_ vv n0 ln).1 n0)).2.2) := hv10
    have hv11 := postsHold_at hp 11 rfl
    obtain ⟨b4, hv11, hle4, hk5z, hk5⟩ := hv11
    have hBb4 : w.heap.size ≤ b4 := Nat.le_trans hb.size hle4
    replace hk5 := hk5 (hall 12 (show 12 < 13 by decide))
    clear hk5z
    simp only [List.take_succ_cons, List.take_zero, insAll, ins, hv0, hv1, hv2, hv3, hv4, hv5, hv6, hv7, hv8, hv9, hv10, hv11] at hf
    have : b1 < b4 := Nat.lt_of_lt_of_le (blk_lt hk1) hle4
    have : b2 < b4 := Nat.lt_of_lt_of_le (blk_lt hk2) hle4
    have : b3 < b4 := Nat.lt_of_lt_of_le (blk_lt hk4) hle4
    clear hp hnb hall hv0 hv1 hv2 hv3 hv4 hv5 hv6 hv7 hv8 hv9 hv10 hv11
    replace hk1 := blk_ext hk1 he7
    replace hk2 := blk_ext hk2 he7
    replace hk4 := blk_ext hk4 he7
    replace hb := hb.trans (Below.mono he7 hb.size)
    simp only [List.drop_succ_cons, List.drop_zero]
    refine sqv hf (r_assign rfl) rfl rfl rfl ?_; clear hf fa; intro fa hf
    apply wpList_nil
    (try simp only [Exit.then, Exit.inBlock, ↓reduceIte, Nat.reduceEqDiff])
    refine hK9 _ _ ?_
    refine wp_seq_k (fun K10 hK10 => ?_)
    refine wp_region_lit ?_
    refine sqv hf (r_move rfl) rfl rfl rfl ?_; clear hf fa; intro fa hf
    refine sqv hf (Runs.veq (r_eq rfl rfl) (congrArg Value.bool (show _ = true from by decide))) rfl rfl rfl ?_; clear hf fa; intro fa hf
    refine sqv hf (r_move rfl) rfl rfl rfl ?_; clear hf fa; intro fa hf
    refine sqgd (act := true) (g := 2) (want := true) (ag := true) (c := true) hf (by rfl) (by rfl) rfl (fun _ =>  Runs.does (R := fun vq wq => vq = (.agg #[(.int .u8 ((readT op (rdF C (plP at_ vv n0 ln).1 n0)).1)), (.int .u64 (((readT op (rdF C (plP at_ vv n0 ln).1 n0)).2.1 : Nat) : Int))]) ∧ w8 = wq) (r_loadA (cs := [(.int .u8 ((readT op (rdF C (plP at_ vv n0 ln).1 n0)).1)), (.int .u64 (((readT op (rdF C (plP at_ vv n0 ln).1 n0)).2.1 : Nat) : Int))]) rfl Try.underlying86 rfl (by kernel_rfl) (cellsAt_blk hk4)) ⟨rfl, rfl⟩) (fun h => by cases h) rfl ?_; clear hf fa; rintro fa _ _ ⟨rfl, rfl⟩ hf
    change Fr _ _ ((86, (.agg #[(.int .u8 ((readT op (rdF C (plP at_ vv n0 ln).1 n0)).1)), (.int .u64 (((readT op (rdF C (plP at_ vv n0 ln).1 n0)).2.1 : Nat) : Int))])) :: _) at hf
    refine sqgd (act := true) (g := 2) (want := true) (ag := true) (c := true) hf (by rfl) (by rfl) rfl (fun _ =>  Runs.does (R := fun vq wq => vq = (.agg #[(.int .u8 ((readT op (rdF C (plP at_ vv n0 ln).1 n0)).1)), (.int .u64 (((readT op (rdF C (plP at_ vv n0 ln).1 n0)).2.1 : Nat) : Int))]) ∧ w8 = wq) (r_loadA (cs := [(.int .u8 ((readT op (rdF C (plP at_ vv n0 ln).1 n0)).1)), (.int .u64 (((readT op (rdF C (plP at_ vv n0 ln).1 n0)).2.1 : Nat) : Int))]) rfl Try.underlying86 rfl (by kernel_rfl) (cellsAt_blk hk5)) ⟨rfl, rfl⟩) (fun h => by cases h) rfl ?_; clear hf fa; rintro fa _ _ ⟨rfl, rfl⟩ hf
    change Fr _ _ ((87, (.agg #[(.int .u8 ((readT op (rdF C (plP at_ vv n0 ln).1 n0)).1)), (.int .u64 (((readT op (rdF C (plP at_ vv n0 ln).1 n0)).2.1 : Nat) : Int))])) :: _) at hf
    refine sqgd (act := true) (g := 2) (want := true) (ag := true) (c := true) hf (by rfl) (by rfl) rfl (fun _ =>  Runs.does (R := fun vq wq => vq = (.bool true) ∧ w8 = wq) (Runs.veq (r_aeq (k := 5) rfl rfl (by kernel_rfl) (eqt_struct (xs := #[(.int .u8 ((readT op (rdF C (plP at_ vv n0 ln).1 n0)).1)), (.int .u64 (((readT op (rdF C (plP at_ vv n0 ln).1 n0)).2.1 : Nat) : Int))]) (ys := #[(.int .u8 ((readT op (rdF C (plP at_ vv n0 ln).1 n0)).1)), (.int .u64 (((readT op (rdF C (plP at_ vv n0 ln).1 n0)).2.1 : Nat) : Int))]) Try.underlying86 (by kernel_rfl) (eqf_cons (by kernel_rfl) (fun _ => by kernel_rfl) (fun _ => by kernel_rfl) (eqt_int (kk := .u8) (a := ((readT op (rdF C (plP at_ vv n0 ln).1 n0)).1)) (b := ((readT op (rdF C (plP at_ vv n0 ln).1 n0)).1)) Try.underlying5) (eqf_one (by kernel_rfl) (fun _ => by kernel_rfl) (fun _ => by kernel_rfl) (eqt_int (kk := .u64) (a := (((readT op (rdF C (plP at_ vv n0 ln).1 n0)).2.1 : Nat) : Int)) (b := (((readT op (rdF C (plP at_ vv n0 ln).1 n0)).2.1 : Nat) : Int)) Try.underlying26)))) rfl) (congrArg Value.bool (show _ = true from (by simp)))) ⟨rfl, rfl⟩) (fun h => by cases h) rfl ?_; clear hf fa; rintro fa _ _ ⟨rfl, rfl⟩ hf
    change Fr _ _ ((88, (.bool true)) :: _) at hf
    refine sqv hf (r_pick (b := true) rfl rfl rfl rfl) rfl rfl rfl ?_; clear hf fa; intro fa hf
    refine sqv hf (r_assign rfl) rfl rfl rfl ?_; clear hf fa; intro fa hf
    apply wpList_nil
    (try simp only [Exit.then, Exit.inBlock, ↓reduceIte, Nat.reduceEqDiff])
    refine hK10 _ _ ?_
    refine wp_ret ?_
    (try simp only [Exit.then, Exit.inBlock])
    refine ret1 hf rfl rfl ?_
    exact ⟨rfl, hb⟩

set_option maxHeartbeats 1000000 in
set_option maxRecDepth 100000 in
theorem places_A (B p : Nat) (ln : Nat) (mo : Int) (ca : Option Addr) (C : List MCe) (cc : Nat) (w : World) (hSt : St26 B w p ln mo C) (hCd : RdS 2 vCe w ca C) (hCl : C.length ≤ 1000000) (kd nn : Int) (at_ op vv ww : Nat) (da : Option Addr) (dn dc : Nat) (ha0 : at_ < 18446744073709551616) (hop : op < 256) (hv0 : vv < 18446744073709551616) (hw0 : ww < 18446744073709551616) (n0 : Nat) (hn0 : (accT op).1 = ((n0 : Nat) : Int)) (hn8 : n0 ≤ 8) (hwy : (writeT op ww).2 = false) : Calls Try.prog 85 #[(.pointer (some ⟨p, 0, none⟩)), (.agg #[(.int .i64 ((ln : Nat) : Int)), (.int .i64 mo), (.slice ca C.length cc)]), (.agg #[(.int .i64 kd), (.int .u64 ((at_ : Nat) : Int)), (.int .i64 nn), (.int .u8 ((op : Nat) : Int)), (.int .u64 ((vv : Nat) : Int)), (.int .u64 ((ww : Nat) : Int)), (.slice da dn dc)])] w fun e w' => e = .returned (.bool true) ∧ Below w.heap.size w w' := by
  obtain ⟨hln, hCr, _⟩ := hSt.nums
  have hC2 : ∀ c ∈ C, 0 ≤ c.2 ∧ c.2 < 256 := fun c hc => (hCr c hc).2
  refine sx_enter (L := [(0, (.pointer (some ⟨p, 0, none⟩))), (1, (.agg #[(.int .i64 ((ln : Nat) : Int)), (.int .i64 mo), (.slice ca C.length cc)])), (2, (.agg #[(.int .i64 kd), (.int .u64 ((at_ : Nat) : Int)), (.int .i64 nn), (.int .u8 ((op : Nat) : Int)), (.int .u64 ((vv : Nat) : Int)), (.int .u64 ((ww : Nat) : Int)), (.slice da dn dc)]))]) Try.func85 rfl rfl rfl rfl (fun fa hf => ?_)
  have hb : Below w.heap.size w w := Below.refl _ _
  refine wp_seq_k (fun K1 hK1 => ?_)
  refine wp_region_lit ?_
  refine sqdt hf (d_box (cs := #[(.int .i64 ((ln : Nat) : Int)), (.int .i64 mo), (.slice ca C.length cc)]) rfl rfl) rfl rfl rfl ?_; clear hf fa; rintro fa _ w1 ⟨b1, rfl, hle1, hk1, he1⟩ hf
  have hBb1 : w.heap.size ≤ b1 := Nat.le_trans hb.size hle1
  replace hb := hb.trans (Below.mono he1 hb.size)
  refine sqdt hf (d_box (cs := #[(.int .i64 kd), (.int .u64 ((at_ : Nat) : Int)), (.int .i64 nn), (.int .u8 ((op : Nat) : Int)), (.int .u64 ((vv : Nat) : Int)), (.int .u64 ((ww : Nat) : Int)), (.slice da dn dc)]) rfl rfl) rfl rfl rfl ?_; clear hf fa; rintro fa _ w2 ⟨b2, rfl, hle2, hk2, he2⟩ hf
  have hBb2 : w.heap.size ≤ b2 := Nat.le_trans hb.size hle2
  have : b1 < b2 := Nat.lt_of_lt_of_le (blk_lt hk1) hle2
  replace hk1 := blk_ext hk1 he2
  replace hb := hb.trans (Below.mono he2 hb.size)
  refine sqv hf (r_assign rfl) rfl rfl rfl ?_; clear hf fa; intro fa hf
  apply wpList_nil
  (try simp only [Exit.then, Exit.inBlock, ↓reduceIte, Nat.reduceEqDiff])
  refine hK1 _ _ ?_
  refine wp_seq_k (fun K2 hK2 => ?_)
  refine wp_region_lit ?_
  refine sqv hf (r_move rfl) rfl rfl rfl ?_; clear hf fa; intro fa hf
  refine sqv hf (r_fa rfl Try.underlying113 (f := 3) (q := 3) rfl (by kernel_rfl) rfl) rfl rfl rfl ?_; clear hf fa; intro fa hf
  refine sqv hf (r_load (v := (.int .u8 ((op : Nat) : Int))) rfl Try.underlying5 rfl (cell_blk hk2 rfl)) rfl rfl rfl ?_; clear hf fa; intro fa hf
  refine sqv hf (r_fa rfl Try.underlying113 (f := 1) (q := 1) rfl (by kernel_rfl) rfl) rfl rfl rfl ?_; clear hf fa; intro fa hf
  refine sqv hf (r_load (v := (.int .u64 ((at_ : Nat) : Int))) rfl Try.underlying26 rfl (cell_blk hk2 rfl)) rfl rfl rfl ?_; clear hf fa; intro fa hf
  refine sqv hf (r_fa rfl Try.underlying113 (f := 4) (q := 4) rfl (by kernel_rfl) rfl) rfl rfl rfl ?_; clear hf fa; intro fa hf
  refine sqv hf (r_load (v := (.int .u64 ((vv : Nat) : Int))) rfl Try.underlying26 rfl (cell_blk hk2 rfl)) rfl rfl rfl ?_; clear hf fa; intro fa hf
  refine sqv hf (r_fa rfl Try.underlying113 (f := 5) (q := 5) rfl (by kernel_rfl) rfl) rfl rfl rfl ?_; clear hf fa; intro fa hf
  refine sqv hf (r_load (v := (.int .u64 ((ww : Nat) : Int))) rfl Try.underlying26 rfl (cell_blk hk2 rfl)) rfl rfl rfl ?_; clear hf fa; intro fa hf
  refine sqdt hf (d_callX (vs := [(.pointer (some ⟨p, 0, none⟩)), (.int .u8 ((op : Nat) : Int)), (.int .u64 ((at_ : Nat) : Int)), (.int .u64 ((vv : Nat) : Int)), (.int .u64 ((ww : Nat) : Int))]) rfl Try.func92 (by kernel_rfl) (by kernel_rfl) (place_A (hSt.ext hb) hop ha0 hv0 hw0 hwy)) rfl rfl rfl ?_; clear hf fa; rintro fa _ w3 ⟨va, vc, rfl, hrw, he3⟩ hf
  replace hrw := Row.rebase hrw hb.size
  have hcw := Row.caps hrw
  replace hk1 := blk_ext hk1 he3
  replace hk2 := blk_ext hk2 he3
  replace hb := hb.trans (Below.mono he3 hb.size)
  clear hrw hcw
  refine sqv hf (r_move rfl) rfl rfl rfl ?_; clear hf fa; intro fa hf
  refine sqv hf (r_extract rfl (i := 0) rfl) rfl rfl rfl ?_; clear hf fa; intro fa hf
  refine sqv hf (r_extract rfl (i := 1) rfl) rfl rfl rfl ?_; clear hf fa; intro fa hf
  refine sqv hf (r_extract rfl (i := 2) rfl) rfl rfl rfl ?_; clear hf fa; intro fa hf
  refine sqv hf (r_assign rfl) rfl rfl rfl ?_; clear hf fa; intro fa hf
  refine sqv hf (r_assign rfl) rfl rfl rfl ?_; clear hf fa; intro fa hf
  refine sqv hf (r_assign rfl) rfl rfl rfl ?_; clear hf fa; intro fa hf
  apply wpList_nil
  (try simp only [Exit.then, Exit.inBlock, ↓reduceIte, Nat.reduceEqDiff])
  refine hK2 _ _ ?_
  refine wp_seq_k (fun K3 hK3 => ?_)
  refine wp_region_lit ?_
  refine sqv hf (r_fa rfl Try.underlying113 (f := 3) (q := 3) rfl (by kernel_rfl) rfl) rfl rfl rfl ?_; clear hf fa; intro fa hf
  refine sqv hf (r_load (v := (.int .u8 ((op : Nat) : Int))) rfl Try.underlying5 rfl (cell_blk hk2 rfl)) rfl rfl rfl ?_; clear hf fa; intro fa hf
  refine sqv hf (r_conv (C := ((op : Nat) : Int)) rfl Try.underlying5 Try.underlying3 (by rw [IntKind.wrap_i64]; omega)) rfl rfl rfl ?_; clear hf fa; intro fa hf
  refine sqdt hf (d_callB (vs := [(.int .i64 ((op : Nat) : Int))]) rfl Try.func47 (by kernel_rfl) (by kernel_rfl) (racc_to _ hop hn0)) rfl rfl rfl ?_; clear hf fa; rintro fa _ w4 ⟨rfl, he4⟩ hf
  replace hk1 := blk_ext hk1 he4
  replace hk2 := blk_ext hk2 he4
  replace hb := hb.trans (Below.mono he4 hb.size)
  refine sqv hf (r_move rfl) rfl rfl rfl ?_; clear hf fa; intro fa hf
  refine sqv hf (r_extract rfl (i := 0) rfl) rfl rfl rfl ?_; clear hf fa; intro fa hf
  refine sqv hf (r_extract rfl (i := 1) rfl) rfl rfl rfl ?_; clear hf fa; intro fa hf
  refine sqv hf (r_extract rfl (i := 2) rfl) rfl rfl rfl ?_; clear hf fa; intro fa hf
  refine sqv hf (r_extract rfl (i := 3) rfl) rfl rfl rfl ?_; clear hf fa; intro fa hf
  refine sqv hf (r_extract rfl (i := 4) rfl) rfl rfl rfl ?_; clear hf fa; intro fa hf
  refine sqv hf (r_assign rfl) rfl rfl rfl ?_; clear hf fa; intro fa hf
  refine sqv hf (r_assign rfl) rfl rfl rfl ?_; clear hf fa; intro fa hf
  refine sqv hf (r_assign rfl) rfl rfl rfl ?_; clear hf fa; intro fa hf
  refine sqv hf (r_assign rfl) rfl rfl rfl ?_; clear hf fa; intro fa hf
  refine sqv hf (r_assign rfl) rfl rfl rfl ?_; clear hf fa; intro fa hf
  apply wpList_nil
  (try simp only [Exit.then, Exit.inBlock, ↓reduceIte, Nat.reduceEqDiff])
  refine hK3 _ _ ?_
  refine wp_seq_k (fun K4 hK4 => ?_)
  refine wp_region_lit ?_
  refine sqv hf (r_fa rfl Try.underlying113 (f := 1) (q := 1) rfl (by kernel_rfl) rfl) rfl rfl rfl ?_; clear hf fa; intro fa hf
  refine sqv hf (r_load (v := (.int .u64 ((at_ : Nat) : Int))) rfl Try.underlying26 rfl (cell_blk hk2 rfl)) rfl rfl rfl ?_; clear hf fa; intro fa hf
  refine sqv hf (r_fa rfl Try.underlying113 (f := 4) (q := 4) rfl (by kernel_rfl) rfl) rfl rfl rfl ?_; clear hf fa; intro fa hf
  refine sqv hf (r_load (v := (.int .u64 ((vv : Nat) : Int))) rfl Try.underlying26 rfl (cell_blk hk2 rfl)) rfl rfl rfl ?_; clear hf fa; intro fa hf
  refine sqv hf (r_move rfl) rfl rfl rfl ?_; clear hf fa; intro fa hf
  refine sqv hf (r_fa rfl Try.underlying111 (f := 0) (q := 0) rfl (by kernel_rfl) rfl) rfl rfl rfl ?_; clear hf fa; intro fa hf
  refine sqv hf (r_load (v := (.int .i64 ((ln : Nat) : Int))) rfl Try.underlying3 rfl (cell_blk hk1 rfl)) rfl rfl rfl ?_; clear hf fa; intro fa hf
  refine sqv hf (r_conv (C := ((ln : Nat) : Int)) rfl Try.underlying3 Try.underlying26 (by rw [IntKind.wrap_u64]; omega)) rfl rfl rfl ?_; clear hf fa; intro fa hf
  refine sqdt hf (d_callB (vs := [(.int .u64 ((at_ : Nat) : Int)), (.int .u64 ((vv : Nat) : Int)), (.int .i64 ((n0 : Nat) : Int)), (.int .u64 ((ln : Nat) : Int))]) rfl Try.func91 (by kernel_rfl) (by kernel_rfl) (rplace_to _ ha0 hv0 (by omega) hln rfl)) rfl rfl rfl ?_; clear hf fa; rintro fa _ w5 ⟨rfl, he5⟩ hf
  replace hk1 := blk_ext hk1 he5
  replace hk2 := blk_ext hk2 he5
  replace hb := hb.trans (Below.mono he5 hb.size)
  refine sqv hf (r_move rfl) rfl rfl rfl ?_; clear hf fa; intro fa hf
  refine sqv hf (r_extract rfl (i := 0) rfl) rfl rfl rfl ?_; clear hf fa; intro fa hf
  refine sqv hf (r_extract rfl (i := 1) rfl) rfl rfl rfl ?_; clear hf fa; intro fa hf
  refine sqv hf (r_assign rfl) rfl rfl rfl ?_; clear hf fa; intro fa hf
  refine sqv hf (r_assign rfl) rfl rfl rfl ?_; clear hf fa; intro fa hf
  apply wpList_nil
  (try simp only [Exit.then, Exit.inBlock, ↓reduceIte, Nat.reduceEqDiff])
  refine hK4 _ _ ?_
  refine wp_seq_k (fun K5 hK5 => ?_)
  refine wp_seq_k (fun K6 hK6 => ?_)
  refine wp_region_lit ?_
  refine sqv hf (r_move rfl) rfl rfl rfl ?_; clear hf fa; intro fa hf
  refine sqv hf (r_not rfl) rfl rfl rfl ?_; clear hf fa; intro fa hf
  refine sqv hf (r_move rfl) rfl rfl rfl ?_; clear hf fa; intro fa hf
  refine sqgF (act := (!(!(accT op).2.2.2.2))) (ag := true) (c := (!(accT op).2.2.2.2)) (v := (.bool (accT op).2.2.1)) hf rfl rfl rfl (fun hact => (r_move rfl)) rfl rfl ?_; clear hf fa; intro fa hf
  refine sqgF (act := (!(!(accT op).2.2.2.2))) (ag := true) (c := (!(accT op).2.2.2.2)) (v := (.bool (!(accT op).2.2.1))) hf rfl rfl rfl (fun hact => (r_not (gb_ev hact rfl))) rfl rfl ?_; clear hf fa; intro fa hf
  refine sqv hf (Runs.veq (r_pickO (b := (!(accT op).2.2.2.2)) (e := (!(accT op).2.2.1)) rfl rfl rfl) (congrArg Value.bool (show _ = true from (by rw [writeT_snd] at hwy; revert hwy; cases (accT op).2.2.2.2 <;> cases (accT op).2.2.1 <;> simp)))) rfl rfl rfl ?_; clear hf fa; intro fa hf
  apply wpList_nil
  (try simp only [Exit.then, Exit.inBlock, ↓reduceIte, Nat.reduceEqDiff])
  refine hK6 _ _ ?_
  refine wp_cond_true (hf.ev rfl) ?_
  refine wp_seq_k (fun K7 hK7 => ?_)
  refine wp_region_lit ?_
  refine sqv hf (r_move rfl) rfl rfl rfl ?_; clear hf fa; intro fa hf
  refine sqv hf (Runs.veq (r_eq rfl rfl) (congrArg Value.bool (show _ = true from by decide))) rfl rfl rfl ?_; clear hf fa; intro fa hf
  refine sqv hf (r_move rfl) rfl rfl rfl ?_; clear hf fa; intro fa hf
  refine sqgd (act := true) (g := 2) (want := true) (ag := true) (c := true) hf (by rfl) (by rfl) rfl (fun _ =>  Runs.does (R := fun vq wq => vq = (.slice va 0 vc) ∧ w5 = wq) (r_move rfl) ⟨rfl, rfl⟩) (fun h => by cases h) rfl ?_; clear hf fa; rintro fa _ _ ⟨rfl, rfl⟩ hf
  change Fr _ _ ((62, (.slice va 0 vc)) :: _) at hf
  refine sqgd (act := true) (g := 2) (want := true) (ag := true) (c := true) hf (by rfl) (by rfl) rfl (fun _ =>  Runs.does (R := fun vq wq => vq = (.int .i64 (0 : Int)) ∧ w5 = wq) (r_lensl rfl Try.underlying84) ⟨rfl, rfl⟩) (fun h => by cases h) rfl ?_; clear hf fa; rintro fa _ _ ⟨rfl, rfl⟩ hf
  change Fr _ _ ((63, (.int .i64 (0 : Int))) :: _) at hf
  refine sqgd (act := true) (g := 2) (want := true) (ag := true) (c := true) hf (by rfl) (by rfl) rfl (fun _ =>  Runs.does (R := fun vq wq => vq = (.bool true) ∧ w5 = wq) (Runs.veq (r_eq rfl rfl) (congrArg Value.bool (show _ = true from by decide))) ⟨rfl, rfl⟩) (fun h => by cases h) rfl ?_; clear hf fa; rintro fa _ _ ⟨rfl, rfl⟩ hf
  change Fr _ _ ((64, (.bool true)) :: _) at hf
  refine sqv hf (r_pick (b := true) rfl rfl rfl rfl) rfl rfl rfl ?_; clear hf fa; intro fa hf
  refine sqv hf (r_move rfl) rfl rfl rfl ?_; clear hf fa; intro fa hf
  refine sqgd (act := true) (g := 7) (want := true) (ag := true) (c := true) hf (by rfl) (by rfl) rfl (fun _ =>  Runs.does (R := fun vq wq => vq = (.int .i64 (9 : Int)) ∧ w5 = wq) (r_move rfl) ⟨rfl, rfl⟩) (fun h => by cases h) rfl ?_; clear hf fa; rintro fa _ _ ⟨rfl, rfl⟩ hf
  change Fr _ _ ((67, (.int .i64 (9 : Int))) :: _) at hf
  refine sqgd (act := true) (g := 7) (want := true) (ag := true) (c := true) hf (by rfl) (by rfl) rfl (fun _ =>  Runs.does (R := fun vq wq => vq = (.bool true) ∧ w5 = wq) (Runs.veq (r_eq rfl rfl) (congrArg Value.bool (show _ = true from by decide))) ⟨rfl, rfl⟩) (fun h => by cases h) rfl ?_; clear hf fa; rintro fa _ _ ⟨rfl, rfl⟩ hf
  change Fr _ _ ((68, (.bool true)) :: _) at hf
  refine sqv hf (r_pick (b := true) rfl rfl rfl rfl) rfl rfl rfl ?_; clear hf fa; intro fa hf
  refine sqv hf (r_assign rfl) rfl rfl rfl ?_; clear hf fa; intro fa hf
  apply wpList_nil
  (try simp only [Exit.then, Exit.inBlock, ↓reduceIte, Nat.reduceEqDiff])
  refine hK7 _ _ ?_
  refine wp_ret ?_
  (try simp only [Exit.then, Exit.inBlock])
  refine ret1 hf rfl rfl ?_
  exact ⟨rfl, hb⟩

theorem place_B2 {B p ln : Nat} {w : World} {mo : Int} {C : List MCe} (hS : St26 B w p ln mo C) {op b o v n0 : Nat} (hop : op < 256) (hb0 : b < 18446744073709551616) (ho0 : o < 18446744073709551616) (hv0 : v < 18446744073709551616) (h : (writeT op v).2 = true) (hn : (writeT op v).1.length = n0) (hi : (plP b o n0 ln).2 = false) : Calls Try.prog 92 #[.pointer (some ⟨p, 0, none⟩), .int .u8 ((op : Nat) : Int), .int .u64 ((b : Nat) : Int), .int .u64 ((o : Nat) : Int), .int .u64 ((v : Nat) : Int)] w fun e w' => ∃ x, e = .returned x ∧ ∃ va vc, x = .tuple #[.int .u64 0, .slice va ([] : List Int).length vc, .int .i64 63] ∧ Row 1 (vInt .u8) 5 w.heap.size w' (.slice va ([] : List Int).length vc) [] ∧ Below w.heap.size w w' := by
  subst hn
  exact place_B hS hop hb0 ho0 hv0 h hi
theorem place_C2 {B p ln : Nat} {w : World} {mo : Int} {C : List MCe} (hS : St26 B w p ln mo C) {op b o v n0 : Nat} (hop : op < 256) (hb0 : b < 18446744073709551616) (ho0 : o < 18446744073709551616) (hv0 : v < 18446744073709551616) (h : (writeT op v).2 = true) (hn : (writeT op v).1.length = n0) (hi : (plP b o n0 ln).2 = true) : Calls Try.prog 92 #[.pointer (some ⟨p, 0, none⟩), .int .u8 ((op : Nat) : Int), .int .u64 ((b : Nat) : Int), .int .u64 ((o : Nat) : Int), .int .u64 ((v : Nat) : Int)] w fun e w' => ∃ x, e = .returned x ∧ ∃ va vc, x = .tuple #[.int .u64 (((plP b o n0 ln).1 : Nat) : Int), .slice va (writeT op v).1.length vc, .int .i64 0] ∧ Row 1 (vInt .u8) 5 w.heap.size w' (.slice va (writeT op v).1.length vc) (writeT op v).1 ∧ Below w.heap.size w w' := by
  subst hn
  exact place_C hS hop hb0 ho0 hv0 h hi

set_option maxHeartbeats 1000000 in
set_option maxRecDepth 100000 in
theorem places_B (B p : Nat) (ln : Nat) (mo : Int) (ca : Option Addr) (C : List MCe) (cc : Nat) (w : World) (hSt : St26 B w p ln mo C) (hCd : RdS 2 vCe w ca C) (hCl : C.length ≤ 1000000) (kd nn : Int) (at_ op vv ww : Nat) (da : Option Addr) (dn dc : Nat) (ha0 : at_ < 18446744073709551616) (hop : op < 256) (hv0 : vv < 18446744073709551616) (hw0 : ww < 18446744073709551616) (n0 : Nat) (hn0 : (accT op).1 = ((n0 : Nat) : Int)) (hn8 : n0 ≤ 8) (hwy : (writeT op ww).2 = true) (hwn : (writeT op ww).1.length = n0) (hi : (plP at_ vv n0 ln).2 = false) : Calls Try.prog 85 #[(.pointer (some ⟨p, 0, none⟩)), (.agg #[(.int .i64 ((ln : Nat) : Int)), (.int .i64 mo), (.slice ca C.length cc)]), (.agg #[(.int .i64 kd), (.int .u64 ((at_ : Nat) : Int)), (.int .i64 nn), (.int .u8 ((op : Nat) : Int)), (.int .u64 ((vv : Nat) : Int)), (.int .u64 ((ww : Nat) : Int)), (.slice da dn dc)])] w fun e w' => e = .returned (.bool true) ∧ Below w.heap.size w w' := by
  obtain ⟨hln, hCr, _⟩ := hSt.nums
  have hC2 : ∀ c ∈ C, 0 ≤ c.2 ∧ c.2 < 256 := fun c hc => (hCr c hc).2
  refine sx_enter (L := [(0, (.pointer (some ⟨p, 0, none⟩))), (1, (.agg #[(.int .i64 ((ln : Nat) : Int)), (.int .i64 mo), (.slice ca C.length cc)])), (2, (.agg #[(.int .i64 kd), (.int .u64 ((at_ : Nat) : Int)), (.int .i64 nn), (.int .u8 ((op : Nat) : Int)), (.int .u64 ((vv : Nat) : Int)), (.int .u64 ((ww : Nat) : Int)), (.slice da dn dc)]))]) Try.func85 rfl rfl rfl rfl (fun fa hf => ?_)
  have hb : Below w.heap.size w w := Below.refl _ _
  refine wp_seq_k (fun K1 hK1 => ?_)
  refine wp_region_lit ?_
  refine sqdt hf (d_box (cs := #[(.int .i64 ((ln : Nat) : Int)), (.int .i64 mo), (.slice ca C.length cc)]) rfl rfl) rfl rfl rfl ?_; clear hf fa; rintro fa _ w1 ⟨b1, rfl, hle1, hk1, he1⟩ hf
  have hBb1 : w.heap.size ≤ b1 := Nat.le_trans hb.size hle1
  replace hb := hb.trans (Below.mono he1 hb.size)
  refine sqdt hf (d_box (cs := #[(.int .i64 kd), (.int .u64 ((at_ : Nat) : Int)), (.int .i64 nn), (.int .u8 ((op : Nat) : Int)), (.int .u64 ((vv : Nat) : Int)), (.int .u64 ((ww : Nat) : Int)), (.slice da dn dc)]) rfl rfl) rfl rfl rfl ?_; clear hf fa; rintro fa _ w2 ⟨b2, rfl, hle2, hk2, he2⟩ hf
  have hBb2 : w.heap.size ≤ b2 := Nat.le_trans hb.size hle2
  have : b1 < b2 := Nat.lt_of_lt_of_le (blk_lt hk1) hle2
  replace hk1 := blk_ext hk1 he2
  replace hb := hb.trans (Below.mono he2 hb.size)
  refine sqv hf (r_assign rfl) rfl rfl rfl ?_; clear hf fa; intro fa hf
  apply wpList_nil
  (try simp only [Exit.then, Exit.inBlock, ↓reduceIte, Nat.reduceEqDiff])
  refine hK1 _ _ ?_
  refine wp_seq_k (fun K2 hK2 => ?_)
  refine wp_region_lit ?_
  refine sqv hf (r_move rfl) rfl rfl rfl ?_; clear hf fa; intro fa hf
  refine sqv hf (r_fa rfl Try.underlying113 (f := 3) (q := 3) rfl (by kernel_rfl) rfl) rfl rfl rfl ?_; clear hf fa; intro fa hf
  refine sqv hf (r_load (v := (.int .u8 ((op : Nat) : Int))) rfl Try.underlying5 rfl (cell_blk hk2 rfl)) rfl rfl rfl ?_; clear hf fa; intro fa hf
  refine sqv hf (r_fa rfl Try.underlying113 (f := 1) (q := 1) rfl (by kernel_rfl) rfl) rfl rfl rfl ?_; clear hf fa; intro fa hf
  refine sqv hf (r_load (v := (.int .u64 ((at_ : Nat) : Int))) rfl Try.underlying26 rfl (cell_blk hk2 rfl)) rfl rfl rfl ?_; clear hf fa; intro fa hf
  refine sqv hf (r_fa rfl Try.underlying113 (f := 4) (q := 4) rfl (by kernel_rfl) rfl) rfl rfl rfl ?_; clear hf fa; intro fa hf
  refine sqv hf (r_load (v := (.int .u64 ((vv : Nat) : Int))) rfl Try.underlying26 rfl (cell_blk hk2 rfl)) rfl rfl rfl ?_; clear hf fa; intro fa hf
  refine sqv hf (r_fa rfl Try.underlying113 (f := 5) (q := 5) rfl (by kernel_rfl) rfl) rfl rfl rfl ?_; clear hf fa; intro fa hf
  refine sqv hf (r_load (v := (.int .u64 ((ww : Nat) : Int))) rfl Try.underlying26 rfl (cell_blk hk2 rfl)) rfl rfl rfl ?_; clear hf fa; intro fa hf
  refine sqdt hf (d_callX (vs := [(.pointer (some ⟨p, 0, none⟩)), (.int .u8 ((op : Nat) : Int)), (.int .u64 ((at_ : Nat) : Int)), (.int .u64 ((vv : Nat) : Int)), (.int .u64 ((ww : Nat) : Int))]) rfl Try.func92 (by kernel_rfl) (by kernel_rfl) (place_B2 (hSt.ext hb) hop ha0 hv0 hw0 hwy hwn hi)) rfl rfl rfl ?_; clear hf fa; rintro fa _ w3 ⟨va, vc, rfl, hrw, he3⟩ hf
  replace hrw := Row.rebase hrw hb.size
  have hcw := Row.caps hrw
  replace hk1 := blk_ext hk1 he3
  replace hk2 := blk_ext hk2 he3
  replace hb := hb.trans (Below.mono he3 hb.size)
  clear hrw hcw
  refine sqv hf (r_move rfl) rfl rfl rfl ?_; clear hf fa; intro fa hf
  refine sqv hf (r_extract rfl (i := 0) rfl) rfl rfl rfl ?_; clear hf fa; intro fa hf
  refine sqv hf (r_extract rfl (i := 1) rfl) rfl rfl rfl ?_; clear hf fa; intro fa hf
  refine sqv hf (r_extract rfl (i := 2) rfl) rfl rfl rfl ?_; clear hf fa; intro fa hf
  refine sqv hf (r_assign rfl) rfl rfl rfl ?_; clear hf fa; intro fa hf
  refine sqv hf (r_assign rfl) rfl rfl rfl ?_; clear hf fa; intro fa hf
  refine sqv hf (r_assign rfl) rfl rfl rfl ?_; clear hf fa; intro fa hf
  apply wpList_nil
  (try simp only [Exit.then, Exit.inBlock, ↓reduceIte, Nat.reduceEqDiff])
  refine hK2 _ _ ?_
  refine wp_seq_k (fun K3 hK3 => ?_)
  refine wp_region_lit ?_
  refine sqv hf (r_fa rfl Try.underlying113 (f := 3) (q := 3) rfl (by kernel_rfl) rfl) rfl rfl rfl ?_; clear hf fa; intro fa hf
  refine sqv hf (r_load (v := (.int .u8 ((op : Nat) : Int))) rfl Try.underlying5 rfl (cell_blk hk2 rfl)) rfl rfl rfl ?_; clear hf fa; intro fa hf
  refine sqv hf (r_conv (C := ((op : Nat) : Int)) rfl Try.underlying5 Try.underlying3 (by rw [IntKind.wrap_i64]; omega)) rfl rfl rfl ?_; clear hf fa; intro fa hf
  refine sqdt hf (d_callB (vs := [(.int .i64 ((op : Nat) : Int))]) rfl Try.func47 (by kernel_rfl) (by kernel_rfl) (racc_to _ hop hn0)) rfl rfl rfl ?_; clear hf fa; rintro fa _ w4 ⟨rfl, he4⟩ hf
  replace hk1 := blk_ext hk1 he4
  replace hk2 := blk_ext hk2 he4
  replace hb := hb.trans (Below.mono he4 hb.size)
  refine sqv hf (r_move rfl) rfl rfl rfl ?_; clear hf fa; intro fa hf
  refine sqv hf (r_extract rfl (i := 0) rfl) rfl rfl rfl ?_; clear hf fa; intro fa hf
  refine sqv hf (r_extract rfl (i := 1) rfl) rfl rfl rfl ?_; clear hf fa; intro fa hf
  refine sqv hf (r_extract rfl (i := 2) rfl) rfl rfl rfl ?_; clear hf fa; intro fa hf
  refine sqv hf (r_extract rfl (i := 3) rfl) rfl rfl rfl ?_; clear hf fa; intro fa hf
  refine sqv hf (r_extract rfl (i := 4) rfl) rfl rfl rfl ?_; clear hf fa; intro fa hf
  refine sqv hf (r_assign rfl) rfl rfl rfl ?_; clear hf fa; intro fa hf
  refine sqv hf (r_assign rfl) rfl rfl rfl ?_; clear hf fa; intro fa hf
  refine sqv hf (r_assign rfl) rfl rfl rfl ?_; clear hf fa; intro fa hf
  refine sqv hf (r_assign rfl) rfl rfl rfl ?_; clear hf fa; intro fa hf
  refine sqv hf (r_assign rfl) rfl rfl rfl ?_; clear hf fa; intro fa hf
  apply wpList_nil
  (try simp only [Exit.then, Exit.inBlock, ↓reduceIte, Nat.reduceEqDiff])
  refine hK3 _ _ ?_
  refine wp_seq_k (fun K4 hK4 => ?_)
  refine wp_region_lit ?_
  refine sqv hf (r_fa rfl Try.underlying113 (f := 1) (q := 1) rfl (by kernel_rfl) rfl) rfl rfl rfl ?_; clear hf fa; intro fa hf
  refine sqv hf (r_load (v := (.int .u64 ((at_ : Nat) : Int))) rfl Try.underlying26 rfl (cell_blk hk2 rfl)) rfl rfl rfl ?_; clear hf fa; intro fa hf
  refine sqv hf (r_fa rfl Try.underlying113 (f := 4) (q := 4) rfl (by kernel_rfl) rfl) rfl rfl rfl ?_; clear hf fa; intro fa hf
  refine sqv hf (r_load (v := (.int .u64 ((vv : Nat) : Int))) rfl Try.underlying26 rfl (cell_blk hk2 rfl)) rfl rfl rfl ?_; clear hf fa; intro fa hf
  refine sqv hf (r_move rfl) rfl rfl rfl ?_; clear hf fa; intro fa hf
  refine sqv hf (r_fa rfl Try.underlying111 (f := 0) (q := 0) rfl (by kernel_rfl) rfl) rfl rfl rfl ?_; clear hf fa; intro fa hf
  refine sqv hf (r_load (v := (.int .i64 ((ln : Nat) : Int))) rfl Try.underlying3 rfl (cell_blk hk1 rfl)) rfl rfl rfl ?_; clear hf fa; intro fa hf
  refine sqv hf (r_conv (C := ((ln : Nat) : Int)) rfl Try.underlying3 Try.underlying26 (by rw [IntKind.wrap_u64]; omega)) rfl rfl rfl ?_; clear hf fa; intro fa hf
  refine sqdt hf (d_callB (vs := [(.int .u64 ((at_ : Nat) : Int)), (.int .u64 ((vv : Nat) : Int)), (.int .i64 ((n0 : Nat) : Int)), (.int .u64 ((ln : Nat) : Int))]) rfl Try.func91 (by kernel_rfl) (by kernel_rfl) (rplace_to _ ha0 hv0 (by omega) hln hi)) rfl rfl rfl ?_; clear hf fa; rintro fa _ w5 ⟨rfl, he5⟩ hf
  replace hk1 := blk_ext hk1 he5
  replace hk2 := blk_ext hk2 he5
  replace hb := hb.trans (Below.mono he5 hb.size)
  refine sqv hf (r_move rfl) rfl rfl rfl ?_; clear hf fa; intro fa hf
  refine sqv hf (r_extract rfl (i := 0) rfl) rfl rfl rfl ?_; clear hf fa; intro fa hf
  refine sqv hf (r_extract rfl (i := 1) rfl) rfl rfl rfl ?_; clear hf fa; intro fa hf
  refine sqv hf (r_assign rfl) rfl rfl rfl ?_; clear hf fa; intro fa hf
  refine sqv hf (r_assign rfl) rfl rfl rfl ?_; clear hf fa; intro fa hf
  apply wpList_nil
  (try simp only [Exit.then, Exit.inBlock, ↓reduceIte, Nat.reduceEqDiff])
  refine hK4 _ _ ?_
  refine wp_seq_k (fun K5 hK5 => ?_)
  refine wp_seq_k (fun K6 hK6 => ?_)
  refine wp_region_lit ?_
  refine sqv hf (r_move rfl) rfl rfl rfl ?_; clear hf fa; intro fa hf
  refine sqv hf (r_not rfl) rfl rfl rfl ?_; clear hf fa; intro fa hf
  refine sqv hf (r_move rfl) rfl rfl rfl ?_; clear hf fa; intro fa hf
  refine sqgF (act := (!(!(accT op).2.2.2.2))) (ag := true) (c := (!(accT op).2.2.2.2)) (v := (.bool (accT op).2.2.1)) hf rfl rfl rfl (fun hact => (r_move rfl)) rfl rfl ?_; clear hf fa; intro fa hf
  refine sqgF (act := (!(!(accT op).2.2.2.2))) (ag := true) (c := (!(accT op).2.2.2.2)) (v := (.bool (!(accT op).2.2.1))) hf rfl rfl rfl (fun hact => (r_not (gb_ev hact rfl))) rfl rfl ?_; clear hf fa; intro fa hf
  refine sqv hf (Runs.veq (r_pickO (b := (!(accT op).2.2.2.2)) (e := (!(accT op).2.2.1)) rfl rfl rfl) (congrArg Value.bool (show _ = false from (by rw [writeT_snd] at hwy; revert hwy; cases (accT op).2.2.2.2 <;> cases (accT op).2.2.1 <;> simp)))) rfl rfl rfl ?_; clear hf fa; intro fa hf
  apply wpList_nil
  (try simp only [Exit.then, Exit.inBlock, ↓reduceIte, Nat.reduceEqDiff])
  refine hK6 _ _ ?_
  refine wp_cond_false (hf.ev rfl) ?_
  refine wp_skip ?_
  (try simp only [Exit.then, Exit.inBlock, ↓reduceIte, Nat.reduceEqDiff])
  refine hK5 _ _ ?_
  refine wp_seq_k (fun K7 hK7 => ?_)
  refine wp_seq_k (fun K8 hK8 => ?_)
  refine wp_region_lit ?_
  refine sqv hf (r_move rfl) rfl rfl rfl ?_; clear hf fa; intro fa hf
  refine sqv hf (Runs.veq (v' := (.bool true)) (r_not rfl) rfl) rfl rfl rfl ?_; clear hf fa; intro fa hf
  apply wpList_nil
  (try simp only [Exit.then, Exit.inBlock, ↓reduceIte, Nat.reduceEqDiff])
  refine hK8 _ _ ?_
  refine wp_cond_true (hf.ev rfl) ?_
  refine wp_seq_k (fun K9 hK9 => ?_)
  refine wp_region_lit ?_
  refine sqv hf (r_move rfl) rfl rfl rfl ?_; clear hf fa; intro fa hf
  refine sqv hf (Runs.veq (r_eq rfl rfl) (congrArg Value.bool (show _ = true from by decide))) rfl rfl rfl ?_; clear hf fa; intro fa hf
  refine sqv hf (r_move rfl) rfl rfl rfl ?_; clear hf fa; intro fa hf
  refine sqgd (act := true) (g := 2) (want := true) (ag := true) (c := true) hf (by rfl) (by rfl) rfl (fun _ =>  Runs.does (R := fun vq wq => vq = (.slice va 0 vc) ∧ w5 = wq) (r_move rfl) ⟨rfl, rfl⟩) (fun h => by cases h) rfl ?_; clear hf fa; rintro fa _ _ ⟨rfl, rfl⟩ hf
  change Fr _ _ ((75, (.slice va 0 vc)) :: _) at hf
  refine sqgd (act := true) (g := 2) (want := true) (ag := true) (c := true) hf (by rfl) (by rfl) rfl (fun _ =>  Runs.does (R := fun vq wq => vq = (.int .i64 (0 : Int)) ∧ w5 = wq) (r_lensl rfl Try.underlying84) ⟨rfl, rfl⟩) (fun h => by cases h) rfl ?_; clear hf fa; rintro fa _ _ ⟨rfl, rfl⟩ hf
  change Fr _ _ ((76, (.int .i64 (0 : Int))) :: _) at hf
  refine sqgd (act := true) (g := 2) (want := true) (ag := true) (c := true) hf (by rfl) (by rfl) rfl (fun _ =>  Runs.does (R := fun vq wq => vq = (.bool true) ∧ w5 = wq) (Runs.veq (r_eq rfl rfl) (congrArg Value.bool (show _ = true from by decide))) ⟨rfl, rfl⟩) (fun h => by cases h) rfl ?_; clear hf fa; rintro fa _ _ ⟨rfl, rfl⟩ hf
  change Fr _ _ ((77, (.bool true)) :: _) at hf
  refine sqv hf (r_pick (b := true) rfl rfl rfl rfl) rfl rfl rfl ?_; clear hf fa; intro fa hf
  refine sqv hf (r_move rfl) rfl rfl rfl ?_; clear hf fa; intro fa hf
  refine sqgd (act := true) (g := 7) (want := true) (ag := true) (c := true) hf (by rfl) (by rfl) rfl (fun _ =>  Runs.does (R := fun vq wq => vq = (.int .i64 (63 : Int)) ∧ w5 = wq) (r_move rfl) ⟨rfl, rfl⟩) (fun h => by cases h) rfl ?_; clear hf fa; rintro fa _ _ ⟨rfl, rfl⟩ hf
  change Fr _ _ ((80, (.int .i64 (63 : Int))) :: _) at hf
  refine sqgd (act := true) (g := 7) (want := true) (ag := true) (c := true) hf (by rfl) (by rfl) rfl (fun _ =>  Runs.does (R := fun vq wq => vq = (.bool true) ∧ w5 = wq) (Runs.veq (r_eq rfl rfl) (congrArg Value.bool (show _ = true from by decide))) ⟨rfl, rfl⟩) (fun h => by cases h) rfl ?_; clear hf fa; rintro fa _ _ ⟨rfl, rfl⟩ hf
  change Fr _ _ ((81, (.bool true)) :: _) at hf
  refine sqv hf (r_pick (b := true) rfl rfl rfl rfl) rfl rfl rfl ?_; clear hf fa; intro fa hf
  refine sqv hf (r_assign rfl) rfl rfl rfl ?_; clear hf fa; intro fa hf
  apply wpList_nil
  (try simp only [Exit.then, Exit.inBlock, ↓reduceIte, Nat.reduceEqDiff])
  refine hK9 _ _ ?_
  refine wp_ret ?_
  (try simp only [Exit.then, Exit.inBlock])
  refine ret1 hf rfl rfl ?_
  exact ⟨rfl, hb⟩

set_option maxHeartbeats 1000000 in
set_option maxRecDepth 100000 in
theorem places_C (B p : Nat) (ln : Nat) (mo : Int) (ca : Option Addr) (C : List MCe) (cc : Nat) (w : World) (hSt : St26 B w p ln mo C) (hCd : RdS 2 vCe w ca C) (hCl : C.length ≤ 1000000) (kd nn : Int) (at_ op vv ww : Nat) (da : Option Addr) (dn dc : Nat) (ha0 : at_ < 18446744073709551616) (hop : op < 256) (hv0 : vv < 18446744073709551616) (hw0 : ww < 18446744073709551616) (n0 : Nat) (hn0 : (accT op).1 = ((n0 : Nat) : Int)) (hn8 : n0 ≤ 8) (hwy : (writeT op ww).2 = true) (hwn : (writeT op ww).1.length = n0) (hi : (plP at_ vv n0 ln).2 = true) : Calls Try.prog 85 #[(.pointer (some ⟨p, 0, none⟩)), (.agg #[(.int .i64 ((ln : Nat) : Int)), (.int .i64 mo), (.slice ca C.length cc)]), (.agg #[(.int .i64 kd), (.int .u64 ((at_ : Nat) : Int)), (.int .i64 nn), (.int .u8 ((op : Nat) : Int)), (.int .u64 ((vv : Nat) : Int)), (.int .u64 ((ww : Nat) : Int)), (.slice da dn dc)])] w fun e w' => e = .returned (.bool true) ∧ Below w.heap.size w w' := by
  obtain ⟨hln, hCr, _⟩ := hSt.nums
  have hC2 : ∀ c ∈ C, 0 ≤ c.2 ∧ c.2 < 256 := fun c hc => (hCr c hc).2
  refine sx_enter (L := [(0, (.pointer (some ⟨p, 0, none⟩))), (1, (.agg #[(.int .i64 ((ln : Nat) : Int)), (.int .i64 mo), (.slice ca C.length cc)])), (2, (.agg #[(.int .i64 kd), (.int .u64 ((at_ : Nat) : Int)), (.int .i64 nn), (.int .u8 ((op : Nat) : Int)), (.int .u64 ((vv : Nat) : Int)), (.int .u64 ((ww : Nat) : Int)), (.slice da dn dc)]))]) Try.func85 rfl rfl rfl rfl (fun fa hf => ?_)
  have hb : Below w.heap.size w w := Below.refl _ _
  refine wp_seq_k (fun K1 hK1 => ?_)
  refine wp_region_lit ?_
  refine sqdt hf (d_box (cs := #[(.int .i64 ((ln : Nat) : Int)), (.int .i64 mo), (.slice ca C.length cc)]) rfl rfl) rfl rfl rfl ?_; clear hf fa; rintro fa _ w1 ⟨b1, rfl, hle1, hk1, he1⟩ hf
  have hBb1 : w.heap.size ≤ b1 := Nat.le_trans hb.size hle1
  replace hb := hb.trans (Below.mono he1 hb.size)
  refine sqdt hf (d_box (cs := #[(.int .i64 kd), (.int .u64 ((at_ : Nat) : Int)), (.int .i64 nn), (.int .u8 ((op : Nat) : Int)), (.int .u64 ((vv : Nat) : Int)), (.int .u64 ((ww : Nat) : Int)), (.slice da dn dc)]) rfl rfl) rfl rfl rfl ?_; clear hf fa; rintro fa _ w2 ⟨b2, rfl, hle2, hk2, he2⟩ hf
  have hBb2 : w.heap.size ≤ b2 := Nat.le_trans hb.size hle2
  have : b1 < b2 := Nat.lt_of_lt_of_le (blk_lt hk1) hle2
  replace hk1 := blk_ext hk1 he2
  replace hb := hb.trans (Below.mono he2 hb.size)
  refine sqv hf (r_assign rfl) rfl rfl rfl ?_; clear hf fa; intro fa hf
  apply wpList_nil
  (try simp only [Exit.then, Exit.inBlock, ↓reduceIte, Nat.reduceEqDiff])
  refine hK1 _ _ ?_
  refine wp_seq_k (fun K2 hK2 => ?_)
  refine wp_region_lit ?_
  refine sqv hf (r_move rfl) rfl rfl rfl ?_; clear hf fa; intro fa hf
  refine sqv hf (r_fa rfl Try.underlying113 (f := 3) (q := 3) rfl (by kernel_rfl) rfl) rfl rfl rfl ?_; clear hf fa; intro fa hf
  refine sqv hf (r_load (v := (.int .u8 ((op : Nat) : Int))) rfl Try.underlying5 rfl (cell_blk hk2 rfl)) rfl rfl rfl ?_; clear hf fa; intro fa hf
  refine sqv hf (r_fa rfl Try.underlying113 (f := 1) (q := 1) rfl (by kernel_rfl) rfl) rfl rfl rfl ?_; clear hf fa; intro fa hf
  refine sqv hf (r_load (v := (.int .u64 ((at_ : Nat) : Int))) rfl Try.underlying26 rfl (cell_blk hk2 rfl)) rfl rfl rfl ?_; clear hf fa; intro fa hf
  refine sqv hf (r_fa rfl Try.underlying113 (f := 4) (q := 4) rfl (by kernel_rfl) rfl) rfl rfl rfl ?_; clear hf fa; intro fa hf
  refine sqv hf (r_load (v := (.int .u64 ((vv : Nat) : Int))) rfl Try.underlying26 rfl (cell_blk hk2 rfl)) rfl rfl rfl ?_; clear hf fa; intro fa hf
  refine sqv hf (r_fa rfl Try.underlying113 (f := 5) (q := 5) rfl (by kernel_rfl) rfl) rfl rfl rfl ?_; clear hf fa; intro fa hf
  refine sqv hf (r_load (v := (.int .u64 ((ww : Nat) : Int))) rfl Try.underlying26 rfl (cell_blk hk2 rfl)) rfl rfl rfl ?_; clear hf fa; intro fa hf
  refine sqdt hf (d_callX (vs := [(.pointer (some ⟨p, 0, none⟩)), (.int .u8 ((op : Nat) : Int)), (.int .u64 ((at_ : Nat) : Int)), (.int .u64 ((vv : Nat) : Int)), (.int .u64 ((ww : Nat) : Int))]) rfl Try.func92 (by kernel_rfl) (by kernel_rfl) (place_C2 (hSt.ext hb) hop ha0 hv0 hw0 hwy hwn hi)) rfl rfl rfl ?_; clear hf fa; rintro fa _ w3 ⟨va, vc, rfl, hrw, he3⟩ hf
  replace hrw := Row.rebase hrw hb.size
  have hcw := Row.caps hrw
  replace hk1 := blk_ext hk1 he3
  replace hk2 := blk_ext hk2 he3
  replace hb := hb.trans (Below.mono he3 hb.size)
  refine sqv hf (r_move rfl) rfl rfl rfl ?_; clear hf fa; intro fa hf
  refine sqv hf (r_extract rfl (i := 0) rfl) rfl rfl rfl ?_; clear hf fa; intro fa hf
  refine sqv hf (r_extract rfl (i := 1) rfl) rfl rfl rfl ?_; clear hf fa; intro fa hf
  refine sqv hf (r_extract rfl (i := 2) rfl) rfl rfl rfl ?_; clear hf fa; intro fa hf
  refine sqv hf (r_assign rfl) rfl rfl rfl ?_; clear hf fa; intro fa hf
  refine sqv hf (r_assign rfl) rfl rfl rfl ?_; clear hf fa; intro fa hf
  refine sqv hf (r_assign rfl) rfl rfl rfl ?_; clear hf fa; intro fa hf
  apply wpList_nil
  (try simp only [Exit.then, Exit.inBlock, ↓reduceIte, Nat.reduceEqDiff])
  refine hK2 _ _ ?_
  refine wp_seq_k (fun K3 hK3 => ?_)
  refine wp_region_lit ?_
  refine sqv hf (r_fa rfl Try.underlying113 (f := 3) (q := 3) rfl (by kernel_rfl) rfl) rfl rfl rfl ?_; clear hf fa; intro fa hf
  refine sqv hf (r_load (v := (.int .u8 ((op : Nat) : Int))) rfl Try.underlying5 rfl (cell_blk hk2 rfl)) rfl rfl rfl ?_; clear hf fa; intro fa hf
  refine sqv hf (r_conv (C := ((op : Nat) : Int)) rfl Try.underlying5 Try.underlying3 (by rw [IntKind.wrap_i64]; omega)) rfl rfl rfl ?_; clear hf fa; intro fa hf
  refine sqdt hf (d_callB (vs := [(.int .i64 ((op : Nat) : Int))]) rfl Try.func47 (by kernel_rfl) (by kernel_rfl) (racc_to _ hop hn0)) rfl rfl rfl ?_; clear hf fa; rintro fa _ w4 ⟨rfl, he4⟩ hf
  replace hk1 := blk_ext hk1 he4
  replace hk2 := blk_ext hk2 he4
  replace hrw := Row.ext hrw he4
  replace hb := hb.trans (Below.mono he4 hb.size)
  refine sqv hf (r_move rfl) rfl rfl rfl ?_; clear hf fa; intro fa hf
  refine sqv hf (r_extract rfl (i := 0) rfl) rfl rfl rfl ?_; clear hf fa; intro fa hf
  refine sqv hf (r_extract rfl (i := 1) rfl) rfl rfl rfl ?_; clear hf fa; intro fa hf
  refine sqv hf (r_extract rfl (i := 2) rfl) rfl rfl rfl ?_; clear hf fa; intro fa hf
  refine sqv hf (r_extract rfl (i := 3) rfl) rfl rfl rfl ?_; clear hf fa; intro fa hf
  refine sqv hf (r_extract rfl (i := 4) rfl) rfl rfl rfl ?_; clear hf fa; intro fa hf
  refine sqv hf (r_assign rfl) rfl rfl rfl ?_; clear hf fa; intro fa hf
  refine sqv hf (r_assign rfl) rfl rfl rfl ?_; clear hf fa; intro fa hf
  refine sqv hf (r_assign rfl) rfl rfl rfl ?_; clear hf fa; intro fa hf
  refine sqv hf (r_assign rfl) rfl rfl rfl ?_; clear hf fa; intro fa hf
  refine sqv hf (r_assign rfl) rfl rfl rfl ?_; clear hf fa; intro fa hf
  apply wpList_nil
  (try simp only [Exit.then, Exit.inBlock, ↓reduceIte, Nat.reduceEqDiff])
  refine hK3 _ _ ?_
  refine wp_seq_k (fun K4 hK4 => ?_)
  refine wp_region_lit ?_
  refine sqv hf (r_fa rfl Try.underlying113 (f := 1) (q := 1) rfl (by kernel_rfl) rfl) rfl rfl rfl ?_; clear hf fa; intro fa hf
  refine sqv hf (r_load (v := (.int .u64 ((at_ : Nat) : Int))) rfl Try.underlying26 rfl (cell_blk hk2 rfl)) rfl rfl rfl ?_; clear hf fa; intro fa hf
  refine sqv hf (r_fa rfl Try.underlying113 (f := 4) (q := 4) rfl (by kernel_rfl) rfl) rfl rfl rfl ?_; clear hf fa; intro fa hf
  refine sqv hf (r_load (v := (.int .u64 ((vv : Nat) : Int))) rfl Try.underlying26 rfl (cell_blk hk2 rfl)) rfl rfl rfl ?_; clear hf fa; intro fa hf
  refine sqv hf (r_move rfl) rfl rfl rfl ?_; clear hf fa; intro fa hf
  refine sqv hf (r_fa rfl Try.underlying111 (f := 0) (q := 0) rfl (by kernel_rfl) rfl) rfl rfl rfl ?_; clear hf fa; intro fa hf
  refine sqv hf (r_load (v := (.int .i64 ((ln : Nat) : Int))) rfl Try.underlying3 rfl (cell_blk hk1 rfl)) rfl rfl rfl ?_; clear hf fa; intro fa hf
  refine sqv hf (r_conv (C := ((ln : Nat) : Int)) rfl Try.underlying3 Try.underlying26 (by rw [IntKind.wrap_u64]; omega)) rfl rfl rfl ?_; clear hf fa; intro fa hf
  refine sqdt hf (d_callB (vs := [(.int .u64 ((at_ : Nat) : Int)), (.int .u64 ((vv : Nat) : Int)), (.int .i64 ((n0 : Nat) : Int)), (.int .u64 ((ln : Nat) : Int))]) rfl Try.func91 (by kernel_rfl) (by kernel_rfl) (rplace_to _ ha0 hv0 (by omega) hln hi)) rfl rfl rfl ?_; clear hf fa; rintro fa _ w5 ⟨rfl, he5⟩ hf
  replace hk1 := blk_ext hk1 he5
  replace hk2 := blk_ext hk2 he5
  replace hrw := Row.ext hrw he5
  replace hb := hb.trans (Below.mono he5 hb.size)
  refine sqv hf (r_move rfl) rfl rfl rfl ?_; clear hf fa; intro fa hf
  refine sqv hf (r_extract rfl (i := 0) rfl) rfl rfl rfl ?_; clear hf fa; intro fa hf
  refine sqv hf (r_extract rfl (i := 1) rfl) rfl rfl rfl ?_; clear hf fa; intro fa hf
  refine sqv hf (r_assign rfl) rfl rfl rfl ?_; clear hf fa; intro fa hf
  refine sqv hf (r_assign rfl) rfl rfl rfl ?_; clear hf fa; intro fa hf
  apply wpList_nil
  (try simp only [Exit.then, Exit.inBlock, ↓reduceIte, Nat.reduceEqDiff])
  refine hK4 _ _ ?_
  refine wp_seq_k (fun K5 hK5 => ?_)
  refine wp_seq_k (fun K6 hK6 => ?_)
  refine wp_region_lit ?_
  refine sqv hf (r_move rfl) rfl rfl rfl ?_; clear hf fa; intro fa hf
  refine sqv hf (r_not rfl) rfl rfl rfl ?_; clear hf fa; intro fa hf
  refine sqv hf (r_move rfl) rfl rfl rfl ?_; clear hf fa; intro fa hf
  refine sqgF (act := (!(!(accT op).2.2.2.2))) (ag := true) (c := (!(accT op).2.2.2.2)) (v := (.bool (accT op).2.2.1)) hf rfl rfl rfl (fun hact => (r_move rfl)) rfl rfl ?_; clear hf fa; intro fa hf
  refine sqgF (act := (!(!(accT op).2.2.2.2))) (ag := true) (c := (!(accT op).2.2.2.2)) (v := (.bool (!(accT op).2.2.1))) hf rfl rfl rfl (fun hact => (r_not (gb_ev hact rfl))) rfl rfl ?_; clear hf fa; intro fa hf
  refine sqv hf (Runs.veq (r_pickO (b := (!(accT op).2.2.2.2)) (e := (!(accT op).2.2.1)) rfl rfl rfl) (congrArg Value.bool (show _ = false from (by rw [writeT_snd] at hwy; revert hwy; cases (accT op).2.2.2.2 <;> cases (accT op).2.2.1 <;> simp)))) rfl rfl rfl ?_; clear hf fa; intro fa hf
  apply wpList_nil
  (try simp only [Exit.then, Exit.inBlock, ↓reduceIte, Nat.reduceEqDiff])
  refine hK6 _ _ ?_
  refine wp_cond_false (hf.ev rfl) ?_
  refine wp_skip ?_
  (try simp only [Exit.then, Exit.inBlock, ↓reduceIte, Nat.reduceEqDiff])
  refine hK5 _ _ ?_
  refine wp_seq_k (fun K7 hK7 => ?_)
  refine wp_seq_k (fun K8 hK8 => ?_)
  refine wp_region_lit ?_
  refine sqv hf (r_move rfl) rfl rfl rfl ?_; clear hf fa; intro fa hf
  refine sqv hf (Runs.veq (v' := (.bool false)) (r_not rfl) rfl) rfl rfl rfl ?_; clear hf fa; intro fa hf
  apply wpList_nil
  (try simp only [Exit.then, Exit.inBlock, ↓reduceIte, Nat.reduceEqDiff])
  refine hK8 _ _ ?_
  refine wp_cond_false (hf.ev rfl) ?_
  refine wp_skip ?_
  (try simp only [Exit.then, Exit.inBlock, ↓reduceIte, Nat.reduceEqDiff])
  refine hK7 _ _ ?_
  refine wp_seq_k (fun K9 hK9 => ?_)
  refine wp_region_un (fun wq => Below w5.heap.size w5 wq) (fun w w' => Below w.heap.size w w')
    (fun V => [(fun x _ => x = (.int .i64 (0 : Int))), (fun x _ => x = (.bool true)), (fun x _ => x = (.bool true)), (fun x _ => x = (.int .u64 (((plP at_ vv n0 ln).1 : Nat) : Int))), (fun x _ => x = (.int .u64 (((plP at_ vv n0 ln).1 : Nat) : Int))), (fun x _ => x = (.bool true)), (fun x _ => x = (.bool true)), (fun x _ => x = (.bool true)), (fun x _ => x = (.slice va ((writeT op ww).1.length) vc)), (fun x _ => x = (.string (strOfNums (writeT op ww).1))), (fun x _ => x = (.pointer (some ⟨b2, 5, none⟩))), (fun x _ => x = (.int .u64 ((ww : Nat) : Int))), (fun x _ => x = (.int .i64 ((n0 : Nat) : Int))), (fun x _ => x = (.string (strOfNums (writeT op ww).1))), (fun x _ => x = (.bool true)), (fun x _ => x = (.bool true)), (fun x _ => x = (.bool true))])
    []
    [[], [0], [1], [2], [2], [2, 3, 4], [2, 5], [2, 6], [7], [7, 8], [7], [7, 10], [7], [7, 11, 12], [7, 9, 13], [7, 14], [0, 1, 2, 3, 4, 5, 6, 7, 8, 9, 10, 11, 12, 13, 14, 15]]
    hf (by kernel_rfl) (by kernel_rfl) (fun _ => rfl) ((Below.refl _ _).drew) (fun a b h1 h2 => h1.trans (h2.mono h1.size)) (fun _ _ h => h.size) (fun V => ⟨kept_eq, kept_eq, kept_eq, kept_eq, kept_eq, kept_eq, kept_eq, kept_eq, kept_eq, kept_eq, kept_eq, kept_eq, kept_eq, kept_eq, kept_eq, kept_eq, kept_eq, trivial⟩) (fun _ _ _ _ _ => rfl) ?_ ?_
  · skip
    intro V
    refine ⟨fun wu0 hC hd => ?_, ?_⟩
    · clear hd
      replace hb := hb.trans (hC.mono hb.size)
      replace hk1 := blk_ext hk1 hC
      replace hk2 := blk_ext hk2 hC
      replace hrw := Row.ext hrw hC
      exact Runs.does (r_move rfl) ⟨Below.refl _ _, rfl, nofr rfl⟩
    refine ⟨fun wu1 hC hd => ?_, ?_⟩
    · obtain ⟨h0, _⟩ := hd
      skip
      replace h0 : V 0 = (.int .i64 (0 : Int)) := h0
      replace hb := hb.trans (hC.mono hb.size)
      replace hk1 := blk_ext hk1 hC
      replace hk2 := blk_ext hk2 hC
      replace hrw := Row.ext hrw hC
      exact Runs.does (Runs.veq (r_eq (congrArg some h0) rfl) (congrArg Value.bool (show _ = true from by decide))) ⟨Below.refl _ _, rfl, nofr rfl⟩
    refine ⟨fun wu2 hC hd => ?_, ?_⟩
    · obtain ⟨h1, _⟩ := hd
      skip
      replace h1 : V 1 = (.bool true) := h1
      replace hb := hb.trans (hC.mono hb.size)
      replace hk1 := blk_ext hk1 hC
      replace hk2 := blk_ext hk2 hC
      replace hrw := Row.ext hrw hC
      exact Runs.does (r_move (congrArg some h1)) ⟨Below.refl _ _, rfl, nofr rfl⟩
    refine ⟨fun wu3 hC hd => ?_, ?_⟩
    · obtain ⟨h2, _⟩ := hd
      skip
      replace h2 : V 2 = (.bool true) := h2
      replace hb := hb.trans (hC.mono hb.size)
      replace hk1 := blk_ext hk1 hC
      replace hk2 := blk_ext hk2 hC
      replace hrw := Row.ext hrw hC
      refine ⟨true, true, congrArg some h2, fun hact => ?_, fun hact => ?_⟩
      · exact Runs.does (r_move rfl) ⟨Below.refl _ _, rfl, nofr rfl⟩
      · exfalso; simp at hact
    refine ⟨fun wu4 hC hd => ?_, ?_⟩
    · obtain ⟨h2, _⟩ := hd
      skip
      replace h2 : V 2 = (.bool true) := h2
      replace hb := hb.trans (hC.mono hb.size)
      replace hk1 := blk_ext hk1 hC
      replace hk2 := blk_ext hk2 hC
      replace hrw := Row.ext hrw hC
      refine ⟨true, true, congrArg some h2, fun hact => ?_, fun hact => ?_⟩
      · exact Runs.does (r_move rfl) ⟨Below.refl _ _, rfl, nofr rfl⟩
      · exfalso; simp at hact
    refine ⟨fun wu5 hC hd => ?_, ?_⟩
    · obtain ⟨h2, h3, h4, _⟩ := hd
      skip
      skip
      skip
      replace h2 : V 2 = (.bool true) := h2
      replace h3 : V 3 = (.int .u64 (((plP at_ vv n0 ln).1 : Nat) : Int)) := h3
      replace h4 : V 4 = (.int .u64 (((plP at_ vv n0 ln).1 : Nat) : Int)) := h4
      replace hb := hb.trans (hC.mono hb.size)
      replace hk1 := blk_ext hk1 hC
      replace hk2 := blk_ext hk2 hC
      replace hrw := Row.ext hrw hC
      refine ⟨true, true, congrArg some h2, fun hact => ?_, fun hact => ?_⟩
      · exact Runs.does (Runs.veq (r_eq (congrArg some h3) (congrArg some h4)) (congrArg Value.bool (show _ = true from (by simp)))) ⟨Below.refl _ _, rfl, nofr rfl⟩
      · exfalso; simp at hact
    refine ⟨fun wu6 hC hd => ?_, ?_⟩
    · obtain ⟨h2, h5, _⟩ := hd
      skip
      skip
      replace h2 : V 2 = (.bool true) := h2
      replace h5 : V 5 = (.bool true) := h5
      replace hb := hb.trans (hC.mono hb.size)
      replace hk1 := blk_ext hk1 hC
      replace hk2 := blk_ext hk2 hC
      replace hrw := Row.ext hrw hC
      exact Runs.does (r_pick (b := true) (congrArg some h2) (congrArg some h5) rfl rfl) ⟨Below.refl _ _, rfl, nofr rfl⟩
    refine ⟨fun wu7 hC hd => ?_, ?_⟩
    · obtain ⟨h2, h6, _⟩ := hd
      skip
      skip
      replace h2 : V 2 = (.bool true) := h2
      replace h6 : V 6 = (.bool true) := h6
      replace hb := hb.trans (hC.mono hb.size)
      replace hk1 := blk_ext hk1 hC
      replace hk2 := blk_ext hk2 hC
      replace hrw := Row.ext hrw hC
      exact Runs.does (r_move (congrArg some h6)) ⟨Below.refl _ _, rfl, nofr rfl⟩
    refine ⟨fun wu8 hC hd => ?_, ?_⟩
    · obtain ⟨h7, _⟩ := hd
      skip
      replace h7 : V 7 = (.bool true) := h7
      replace hb := hb.trans (hC.mono hb.size)
      replace hk1 := blk_ext hk1 hC
      replace hk2 := blk_ext hk2 hC
      replace hrw := Row.ext hrw hC
      refine ⟨true, true, congrArg some h7, fun hact => ?_, fun hact => ?_⟩
      · exact Runs.does (r_move rfl) ⟨Below.refl _ _, rfl, nofr rfl⟩
      · exfalso; simp at hact
    refine ⟨fun wu9 hC hd => ?_, ?_⟩
    · obtain ⟨h7, h8, _⟩ := hd
      skip
      skip
      replace h7 : V 7 = (.bool true) := h7
      replace h8 : V 8 = (.slice va ((writeT op ww).1.length) vc) := h8
      replace hb := hb.trans (hC.mono hb.size)
      replace hk1 := blk_ext hk1 hC
      replace hk2 := blk_ext hk2 hC
      replace hrw := Row.ext hrw hC
      refine ⟨true, true, congrArg some h7, fun hact => ?_, fun hact => ?_⟩
      · exact Runs.does (r_rowstr (congrArg some h8) Try.underlying84 Try.underlying5 Try.underlying9 hrw) ⟨Below.refl _ _, rfl, nofr rfl⟩
      · exfalso; simp at hact
    refine ⟨fun wu10 hC hd => ?_, ?_⟩
    · obtain ⟨h7, _⟩ := hd
      skip
      replace h7 : V 7 = (.bool true) := h7
      replace hb := hb.trans (hC.mono hb.size)
      replace hk1 := blk_ext hk1 hC
      replace hk2 := blk_ext hk2 hC
      replace hrw := Row.ext hrw hC
      refine ⟨true, true, congrArg some h7, fun hact => ?_, fun hact => ?_⟩
      · exact Runs.does (r_fa rfl Try.underlying113 (f := 5) (q := 5) rfl (by kernel_rfl) rfl) ⟨Below.refl _ _, rfl, nofr rfl⟩
      · exfalso; simp at hact
    refine ⟨fun wu11 hC hd => ?_, ?_⟩
    · obtain ⟨h7, h10, _⟩ := hd
      skip
      skip
      replace h7 : V 7 = (.bool true) := h7
      replace h10 : V 10 = (.pointer (some ⟨b2, 5, none⟩)) := h10
      replace hb := hb.trans (hC.mono hb.size)
      replace hk1 := blk_ext hk1 hC
      replace hk2 := blk_ext hk2 hC
      replace hrw := Row.ext hrw hC
      refine ⟨true, true, congrArg some h7, fun hact => ?_, fun hact => ?_⟩
      · exact Runs.does (r_load (v := (.int .u64 ((ww : Nat) : Int))) (congrArg some h10) Try.underlying26 rfl (cell_blk hk2 rfl)) ⟨Below.refl _ _, rfl, nofr rfl⟩
      · exfalso; simp at hact
    refine ⟨fun wu12 hC hd => ?_, ?_⟩
    · obtain ⟨h7, _⟩ := hd
      skip
      replace h7 : V 7 = (.bool true) := h7
      replace hb := hb.trans (hC.mono hb.size)
      replace hk1 := blk_ext hk1 hC
      replace hk2 := blk_ext hk2 hC
      replace hrw := Row.ext hrw hC
      refine ⟨true, true, congrArg some h7, fun hact => ?_, fun hact => ?_⟩
      · exact Runs.does (r_move rfl) ⟨Below.refl _ _, rfl, nofr rfl⟩
      · exfalso; simp at hact
    refine ⟨fun wu13 hC hd => ?_, ?_⟩
    · obtain ⟨h7, h11, h12, _⟩ := hd
      skip
      skip
      skip
      replace h7 : V 7 = (.bool true) := h7
      replace h11 : V 11 = (.int .u64 ((ww : Nat) : Int)) := h11
      replace h12 : V 12 = (.int .i64 ((n0 : Nat) : Int)) := h12
      replace hb := hb.trans (hC.mono hb.size)
      replace hk1 := blk_ext hk1 hC
      replace hk2 := blk_ext hk2 hC
      replace hrw := Row.ext hrw hC
      refine ⟨true, true, congrArg some h7, fun hact => ?_, fun hact => ?_⟩
      · refine Does.mono (d_callB (vs := [(.int .u64 ((ww : Nat) : Int)), (.int .i64 ((n0 : Nat) : Int))]) (show [some (V 11), some (V 12)] = [some (.int .u64 ((ww : Nat) : Int)), some (.int .i64 ((n0 : Nat) : Int))] from by rw [h11, h12]) Try.func50 (by kernel_rfl) (by kernel_rfl) (bytes_to _ hw0 hn0 hwy)) (fun _ _ h => ⟨h.2, h.1, nofr rfl⟩)
      · exfalso; simp at hact
    refine ⟨fun wu14 hC hd => ?_, ?_⟩
    · obtain ⟨h7, h9, h13, _⟩ := hd
      skip
      skip
      skip
      replace h7 : V 7 = (.bool true) := h7
      replace h9 : V 9 = (.string (strOfNums (writeT op ww).1)) := h9
      replace h13 : V 13 = (.string (strOfNums (writeT op ww).1)) := h13
      replace hb := hb.trans (hC.mono hb.size)
      replace hk1 := blk_ext hk1 hC
      replace hk2 := blk_ext hk2 hC
      replace hrw := Row.ext hrw hC
      refine ⟨true, true, congrArg some h7, fun hact => ?_, fun hact => ?_⟩
      · exact Runs.does (Runs.veq (r_seq (congrArg some h9) (congrArg some h13)) (congrArg Value.bool (show _ = true from (by simp)))) ⟨Below.refl _ _, rfl, nofr rfl⟩
      · exfalso; simp at hact
    refine ⟨fun wu15 hC hd => ?_, ?_⟩
    · obtain ⟨h7, h14, _⟩ := hd
      skip
      skip
      replace h7 : V 7 = (.bool true) := h7
      replace h14 : V 14 = (.bool true) := h14
      replace hb := hb.trans (hC.mono hb.size)
      replace hk1 := blk_ext hk1 hC
      replace hk2 := blk_ext hk2 hC
      replace hrw := Row.ext hrw hC
      exact Runs.does (r_pick (b := true) (congrArg some h7) (congrArg some h14) rfl rfl) ⟨Below.refl _ _, rfl, nofr rfl⟩
    refine ⟨fun wu16 hC hd => ?_, ?_⟩
    · obtain ⟨h0, h1, h2, h3, h4, h5, h6, h7, h8, h9, h10, h11, h12, h13, h14, h15, _⟩ := hd
      skip
      skip
      skip
      skip
      skip
      skip
      skip
      skip
      skip
      skip
      skip
      skip
      skip
      skip
      skip
      skip
      replace h0 : V 0 = (.int .i64 (0 : Int)) := h0
      replace h1 : V 1 = (.bool true) := h1
      replace h2 : V 2 = (.bool true) := h2
      replace h3 : V 3 = (.int .u64 (((plP at_ vv n0 ln).1 : Nat) : Int)) := h3
      replace h4 : V 4 = (.int .u64 (((plP at_ vv n0 ln).1 : Nat) : Int)) := h4
      replace h5 : V 5 = (.bool true) := h5
      replace h6 : V 6 = (.bool true) := h6
      replace h7 : V 7 = (.bool true) := h7
      replace h8 : V 8 = (.slice va ((writeT op ww).1.length) vc) := h8
      replace h9 : V 9 = (.string (strOfNums (writeT op ww).1)) := h9
      replace h10 : V 10 = (.pointer (some ⟨b2, 5, none⟩)) := h10
      replace h11 : V 11 = (.int .u64 ((ww : Nat) : Int)) := h11
      replace h12 : V 12 = (.int .i64 ((n0 : Nat) : Int)) := h12
      replace h13 : V 13 = (.string (strOfNums (writeT op ww).1)) := h13
      replace h14 : V 14 = (.bool true) := h14
      replace h15 : V 15 = (.bool true) := h15
      replace hb := hb.trans (hC.mono hb.size)
      replace hk1 := blk_ext hk1 hC
      replace hk2 := blk_ext hk2 hC
      replace hrw := Row.ext hrw hC
      exact Runs.does (r_assign (congrArg some h15)) ⟨Below.refl _ _, rfl, nofr rfl⟩
    trivial
  · skip
    clear hf fa; intro V w6 fa he6 hp hnb hf
    have hv0 : V 0 = (.int .i64 (0 : Int)) := postsHold_at hp 0 rfl
    have hv1 : V 1 = (.bool true) := postsHold_at hp 1 rfl
    have hv2 : V 2 = (.bool true) := postsHold_at hp 2 rfl
    have hv3 : V 3 = (.int .u64 (((plP at_ vv n0 ln).1 : Nat) : Int)) := postsHold_at hp 3 rfl
    have hv4 : V 4 = (.int .u64 (((plP at_ vv n0 ln).1 : Nat) : Int)) := postsHold_at hp 4 rfl
    have hv5 : V 5 = (.bool true) := postsHold_at hp 5 rfl
    have hv6 : V 6 = (.bool true) := postsHold_at hp 6 rfl
    have hv7 : V 7 = (.bool true) := postsHold_at hp 7 rfl
    have hv8 : V 8 = (.slice va ((writeT op ww).1.length) vc) := postsHold_at hp 8 rfl
    have hv9 : V 9 = (.string (strOfNums (writeT op ww).1)) := postsHold_at hp 9 rfl
    have hv10 : V 10 = (.pointer (some ⟨b2, 5, none⟩)) := postsHold_at hp 10 rfl
    have hv11 : V 11 = (.int .u64 ((ww : Nat) : Int)) := postsHold_at hp 11 rfl
    have hv12 : V 12 = (.int .i64 ((n0 : Nat) : Int)) := postsHold_at hp 12 rfl
    have hv13 : V 13 = (.string (strOfNums (writeT op ww).1)) := postsHold_at hp 13 rfl
    have hv14 : V 14 = (.bool true) := postsHold_at hp 14 rfl
    have hv15 : V 15 = (.bool true) := postsHold_at hp 15 rfl
    have hv16 : V 16 = (.bool true) := postsHold_at hp 16 rfl
    simp only [List.take_succ_cons, List.take_zero, insAll, ins, hv0, hv1, hv2, hv3, hv4, hv5, hv6, hv7, hv8, hv9, hv10, hv11, hv12, hv13, hv14, hv15, hv16] at hf
    clear hp hnb hv0 hv1 hv2 hv3 hv4 hv5 hv6 hv7 hv8 hv9 hv10 hv11 hv12 hv13 hv14 hv15 hv16
    replace hk1 := blk_ext hk1 he6
    replace hk2 := blk_ext hk2 he6
    replace hrw := Row.ext hrw he6
    replace hb := hb.trans (Below.mono he6 hb.size)
    (try simp only [Exit.then, Exit.inBlock, ↓reduceIte, Nat.reduceEqDiff])
    refine hK9 _ _ ?_
    refine wp_ret ?_
    (try simp only [Exit.then, Exit.inBlock])
    refine ret1 hf rfl rfl ?_
    exact ⟨rfl, hb⟩
end Go.Proofs.Ytmcmickgllffoaa
