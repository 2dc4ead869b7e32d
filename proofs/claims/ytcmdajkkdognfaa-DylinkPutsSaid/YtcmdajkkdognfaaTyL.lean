/- What is proved here: limits, by the program and by the document. -/
import Derived.Test.YtcmdajkkdognfaaTyA
import Derived.Test.YtcmdajkkdognfaaSxV
namespace Go.Proofs.Ytcmdajkkdognfaa
open Go.RowKit
set_option linter.unusedVariables false
set_option linter.unusedSimpArgs false
theorem uint_rowI (x : Int) (h0 : 0 ≤ x) (h1 : x < 18446744073709551616) (w : World) : Calls Try.prog 110 #[.int .u64 x] w fun e w' => ∃ s, e = .returned s ∧ Row 1 (vInt .u8) 5 w.heap.size w' s (uL x.toNat) ∧ Below w.heap.size w w' := by
  have h := uint_row x.toNat (by omega) w
  rwa [show ((x.toNat : Nat) : Int) = x by omega] at h
theorem count_anyI (x : Int) (h0 : 0 ≤ x) (h1 : x < 4611686018427387904) (w : World) : Calls Try.prog 111 #[.int .i64 x] w fun e w' => e = .returned (.string (cntS x.toNat)) ∧ Below w.heap.size w w' := by
  have h := count_any x.toNat w (by omega)
  rwa [show ((x.toNat : Nat) : Int) = x by omega] at h
def encL (l : MLim) : List Int := bif l.2.2.1 then [(1 : Int)] ++ uL l.1.toNat ++ uL l.2.1.toNat else [(0 : Int)] ++ uL l.1.toNat
theorem encL_len (l : MLim) (h1 : l.1 < 4294967296) (h2 : l.2.1 < 4294967296) : 0 < (encL l).length ∧ (encL l).length ≤ 30 := by
  have a := uL_len l.1.toNat (by omega)
  have b := uL_len l.2.1.toNat (by omega)
  unfold encL
  cases l.2.2.1 <;> simp only [cond_true, cond_false, List.length_append, List.length_cons, List.length_nil] <;> omega
theorem encL_str (l : MLim) : strOfNums (encL l) = (bif l.2.2.1 then ((⟨#[1]⟩ : ByteArray) ++ cntS l.1.toNat) ++ cntS l.2.1.toNat else (⟨#[0]⟩ : ByteArray) ++ cntS l.1.toNat) := by
  unfold encL cntS
  cases l.2.2.1
  · simp only [cond_false]; rw [strOfNums_app]; rfl
  · simp only [cond_true]; rw [strOfNums_app, strOfNums_app]; rfl

def limitsP (l : MLim) (most : Int) : Int :=
  bif (((decide (most < l.1)) || (l.2.2.1 && ((decide (l.2.1 < l.1)) || (decide (most < l.2.1))))) || ((!l.2.2.1) && (decide (l.2.1 ≠ (0 : Int))))) then (26 : Int)
  else (0 : Int)

set_option maxHeartbeats 1000000 in
set_option maxRecDepth 100000 in
theorem limits_any (l : MLim) (most : Int) (w : World) (hl1 : 0 ≤ l.1 ∧ l.1 < 4294967296) (hl2 : 0 ≤ l.2.1 ∧ l.2.1 < 4294967296) (hm : 0 ≤ most ∧ most < 4294967296) : Calls Try.prog 27 #[(.agg #[(.int .u32 l.1), (.int .u32 l.2.1), (.bool l.2.2.1)]), (.int .u32 most)] w fun e w' => e = .returned (.int .i64 ((limitsP l most))) ∧ Below w.heap.size w w' := by
  refine sx_enter (L := [(0, (.agg #[(.int .u32 l.1), (.int .u32 l.2.1), (.bool l.2.2.1)])), (1, (.int .u32 most))]) Try.func27 rfl rfl rfl rfl (fun fa hf => ?_)
  have hb : Below w.heap.size w w := Below.refl _ _
  refine wp_seq_k (fun K1 hK1 => ?_)
  refine wp_region_lit ?_
  refine sqdt hf (d_box (cs := #[(.int .u32 l.1), (.int .u32 l.2.1), (.bool l.2.2.1)]) rfl rfl) rfl rfl rfl ?_; clear hf fa; rintro fa _ w1 ⟨b1, rfl, hle1, hk1, he1⟩ hf
  have hBb1 : w.heap.size ≤ b1 := Nat.le_trans hb.size hle1
  replace hb := hb.trans (Below.mono he1 hb.size)
  refine sqv hf (r_assign rfl) rfl rfl rfl ?_; clear hf fa; intro fa hf
  apply wpList_nil
  (try simp only [Exit.then, Exit.inBlock, ↓reduceIte, Nat.reduceEqDiff])
  refine hK1 _ _ ?_
  refine wp_seq_k (fun K2 hK2 => ?_)
  refine wp_seq_k (fun K3 hK3 => ?_)
  refine wp_region_lit ?_
  refine sqv hf (r_fa rfl Try.underlying43 (f := 0) (q := 0) rfl (by kernel_rfl) rfl) rfl rfl rfl ?_; clear hf fa; intro fa hf
  refine sqv hf (r_load (v := (.int .u32 l.1)) rfl Try.underlying24 rfl (cell_blk hk1 rfl)) rfl rfl rfl ?_; clear hf fa; intro fa hf
  refine sqv hf (r_move rfl) rfl rfl rfl ?_; clear hf fa; intro fa hf
  refine sqv hf (r_gt rfl rfl) rfl rfl rfl ?_; clear hf fa; intro fa hf
  refine sqv hf (r_move rfl) rfl rfl rfl ?_; clear hf fa; intro fa hf
  refine sqgF (act := (!(decide (most < l.1)))) (ag := true) (c := (decide (most < l.1))) (v := (.pointer (some ⟨b1, 2, none⟩))) hf rfl rfl rfl (fun hact => (r_fa rfl Try.underlying43 (f := 2) (q := 2) rfl (by kernel_rfl) rfl)) rfl rfl ?_; clear hf fa; intro fa hf
  refine sqgF (act := (!(decide (most < l.1)))) (ag := true) (c := (decide (most < l.1))) (v := (.bool l.2.2.1)) hf rfl rfl rfl (fun hact => (r_load (v := (.bool l.2.2.1)) (gb_ev hact rfl) Try.underlying4 rfl (cell_blk hk1 rfl))) rfl rfl ?_; clear hf fa; intro fa hf
  refine sqgF (act := (!(decide (most < l.1)))) (ag := true) (c := (decide (most < l.1))) (v := (.bool l.2.2.1)) hf rfl rfl rfl (fun hact => (r_move (gb_ev hact rfl))) rfl rfl ?_; clear hf fa; intro fa hf
  refine sqgT (act := ((!(decide (most < l.1))) && l.2.2.1)) (ag := (!(decide (most < l.1)))) (c := l.2.2.1) (v := (.pointer (some ⟨b1, 1, none⟩))) hf rfl rfl rfl (fun hact => (r_fa rfl Try.underlying43 (f := 1) (q := 1) rfl (by kernel_rfl) rfl)) rfl rfl ?_; clear hf fa; intro fa hf
  refine sqgT (act := ((!(decide (most < l.1))) && l.2.2.1)) (ag := (!(decide (most < l.1)))) (c := l.2.2.1) (v := (.int .u32 l.2.1)) hf rfl rfl rfl (fun hact => (r_load (v := (.int .u32 l.2.1)) (gb_ev hact rfl) Try.underlying24 rfl (cell_blk hk1 rfl))) rfl rfl ?_; clear hf fa; intro fa hf
  refine sqgT (act := ((!(decide (most < l.1))) && l.2.2.1)) (ag := (!(decide (most < l.1)))) (c := l.2.2.1) (v := (.pointer (some ⟨b1, 0, none⟩))) hf rfl rfl rfl (fun hact => (r_fa rfl Try.underlying43 (f := 0) (q := 0) rfl (by kernel_rfl) rfl)) rfl rfl ?_; clear hf fa; intro fa hf
  refine sqgT (act := ((!(decide (most < l.1))) && l.2.2.1)) (ag := (!(decide (most < l.1)))) (c := l.2.2.1) (v := (.int .u32 l.1)) hf rfl rfl rfl (fun hact => (r_load (v := (.int .u32 l.1)) (gb_ev hact rfl) Try.underlying24 rfl (cell_blk hk1 rfl))) rfl rfl ?_; clear hf fa; intro fa hf
  refine sqgT (act := ((!(decide (most < l.1))) && l.2.2.1)) (ag := (!(decide (most < l.1)))) (c := l.2.2.1) (v := (.bool (decide (l.2.1 < l.1)))) hf rfl rfl rfl (fun hact => (r_lt (gb_ev hact rfl) (gb_ev hact rfl))) rfl rfl ?_; clear hf fa; intro fa hf
  refine sqgT (act := ((!(decide (most < l.1))) && l.2.2.1)) (ag := (!(decide (most < l.1)))) (c := l.2.2.1) (v := (.bool (decide (l.2.1 < l.1)))) hf rfl rfl rfl (fun hact => (r_move (gb_ev hact rfl))) rfl rfl ?_; clear hf fa; intro fa hf
  refine sqgF (act := (((!(decide (most < l.1))) && l.2.2.1) && !(decide (l.2.1 < l.1)))) (ag := ((!(decide (most < l.1))) && l.2.2.1)) (c := (decide (l.2.1 < l.1))) (v := (.pointer (some ⟨b1, 1, none⟩))) hf rfl rfl rfl (fun hact => (r_fa rfl Try.underlying43 (f := 1) (q := 1) rfl (by kernel_rfl) rfl)) rfl rfl ?_; clear hf fa; intro fa hf
  refine sqgF (act := (((!(decide (most < l.1))) && l.2.2.1) && !(decide (l.2.1 < l.1)))) (ag := ((!(decide (most < l.1))) && l.2.2.1)) (c := (decide (l.2.1 < l.1))) (v := (.int .u32 l.2.1)) hf rfl rfl rfl (fun hact => (r_load (v := (.int .u32 l.2.1)) (gb_ev hact rfl) Try.underlying24 rfl (cell_blk hk1 rfl))) rfl rfl ?_; clear hf fa; intro fa hf
  refine sqgF (act := (((!(decide (most < l.1))) && l.2.2.1) && !(decide (l.2.1 < l.1)))) (ag := ((!(decide (most < l.1))) && l.2.2.1)) (c := (decide (l.2.1 < l.1))) (v := (.int .u32 most)) hf rfl rfl rfl (fun hact => (r_move rfl)) rfl rfl ?_; clear hf fa; intro fa hf
  refine sqgF (act := (((!(decide (most < l.1))) && l.2.2.1) && !(decide (l.2.1 < l.1)))) (ag := ((!(decide (most < l.1))) && l.2.2.1)) (c := (decide (l.2.1 < l.1))) (v := (.bool (decide (most < l.2.1)))) hf rfl rfl rfl (fun hact => (r_gt (gb_ev hact rfl) (gb_ev hact rfl))) rfl rfl ?_; clear hf fa; intro fa hf
  refine sqgT (act := ((!(decide (most < l.1))) && l.2.2.1)) (ag := (!(decide (most < l.1)))) (c := l.2.2.1) (v := (.bool ((decide (l.2.1 < l.1)) || (decide (most < l.2.1))))) hf rfl rfl rfl (fun hact => (r_pickO2 (q := ((!(decide (most < l.1))) && l.2.2.1)) (b := (decide (l.2.1 < l.1))) (e := (decide (most < l.2.1))) hact rfl rfl rfl)) rfl rfl ?_; clear hf fa; intro fa hf
  refine sqgF (act := (!(decide (most < l.1)))) (ag := true) (c := (decide (most < l.1))) (v := (.bool (l.2.2.1 && ((decide (l.2.1 < l.1)) || (decide (most < l.2.1)))))) hf rfl rfl rfl (fun hact => (r_pickA2 (q := (!(decide (most < l.1)))) (b := l.2.2.1) (e := ((decide (l.2.1 < l.1)) || (decide (most < l.2.1)))) hact rfl rfl rfl)) rfl rfl ?_; clear hf fa; intro fa hf
  refine sqv hf (r_pickO (b := (decide (most < l.1))) (e := (l.2.2.1 && ((decide (l.2.1 < l.1)) || (decide (most < l.2.1))))) rfl rfl rfl) rfl rfl rfl ?_; clear hf fa; intro fa hf
  refine sqv hf (r_move rfl) rfl rfl rfl ?_; clear hf fa; intro fa hf
  refine sqgF (act := (!((decide (most < l.1)) || (l.2.2.1 && ((decide (l.2.1 < l.1)) || (decide (most < l.2.1))))))) (ag := true) (c := ((decide (most < l.1)) || (l.2.2.1 && ((decide (l.2.1 < l.1)) || (decide (most < l.2.1)))))) (v := (.pointer (some ⟨b1, 2, none⟩))) hf rfl rfl rfl (fun hact => (r_fa rfl Try.underlying43 (f := 2) (q := 2) rfl (by kernel_rfl) rfl)) rfl rfl ?_; clear hf fa; intro fa hf
  refine sqgF (act := (!((decide (most < l.1)) || (l.2.2.1 && ((decide (l.2.1 < l.1)) || (decide (most < l.2.1))))))) (ag := true) (c := ((decide (most < l.1)) || (l.2.2.1 && ((decide (l.2.1 < l.1)) || (decide (most < l.2.1)))))) (v := (.bool l.2.2.1)) hf rfl rfl rfl (fun hact => (r_load (v := (.bool l.2.2.1)) (gb_ev hact rfl) Try.underlying4 rfl (cell_blk hk1 rfl))) rfl rfl ?_; clear hf fa; intro fa hf
  refine sqgF (act := (!((decide (most < l.1)) || (l.2.2.1 && ((decide (l.2.1 < l.1)) || (decide (most < l.2.1))))))) (ag := true) (c := ((decide (most < l.1)) || (l.2.2.1 && ((decide (l.2.1 < l.1)) || (decide (most < l.2.1)))))) (v := (.bool (!l.2.2.1))) hf rfl rfl rfl (fun hact => (r_not (gb_ev hact rfl))) rfl rfl ?_; clear hf fa; intro fa hf
  refine sqgF (act := (!((decide (most < l.1)) || (l.2.2.1 && ((decide (l.2.1 < l.1)) || (decide (most < l.2.1))))))) (ag := true) (c := ((decide (most < l.1)) || (l.2.2.1 && ((decide (l.2.1 < l.1)) || (decide (most < l.2.1)))))) (v := (.bool (!l.2.2.1))) hf rfl rfl rfl (fun hact => (r_move (gb_ev hact rfl))) rfl rfl ?_; clear hf fa; intro fa hf
  refine sqgT (act := ((!((decide (most < l.1)) || (l.2.2.1 && ((decide (l.2.1 < l.1)) || (decide (most < l.2.1)))))) && (!l.2.2.1))) (ag := (!((decide (most < l.1)) || (l.2.2.1 && ((decide (l.2.1 < l.1)) || (decide (most < l.2.1))))))) (c := (!l.2.2.1)) (v := (.pointer (some ⟨b1, 1, none⟩))) hf rfl rfl rfl (fun hact => (r_fa rfl Try.underlying43 (f := 1) (q := 1) rfl (by kernel_rfl) rfl)) rfl rfl ?_; clear hf fa; intro fa hf
  refine sqgT (act := ((!((decide (most < l.1)) || (l.2.2.1 && ((decide (l.2.1 < l.1)) || (decide (most < l.2.1)))))) && (!l.2.2.1))) (ag := (!((decide (most < l.1)) || (l.2.2.1 && ((decide (l.2.1 < l.1)) || (decide (most < l.2.1))))))) (c := (!l.2.2.1)) (v := (.int .u32 l.2.1)) hf rfl rfl rfl (fun hact => (r_load (v := (.int .u32 l.2.1)) (gb_ev hact rfl) Try.underlying24 rfl (cell_blk hk1 rfl))) rfl rfl ?_; clear hf fa; intro fa hf
  refine sqgT (act := ((!((decide (most < l.1)) || (l.2.2.1 && ((decide (l.2.1 < l.1)) || (decide (most < l.2.1)))))) && (!l.2.2.1))) (ag := (!((decide (most < l.1)) || (l.2.2.1 && ((decide (l.2.1 < l.1)) || (decide (most < l.2.1))))))) (c := (!l.2.2.1)) (v := (.bool (decide (l.2.1 ≠ (0 : Int))))) hf rfl rfl rfl (fun hact => (r_ne (gb_ev hact rfl) rfl)) rfl rfl ?_; clear hf fa; intro fa hf
  refine sqgF (act := (!((decide (most < l.1)) || (l.2.2.1 && ((decide (l.2.1 < l.1)) || (decide (most < l.2.1))))))) (ag := true) (c := ((decide (most < l.1)) || (l.2.2.1 && ((decide (l.2.1 < l.1)) || (decide (most < l.2.1)))))) (v := (.bool ((!l.2.2.1) && (decide (l.2.1 ≠ (0 : Int)))))) hf rfl rfl rfl (fun hact => (r_pickA2 (q := (!((decide (most < l.1)) || (l.2.2.1 && ((decide (l.2.1 < l.1)) || (decide (most < l.2.1))))))) (b := (!l.2.2.1)) (e := (decide (l.2.1 ≠ (0 : Int)))) hact rfl rfl rfl)) rfl rfl ?_; clear hf fa; intro fa hf
  refine sqv hf (r_pickO (b := ((decide (most < l.1)) || (l.2.2.1 && ((decide (l.2.1 < l.1)) || (decide (most < l.2.1)))))) (e := ((!l.2.2.1) && (decide (l.2.1 ≠ (0 : Int))))) rfl rfl rfl) rfl rfl rfl ?_; clear hf fa; intro fa hf
  apply wpList_nil
  (try simp only [Exit.then, Exit.inBlock, ↓reduceIte, Nat.reduceEqDiff])
  refine hK3 _ _ ?_
  refine wp_cond_split (t := (((decide (most < l.1)) || (l.2.2.1 && ((decide (l.2.1 < l.1)) || (decide (most < l.2.1))))) || ((!l.2.2.1) && (decide (l.2.1 ≠ (0 : Int)))))) (hf.ev rfl) (fun hqt35_1 => ?_) (fun hqt35_1 => ?_)
  · have hqt35_1b := hqt35_1
    try simp only [decide_eq_true_eq, Bool.and_eq_true, Bool.or_eq_true, Bool.not_eq_true', decide_eq_false_iff_not, ne_eq, Bool.not_eq_true] at hqt35_1
    refine wp_seq_k (fun K4 hK4 => ?_)
    refine wp_region_lit ?_
    refine sqv hf (r_assign rfl) rfl rfl rfl ?_; clear hf fa; intro fa hf
    apply wpList_nil
    (try simp only [Exit.then, Exit.inBlock, ↓reduceIte, Nat.reduceEqDiff])
    refine hK4 _ _ ?_
    refine wp_ret ?_
    (try simp only [Exit.then, Exit.inBlock])
    refine ret1 hf rfl rfl ?_
    refine ⟨?_, hb⟩; unfold limitsP; rw [hqt35_1b]; (try rfl)
  · have hqt35_1b := hqt35_1
    replace hqt35_1 := Bool.eq_false_iff.1 hqt35_1
    try simp only [ne_eq, decide_eq_true_eq, Bool.and_eq_true, Bool.or_eq_true, Bool.not_eq_true', decide_eq_false_iff_not] at hqt35_1
    refine wp_skip ?_
    (try simp only [Exit.then, Exit.inBlock, ↓reduceIte, Nat.reduceEqDiff])
    refine hK2 _ _ ?_
    refine wp_seq_k (fun K5 hK5 => ?_)
    refine wp_region_lit ?_
    refine sqv hf (r_assign rfl) rfl rfl rfl ?_; clear hf fa; intro fa hf
    apply wpList_nil
    (try simp only [Exit.then, Exit.inBlock, ↓reduceIte, Nat.reduceEqDiff])
    refine hK5 _ _ ?_
    refine wp_ret ?_
    (try simp only [Exit.then, Exit.inBlock])
    refine ret1 hf rfl rfl ?_
    refine ⟨?_, hb⟩; unfold limitsP; rw [hqt35_1b]; (try rfl)

def rlimitsP (l : MLim) (most : Int) : Bool :=
  bif (!l.2.2.1) then ((decide (l.1 ≤ most)) && (decide (l.2.1 = (0 : Int))))
  else ((decide (l.1 ≤ l.2.1)) && (decide (l.2.1 ≤ most)))

set_option maxHeartbeats 1000000 in
set_option maxRecDepth 100000 in
theorem rlimits_any (l : MLim) (most : Int) (w : World) (hl1 : 0 ≤ l.1 ∧ l.1 < 4294967296) (hl2 : 0 ≤ l.2.1 ∧ l.2.1 < 4294967296) (hm : 0 ≤ most ∧ most < 4294967296) : Calls Try.prog 28 #[(.agg #[(.int .u32 l.1), (.int .u32 l.2.1), (.bool l.2.2.1)]), (.int .i64 most)] w fun e w' => e = .returned (.bool (rlimitsP l most)) ∧ Below w.heap.size w w' := by
  refine sx_enter (L := [(0, (.agg #[(.int .u32 l.1), (.int .u32 l.2.1), (.bool l.2.2.1)])), (1, (.int .i64 most))]) Try.func28 rfl rfl rfl rfl (fun fa hf => ?_)
  have hb : Below w.heap.size w w := Below.refl _ _
  refine wp_seq_k (fun K1 hK1 => ?_)
  refine wp_region_lit ?_
  refine sqdt hf (d_box (cs := #[(.int .u32 l.1), (.int .u32 l.2.1), (.bool l.2.2.1)]) rfl rfl) rfl rfl rfl ?_; clear hf fa; rintro fa _ w1 ⟨b1, rfl, hle1, hk1, he1⟩ hf
  have hBb1 : w.heap.size ≤ b1 := Nat.le_trans hb.size hle1
  replace hb := hb.trans (Below.mono he1 hb.size)
  refine sqv hf (r_assign rfl) rfl rfl rfl ?_; clear hf fa; intro fa hf
  apply wpList_nil
  (try simp only [Exit.then, Exit.inBlock, ↓reduceIte, Nat.reduceEqDiff])
  refine hK1 _ _ ?_
  refine wp_seq_k (fun K2 hK2 => ?_)
  refine wp_region_un (fun wq => Below w1.heap.size w1 wq) (fun w w' => Below w.heap.size w w')
    (fun V => [(fun x _ => x = (.pointer (some ⟨b1, 0, none⟩))), (fun x _ => x = (.int .u32 l.1)), (fun x _ => x = (.int .i64 l.1)), (fun x _ => x = (.pointer (some ⟨b1, 1, none⟩))), (fun x _ => x = (.int .u32 l.2.1)), (fun x _ => x = (.int .i64 l.2.1)), (fun x _ => x = (.int .i64 l.1)), (fun x _ => x = (.int .i64 l.2.1))])
    []
    [[], [0], [1], [], [3], [4], [0, 1, 2], [0, 1, 2, 3, 4, 5, 6]]
    hf (by kernel_rfl) (by kernel_rfl) (fun _ => rfl) ((Below.refl _ _).drew) (fun a b h1 h2 => h1.trans (h2.mono h1.size)) (fun _ _ h => h.size) (fun V => ⟨kept_eq, kept_eq, kept_eq, kept_eq, kept_eq, kept_eq, kept_eq, kept_eq, trivial⟩) (fun _ _ _ _ _ => rfl) ?_ ?_
  · skip
    intro V
    refine ⟨fun wu0 hC hd => ?_, ?_⟩
    · clear hd
      replace hb := hb.trans (hC.mono hb.size)
      replace hk1 := blk_ext hk1 hC
      exact Runs.does (r_fa rfl Try.underlying43 (f := 0) (q := 0) rfl (by kernel_rfl) rfl) ⟨Below.refl _ _, rfl, nofr rfl⟩
    refine ⟨fun wu1 hC hd => ?_, ?_⟩
    · obtain ⟨h0, _⟩ := hd
      skip
      replace h0 : V 0 = (.pointer (some ⟨b1, 0, none⟩)) := h0
      replace hb := hb.trans (hC.mono hb.size)
      replace hk1 := blk_ext hk1 hC
      exact Runs.does (r_load (v := (.int .u32 l.1)) (congrArg some h0) Try.underlying24 rfl (cell_blk hk1 rfl)) ⟨Below.refl _ _, rfl, nofr rfl⟩
    refine ⟨fun wu2 hC hd => ?_, ?_⟩
    · obtain ⟨h1, _⟩ := hd
      skip
      replace h1 : V 1 = (.int .u32 l.1) := h1
      replace hb := hb.trans (hC.mono hb.size)
      replace hk1 := blk_ext hk1 hC
      exact Runs.does (r_conv (C := l.1) (congrArg some h1) Try.underlying24 Try.underlying3 (by rw [IntKind.wrap_i64]; omega)) ⟨Below.refl _ _, rfl, nofr rfl⟩
    refine ⟨fun wu3 hC hd => ?_, ?_⟩
    · clear hd
      replace hb := hb.trans (hC.mono hb.size)
      replace hk1 := blk_ext hk1 hC
      exact Runs.does (r_fa rfl Try.underlying43 (f := 1) (q := 1) rfl (by kernel_rfl) rfl) ⟨Below.refl _ _, rfl, nofr rfl⟩
    refine ⟨fun wu4 hC hd => ?_, ?_⟩
    · obtain ⟨h3, _⟩ := hd
      skip
      replace h3 : V 3 = (.pointer (some ⟨b1, 1, none⟩)) := h3
      replace hb := hb.trans (hC.mono hb.size)
      replace hk1 := blk_ext hk1 hC
      exact Runs.does (r_load (v := (.int .u32 l.2.1)) (congrArg some h3) Try.underlying24 rfl (cell_blk hk1 rfl)) ⟨Below.refl _ _, rfl, nofr rfl⟩
    refine ⟨fun wu5 hC hd => ?_, ?_⟩
    · obtain ⟨h4, _⟩ := hd
      skip
      replace h4 : V 4 = (.int .u32 l.2.1) := h4
      replace hb := hb.trans (hC.mono hb.size)
      replace hk1 := blk_ext hk1 hC
      exact Runs.does (r_conv (C := l.2.1) (congrArg some h4) Try.underlying24 Try.underlying3 (by rw [IntKind.wrap_i64]; omega)) ⟨Below.refl _ _, rfl, nofr rfl⟩
    refine ⟨fun wu6 hC hd => ?_, ?_⟩
    · obtain ⟨h0, h1, h2, _⟩ := hd
      skip
      skip
      skip
      replace h0 : V 0 = (.pointer (some ⟨b1, 0, none⟩)) := h0
      replace h1 : V 1 = (.int .u32 l.1) := h1
      replace h2 : V 2 = (.int .i64 l.1) := h2
      replace hb := hb.trans (hC.mono hb.size)
      replace hk1 := blk_ext hk1 hC
      exact Runs.does (r_assign (congrArg some h2)) ⟨Below.refl _ _, rfl, nofr rfl⟩
    refine ⟨fun wu7 hC hd => ?_, ?_⟩
    · obtain ⟨h0, h1, h2, h3, h4, h5, h6, _⟩ := hd
      skip
      skip
      skip
      skip
      skip
      skip
      skip
      replace h0 : V 0 = (.pointer (some ⟨b1, 0, none⟩)) := h0
      replace h1 : V 1 = (.int .u32 l.1) := h1
      replace h2 : V 2 = (.int .i64 l.1) := h2
      replace h3 : V 3 = (.pointer (some ⟨b1, 1, none⟩)) := h3
      replace h4 : V 4 = (.int .u32 l.2.1) := h4
      replace h5 : V 5 = (.int .i64 l.2.1) := h5
      replace h6 : V 6 = (.int .i64 l.1) := h6
      replace hb := hb.trans (hC.mono hb.size)
      replace hk1 := blk_ext hk1 hC
      exact Runs.does (r_assign (congrArg some h5)) ⟨Below.refl _ _, rfl, nofr rfl⟩
    trivial
  · skip
    clear hf fa; intro V w2 fa he2 hp hnb hf
    have hv0 : V 0 = (.pointer (some ⟨b1, 0, none⟩)) := postsHold_at hp 0 rfl
    have hv1 : V 1 = (.int .u32 l.1) := postsHold_at hp 1 rfl
    have hv2 : V 2 = (.int .i64 l.1) := postsHold_at hp 2 rfl
    have hv3 : V 3 = (.pointer (some ⟨b1, 1, none⟩)) := postsHold_at hp 3 rfl
    have hv4 : V 4 = (.int .u32 l.2.1) := postsHold_at hp 4 rfl
    have hv5 : V 5 = (.int .i64 l.2.1) := postsHold_at hp 5 rfl
    have hv6 : V 6 = (.int .i64 l.1) := postsHold_at hp 6 rfl
    have hv7 : V 7 = (.int .i64 l.2.1) := postsHold_at hp 7 rfl
    simp only [List.take_succ_cons, List.take_zero, insAll, ins, hv0, hv1, hv2, hv3, hv4, hv5, hv6, hv7] at hf
    clear hp hnb hv0 hv1 hv2 hv3 hv4 hv5 hv6 hv7
    replace hk1 := blk_ext hk1 he2
    replace hb := hb.trans (Below.mono he2 hb.size)
    (try simp only [Exit.then, Exit.inBlock, ↓reduceIte, Nat.reduceEqDiff])
    refine hK2 _ _ ?_
    refine wp_seq_k (fun K3 hK3 => ?_)
    refine wp_seq_k (fun K4 hK4 => ?_)
    refine wp_region_lit ?_
    refine sqv hf (r_fa rfl Try.underlying43 (f := 2) (q := 2) rfl (by kernel_rfl) rfl) rfl rfl rfl ?_; clear hf fa; intro fa hf
    refine sqv hf (r_load (v := (.bool l.2.2.1)) rfl Try.underlying4 rfl (cell_blk hk1 rfl)) rfl rfl rfl ?_; clear hf fa; intro fa hf
    refine sqv hf (r_not rfl) rfl rfl rfl ?_; clear hf fa; intro fa hf
    apply wpList_nil
    (try simp only [Exit.then, Exit.inBlock, ↓reduceIte, Nat.reduceEqDiff])
    refine hK4 _ _ ?_
    refine wp_cond_split (t := (!l.2.2.1)) (hf.ev rfl) (fun hqt15_1 => ?_) (fun hqt15_1 => ?_)
    · have hqt15_1b := hqt15_1
      try simp only [decide_eq_true_eq, Bool.and_eq_true, Bool.or_eq_true, Bool.not_eq_true', decide_eq_false_iff_not, ne_eq, Bool.not_eq_true] at hqt15_1
      refine wp_seq_k (fun K5 hK5 => ?_)
      refine wp_region_lit ?_
      refine sqv hf (r_move rfl) rfl rfl rfl ?_; clear hf fa; intro fa hf
      refine sqv hf (r_move rfl) rfl rfl rfl ?_; clear hf fa; intro fa hf
      refine sqv hf (r_le rfl rfl) rfl rfl rfl ?_; clear hf fa; intro fa hf
      refine sqv hf (r_move rfl) rfl rfl rfl ?_; clear hf fa; intro fa hf
      refine sqgT (act := (decide (l.1 ≤ most))) (ag := true) (c := (decide (l.1 ≤ most))) (v := (.int .i64 l.2.1)) hf rfl rfl rfl (fun hact => (r_move rfl)) rfl rfl ?_; clear hf fa; intro fa hf
      refine sqgT (act := (decide (l.1 ≤ most))) (ag := true) (c := (decide (l.1 ≤ most))) (v := (.bool (decide (l.2.1 = (0 : Int))))) hf rfl rfl rfl (fun hact => (r_eq (gb_ev hact rfl) rfl)) rfl rfl ?_; clear hf fa; intro fa hf
      refine sqv hf (r_pickA (b := (decide (l.1 ≤ most))) (e := (decide (l.2.1 = (0 : Int)))) rfl rfl rfl) rfl rfl rfl ?_; clear hf fa; intro fa hf
      refine sqv hf (r_assign rfl) rfl rfl rfl ?_; clear hf fa; intro fa hf
      apply wpList_nil
      (try simp only [Exit.then, Exit.inBlock, ↓reduceIte, Nat.reduceEqDiff])
      refine hK5 _ _ ?_
      refine wp_ret ?_
      (try simp only [Exit.then, Exit.inBlock])
      refine ret1 hf rfl rfl ?_
      refine ⟨?_, hb⟩; unfold rlimitsP; rw [hqt15_1b]; (try rfl)
    · have hqt15_1b := hqt15_1
      replace hqt15_1 := Bool.eq_false_iff.1 hqt15_1
      try simp only [ne_eq, decide_eq_true_eq, Bool.and_eq_true, Bool.or_eq_true, Bool.not_eq_true', decide_eq_false_iff_not] at hqt15_1
      refine wp_skip ?_
      (try simp only [Exit.then, Exit.inBlock, ↓reduceIte, Nat.reduceEqDiff])
      refine hK3 _ _ ?_
      refine wp_seq_k (fun K6 hK6 => ?_)
      refine wp_region_lit ?_
      refine sqv hf (r_move rfl) rfl rfl rfl ?_; clear hf fa; intro fa hf
      refine sqv hf (r_move rfl) rfl rfl rfl ?_; clear hf fa; intro fa hf
      refine sqv hf (r_le rfl rfl) rfl rfl rfl ?_; clear hf fa; intro fa hf
      refine sqv hf (r_move rfl) rfl rfl rfl ?_; clear hf fa; intro fa hf
      refine sqgT (act := (decide (l.1 ≤ l.2.1))) (ag := true) (c := (decide (l.1 ≤ l.2.1))) (v := (.int .i64 l.2.1)) hf rfl rfl rfl (fun hact => (r_move rfl)) rfl rfl ?_; clear hf fa; intro fa hf
      refine sqgT (act := (decide (l.1 ≤ l.2.1))) (ag := true) (c := (decide (l.1 ≤ l.2.1))) (v := (.int .i64 most)) hf rfl rfl rfl (fun hact => (r_move rfl)) rfl rfl ?_; clear hf fa; intro fa hf
      refine sqgT (act := (decide (l.1 ≤ l.2.1))) (ag := true) (c := (decide (l.1 ≤ l.2.1))) (v := (.bool (decide (l.2.1 ≤ most)))) hf rfl rfl rfl (fun hact => (r_le (gb_ev hact rfl) (gb_ev hact rfl))) rfl rfl ?_; clear hf fa; intro fa hf
      refine sqv hf (r_pickA (b := (decide (l.1 ≤ l.2.1))) (e := (decide (l.2.1 ≤ most))) rfl rfl rfl) rfl rfl rfl ?_; clear hf fa; intro fa hf
      refine sqv hf (r_assign rfl) rfl rfl rfl ?_; clear hf fa; intro fa hf
      apply wpList_nil
      (try simp only [Exit.then, Exit.inBlock, ↓reduceIte, Nat.reduceEqDiff])
      refine hK6 _ _ ?_
      refine wp_ret ?_
      (try simp only [Exit.then, Exit.inBlock])
      refine ret1 hf rfl rfl ?_
      refine ⟨?_, hb⟩; unfold rlimitsP; rw [hqt15_1b]; (try rfl)

def fitsP (l q : MLim) : Bool :=
  ((decide (q.1 ≤ l.1)) && ((!q.2.2.1) || (l.2.2.1 && (decide (l.2.1 ≤ q.2.1)))))

set_option maxHeartbeats 1000000 in
set_option maxRecDepth 100000 in
theorem fits_any (l q : MLim) (w : World)  : Calls Try.prog 31 #[(.agg #[(.int .u32 l.1), (.int .u32 l.2.1), (.bool l.2.2.1)]), (.agg #[(.int .u32 q.1), (.int .u32 q.2.1), (.bool q.2.2.1)])] w fun e w' => e = .returned (.bool (fitsP l q)) ∧ Below w.heap.size w w' := by
  refine sx_enter (L := [(0, (.agg #[(.int .u32 l.1), (.int .u32 l.2.1), (.bool l.2.2.1)])), (1, (.agg #[(.int .u32 q.1), (.int .u32 q.2.1), (.bool q.2.2.1)]))]) Try.func31 rfl rfl rfl rfl (fun fa hf => ?_)
  have hb : Below w.heap.size w w := Below.refl _ _
  refine wp_seq_k (fun K1 hK1 => ?_)
  refine wp_region_lit ?_
  refine sqdt hf (d_box (cs := #[(.int .u32 l.1), (.int .u32 l.2.1), (.bool l.2.2.1)]) rfl rfl) rfl rfl rfl ?_; clear hf fa; rintro fa _ w1 ⟨b1, rfl, hle1, hk1, he1⟩ hf
  have hBb1 : w.heap.size ≤ b1 := Nat.le_trans hb.size hle1
  replace hb := hb.trans (Below.mono he1 hb.size)
  refine sqdt hf (d_box (cs := #[(.int .u32 q.1), (.int .u32 q.2.1), (.bool q.2.2.1)]) rfl rfl) rfl rfl rfl ?_; clear hf fa; rintro fa _ w2 ⟨b2, rfl, hle2, hk2, he2⟩ hf
  have hBb2 : w.heap.size ≤ b2 := Nat.le_trans hb.size hle2
  have : b1 < b2 := Nat.lt_of_lt_of_le (blk_lt hk1) hle2
  replace hk1 := blk_ext hk1 he2
  replace hb := hb.trans (Below.mono he2 hb.size)
  refine sqv hf (r_assign rfl) rfl rfl rfl ?_; clear hf fa; intro fa hf
  apply wpList_nil
  (try simp only [Exit.then, Exit.inBlock, ↓reduceIte, Nat.reduceEqDiff])
  refine hK1 _ _ ?_
  refine wp_seq_k (fun K2 hK2 => ?_)
  refine wp_region_lit ?_
  refine sqv hf (r_fa rfl Try.underlying43 (f := 0) (q := 0) rfl (by kernel_rfl) rfl) rfl rfl rfl ?_; clear hf fa; intro fa hf
  refine sqv hf (r_load (v := (.int .u32 l.1)) rfl Try.underlying24 rfl (cell_blk hk1 rfl)) rfl rfl rfl ?_; clear hf fa; intro fa hf
  refine sqv hf (r_fa rfl Try.underlying43 (f := 0) (q := 0) rfl (by kernel_rfl) rfl) rfl rfl rfl ?_; clear hf fa; intro fa hf
  refine sqv hf (r_load (v := (.int .u32 q.1)) rfl Try.underlying24 rfl (cell_blk hk2 rfl)) rfl rfl rfl ?_; clear hf fa; intro fa hf
  refine sqv hf (r_ge rfl rfl) rfl rfl rfl ?_; clear hf fa; intro fa hf
  refine sqv hf (r_move rfl) rfl rfl rfl ?_; clear hf fa; intro fa hf
  refine sqgT (act := (decide (q.1 ≤ l.1))) (ag := true) (c := (decide (q.1 ≤ l.1))) (v := (.pointer (some ⟨b2, 2, none⟩))) hf rfl rfl rfl (fun hact => (r_fa rfl Try.underlying43 (f := 2) (q := 2) rfl (by kernel_rfl) rfl)) rfl rfl ?_; clear hf fa; intro fa hf
  refine sqgT (act := (decide (q.1 ≤ l.1))) (ag := true) (c := (decide (q.1 ≤ l.1))) (v := (.bool q.2.2.1)) hf rfl rfl rfl (fun hact => (r_load (v := (.bool q.2.2.1)) (gb_ev hact rfl) Try.underlying4 rfl (cell_blk hk2 rfl))) rfl rfl ?_; clear hf fa; intro fa hf
  refine sqgT (act := (decide (q.1 ≤ l.1))) (ag := true) (c := (decide (q.1 ≤ l.1))) (v := (.bool (!q.2.2.1))) hf rfl rfl rfl (fun hact => (r_not (gb_ev hact rfl))) rfl rfl ?_; clear hf fa; intro fa hf
  refine sqgT (act := (decide (q.1 ≤ l.1))) (ag := true) (c := (decide (q.1 ≤ l.1))) (v := (.bool (!q.2.2.1))) hf rfl rfl rfl (fun hact => (r_move (gb_ev hact rfl))) rfl rfl ?_; clear hf fa; intro fa hf
  refine sqgF (act := ((decide (q.1 ≤ l.1)) && !(!q.2.2.1))) (ag := (decide (q.1 ≤ l.1))) (c := (!q.2.2.1)) (v := (.pointer (some ⟨b1, 2, none⟩))) hf rfl rfl rfl (fun hact => (r_fa rfl Try.underlying43 (f := 2) (q := 2) rfl (by kernel_rfl) rfl)) rfl rfl ?_; clear hf fa; intro fa hf
  refine sqgF (act := ((decide (q.1 ≤ l.1)) && !(!q.2.2.1))) (ag := (decide (q.1 ≤ l.1))) (c := (!q.2.2.1)) (v := (.bool l.2.2.1)) hf rfl rfl rfl (fun hact => (r_load (v := (.bool l.2.2.1)) (gb_ev hact rfl) Try.underlying4 rfl (cell_blk hk1 rfl))) rfl rfl ?_; clear hf fa; intro fa hf
  refine sqgF (act := ((decide (q.1 ≤ l.1)) && !(!q.2.2.1))) (ag := (decide (q.1 ≤ l.1))) (c := (!q.2.2.1)) (v := (.bool l.2.2.1)) hf rfl rfl rfl (fun hact => (r_move (gb_ev hact rfl))) rfl rfl ?_; clear hf fa; intro fa hf
  refine sqgT (act := (((decide (q.1 ≤ l.1)) && !(!q.2.2.1)) && l.2.2.1)) (ag := ((decide (q.1 ≤ l.1)) && !(!q.2.2.1))) (c := l.2.2.1) (v := (.pointer (some ⟨b1, 1, none⟩))) hf rfl rfl rfl (fun hact => (r_fa rfl Try.underlying43 (f := 1) (q := 1) rfl (by kernel_rfl) rfl)) rfl rfl ?_; clear hf fa; intro fa hf
  refine sqgT (act := (((decide (q.1 ≤ l.1)) && !(!q.2.2.1)) && l.2.2.1)) (ag := ((decide (q.1 ≤ l.1)) && !(!q.2.2.1))) (c := l.2.2.1) (v := (.int .u32 l.2.1)) hf rfl rfl rfl (fun hact => (r_load (v := (.int .u32 l.2.1)) (gb_ev hact rfl) Try.underlying24 rfl (cell_blk hk1 rfl))) rfl rfl ?_; clear hf fa; intro fa hf
  refine sqgT (act := (((decide (q.1 ≤ l.1)) && !(!q.2.2.1)) && l.2.2.1)) (ag := ((decide (q.1 ≤ l.1)) && !(!q.2.2.1))) (c := l.2.2.1) (v := (.pointer (some ⟨b2, 1, none⟩))) hf rfl rfl rfl (fun hact => (r_fa rfl Try.underlying43 (f := 1) (q := 1) rfl (by kernel_rfl) rfl)) rfl rfl ?_; clear hf fa; intro fa hf
  refine sqgT (act := (((decide (q.1 ≤ l.1)) && !(!q.2.2.1)) && l.2.2.1)) (ag := ((decide (q.1 ≤ l.1)) && !(!q.2.2.1))) (c := l.2.2.1) (v := (.int .u32 q.2.1)) hf rfl rfl rfl (fun hact => (r_load (v := (.int .u32 q.2.1)) (gb_ev hact rfl) Try.underlying24 rfl (cell_blk hk2 rfl))) rfl rfl ?_; clear hf fa; intro fa hf
  refine sqgT (act := (((decide (q.1 ≤ l.1)) && !(!q.2.2.1)) && l.2.2.1)) (ag := ((decide (q.1 ≤ l.1)) && !(!q.2.2.1))) (c := l.2.2.1) (v := (.bool (decide (l.2.1 ≤ q.2.1)))) hf rfl rfl rfl (fun hact => (r_le (gb_ev hact rfl) (gb_ev hact rfl))) rfl rfl ?_; clear hf fa; intro fa hf
  refine sqgF (act := ((decide (q.1 ≤ l.1)) && !(!q.2.2.1))) (ag := (decide (q.1 ≤ l.1))) (c := (!q.2.2.1)) (v := (.bool (l.2.2.1 && (decide (l.2.1 ≤ q.2.1))))) hf rfl rfl rfl (fun hact => (r_pickA2 (q := ((decide (q.1 ≤ l.1)) && !(!q.2.2.1))) (b := l.2.2.1) (e := (decide (l.2.1 ≤ q.2.1))) hact rfl rfl rfl)) rfl rfl ?_; clear hf fa; intro fa hf
  refine sqgT (act := (decide (q.1 ≤ l.1))) (ag := true) (c := (decide (q.1 ≤ l.1))) (v := (.bool ((!q.2.2.1) || (l.2.2.1 && (decide (l.2.1 ≤ q.2.1)))))) hf rfl rfl rfl (fun hact => (r_pickO2 (q := (decide (q.1 ≤ l.1))) (b := (!q.2.2.1)) (e := (l.2.2.1 && (decide (l.2.1 ≤ q.2.1)))) hact rfl rfl rfl)) rfl rfl ?_; clear hf fa; intro fa hf
  refine sqv hf (r_pickA (b := (decide (q.1 ≤ l.1))) (e := ((!q.2.2.1) || (l.2.2.1 && (decide (l.2.1 ≤ q.2.1))))) rfl rfl rfl) rfl rfl rfl ?_; clear hf fa; intro fa hf
  refine sqv hf (r_assign rfl) rfl rfl rfl ?_; clear hf fa; intro fa hf
  apply wpList_nil
  (try simp only [Exit.then, Exit.inBlock, ↓reduceIte, Nat.reduceEqDiff])
  refine hK2 _ _ ?_
  refine wp_ret ?_
  (try simp only [Exit.then, Exit.inBlock])
  refine ret1 hf rfl rfl ?_
  refine ⟨?_, hb⟩; unfold fitsP; (try rfl)

theorem nb_t {b : Bool} (h : (!b) = true) : b = false := by cases b <;> simp_all
theorem nb_f {b : Bool} (h : (!b) = false) : b = true := by cases b <;> simp_all

set_option maxHeartbeats 1000000 in
set_option maxRecDepth 100000 in
theorem encl_any (l : MLim) (w : World) (hl1 : 0 ≤ l.1 ∧ l.1 < 4294967296) (hl2 : 0 ≤ l.2.1 ∧ l.2.1 < 4294967296) : Calls Try.prog 29 #[(.agg #[(.int .u32 l.1), (.int .u32 l.2.1), (.bool l.2.2.1)])] w fun e w' => ∃ v, e = .returned v ∧ Row 1 (vInt .u8) 5 w.heap.size w' v (encL l) ∧ Below w.heap.size w w' := by
  have hu1 := uL_len l.1.toNat (by omega); have hu2 := uL_len l.2.1.toNat (by omega)
  refine sx_enter (L := [(0, (.agg #[(.int .u32 l.1), (.int .u32 l.2.1), (.bool l.2.2.1)]))]) Try.func29 rfl rfl rfl rfl (fun fa hf => ?_)
  have hb : Below w.heap.size w w := Below.refl _ _
  refine wp_seq_k (fun K1 hK1 => ?_)
  refine wp_region_lit ?_
  refine sqdt hf (d_box (cs := #[(.int .u32 l.1), (.int .u32 l.2.1), (.bool l.2.2.1)]) rfl rfl) rfl rfl rfl ?_; clear hf fa; rintro fa _ w1 ⟨b1, rfl, hle1, hk1, he1⟩ hf
  have hBb1 : w.heap.size ≤ b1 := Nat.le_trans hb.size hle1
  replace hb := hb.trans (Below.mono he1 hb.size)
  refine sqv hf (r_assign rfl) rfl rfl rfl ?_; clear hf fa; intro fa hf
  apply wpList_nil
  (try simp only [Exit.then, Exit.inBlock, ↓reduceIte, Nat.reduceEqDiff])
  refine hK1 _ _ ?_
  refine wp_seq_k (fun K2 hK2 => ?_)
  refine wp_seq_k (fun K3 hK3 => ?_)
  refine wp_region_lit ?_
  refine sqv hf (r_fa rfl Try.underlying43 (f := 2) (q := 2) rfl (by kernel_rfl) rfl) rfl rfl rfl ?_; clear hf fa; intro fa hf
  refine sqv hf (r_load (v := (.bool l.2.2.1)) rfl Try.underlying4 rfl (cell_blk hk1 rfl)) rfl rfl rfl ?_; clear hf fa; intro fa hf
  refine sqv hf (r_not rfl) rfl rfl rfl ?_; clear hf fa; intro fa hf
  apply wpList_nil
  (try simp only [Exit.then, Exit.inBlock, ↓reduceIte, Nat.reduceEqDiff])
  refine hK3 _ _ ?_
  refine wp_cond_split (t := (!l.2.2.1)) (hf.ev rfl) (fun hqt5_1 => ?_) (fun hqt5_1 => ?_)
  · have hqt5_1b := hqt5_1
    try simp only [decide_eq_true_eq, Bool.and_eq_true, Bool.or_eq_true, Bool.not_eq_true', decide_eq_false_iff_not, ne_eq, Bool.not_eq_true] at hqt5_1
    refine wp_seq_k (fun K4 hK4 => ?_)
    refine wp_region_lit ?_
    refine sqdt hf (d_bslice (z := (.int .u8 (0 : Int))) (sz := 1) (vs := [(0, (.int .u8 (0 : Int)))]) (cs := #[(.int .u8 (0 : Int))]) rfl Try.underlying47 (by kernel_rfl) rfl (by kernel_rfl)) rfl rfl rfl ?_; clear hf fa; rintro fa _ w2 ⟨b2, rfl, hle2, hk2, he2⟩ hf
    have hBb2 : w.heap.size ≤ b2 := Nat.le_trans hb.size hle2
    have : b1 < b2 := Nat.lt_of_lt_of_le (blk_lt hk1) hle2
    replace hk1 := blk_ext hk1 he2
    replace hb := hb.trans (Below.mono he2 hb.size)
    refine sqv hf (r_fa rfl Try.underlying43 (f := 0) (q := 0) rfl (by kernel_rfl) rfl) rfl rfl rfl ?_; clear hf fa; intro fa hf
    refine sqv hf (r_load (v := (.int .u32 l.1)) rfl Try.underlying24 rfl (cell_blk hk1 rfl)) rfl rfl rfl ?_; clear hf fa; intro fa hf
    refine sqv hf (r_conv (C := l.1) rfl Try.underlying24 Try.underlying55 (by rw [IntKind.wrap_u64]; omega)) rfl rfl rfl ?_; clear hf fa; intro fa hf
    refine sqdt hf (d_callX (vs := [(.int .u64 l.1)]) rfl Try.func110 (by kernel_rfl) (by kernel_rfl) (uint_rowI l.1 (by omega) (by omega) _)) rfl rfl rfl ?_; clear hf fa; rintro fa v w3 ⟨hr1, he3⟩ hf; obtain ⟨ra1, rc1, rfl, hcrc1, hmrc1⟩ := Row.slice hr1
    replace hr1 := Row.rebase hr1 hb.size
    replace hk1 := blk_ext hk1 he3
    replace hk2 := blk_ext hk2 he3
    replace hb := hb.trans (Below.mono he3 hb.size)
    have hr2 := Row.of_new (k := 1) (V := (vInt .u8)) (l := [(0 : Int)]) (base := w.heap.size) hk2 hBb2 rfl rfl (by decide)
    refine sqdt hf (d_append (V := (vInt .u8)) (k := 1) (e := 5) (bytes := 1) (z := (.int .u8 (0 : Int))) (news := (uL l.1.toNat)) (base := w.heap.size) (by intros; rfl) (by intro x u hu; simp only [vInt, List.mem_singleton] at hu; subst hu; rfl) rfl rfl Try.underlying47 (by kernel_rfl) rfl rfl rfl hr2 (Row.rd (by intros; rfl) hr1) rfl (fun h => Row.nocap hr1 h) (by first | omega | (simp only [List.length_cons, List.length_nil, List.length_append, nums_len]; omega)) (by have := hb.size; omega)) rfl rfl rfl ?_; clear hf fa; rintro fa v w4 ⟨hr3, hg1⟩ hf; obtain ⟨ra2, rc2, rfl, hcrc2, hmrc2⟩ := Row.slice hr3
    replace hk1 := blk_row' hk1 hg1 (Row.ne_type hr2 hk1 rfl)
    replace hb := hb.trans (row_below hr2 hg1 hb.size (by have := hb.size; omega))
    refine sqv hf (r_assign rfl) rfl rfl rfl ?_; clear hf fa; intro fa hf
    apply wpList_nil
    (try simp only [Exit.then, Exit.inBlock, ↓reduceIte, Nat.reduceEqDiff])
    refine hK4 _ _ ?_
    refine wp_ret ?_
    (try simp only [Exit.then, Exit.inBlock])
    refine ret1 hf rfl rfl ?_
    have hE : encL l = ([(0 : Int)] ++ (uL l.1.toNat)) := by unfold encL; rw [nb_t hqt5_1b]; rfl
    exact ⟨_, rfl, by rw [hE]; exact hr3, hb⟩
  · have hqt5_1b := hqt5_1
    replace hqt5_1 := Bool.eq_false_iff.1 hqt5_1
    try simp only [ne_eq, decide_eq_true_eq, Bool.and_eq_true, Bool.or_eq_true, Bool.not_eq_true', decide_eq_false_iff_not] at hqt5_1
    refine wp_skip ?_
    (try simp only [Exit.then, Exit.inBlock, ↓reduceIte, Nat.reduceEqDiff])
    refine hK2 _ _ ?_
    refine wp_seq_k (fun K5 hK5 => ?_)
    refine wp_region_vnT 9 (fun _ wq => Below w1.heap.size w1 wq)
      (fun V S => [(fun x wq => ∃ b, x = .slice (some ⟨b, 0, none⟩) 1 1 ∧ w1.heap.size ≤ b ∧ (¬ S 5 → wq.heap[b]? = some (.cells #[(.int .u8 (1 : Int))] 5 (0, 0)))), (fun x _ => x = (.pointer (some ⟨b1, 0, none⟩))), (fun x _ => x = (.int .u32 l.1)), (fun x _ => x = (.int .u64 l.1)), (fun x wq => ∃ b, (∃ c, x = .slice (some ⟨b, 0, none⟩) (((uL l.1.toNat)).length) c) ∧ w1.heap.size ≤ b ∧ (¬ S 5 → Row 1 (vInt .u8) 5 w1.heap.size wq x (uL l.1.toNat))), (fun x wq => ∃ b, (∃ c, x = .slice (some ⟨b, 0, none⟩) ([(1 : Int)] ++ (uL l.1.toNat)).length c) ∧ w1.heap.size ≤ b ∧ Row 1 (vInt .u8) 5 w1.heap.size wq x ([(1 : Int)] ++ (uL l.1.toNat))), (fun x _ => x = (.pointer (some ⟨b1, 1, none⟩))), (fun x _ => x = (.int .u32 l.2.1)), (fun x _ => x = (.int .u64 l.2.1))])
      [0, 4]
      [[], [], [1], [2], [3], [0, 4], [], [6], [7], [], [], []]
      hf (by kernel_rfl) (by kernel_rfl) (by kernel_rfl) (fun _ _ => rfl) (fun _ _ => (Below.refl _ _).drew) (fun _ _ _ _ _ _ => rfl) ?_ ?_
    · skip
      intro V
      have hKP : ∀ (i : Nat) (S : Nat → Prop) (w : World), (∀ q ∈ ([5] : List Nat), q ≠ i) → ∀ j v w', (((fun (S : Nat → Prop) => ([(fun x wq => ∃ b, x = .slice (some ⟨b, 0, none⟩) 1 1 ∧ w1.heap.size ≤ b ∧ (¬ S 5 → wq.heap[b]? = some (.cells #[(.int .u8 (1 : Int))] 5 (0, 0)))), (fun x _ => x = (.pointer (some ⟨b1, 0, none⟩))), (fun x _ => x = (.int .u32 l.1)), (fun x _ => x = (.int .u64 l.1)), (fun x wq => ∃ b, (∃ c, x = .slice (some ⟨b, 0, none⟩) (((uL l.1.toNat)).length) c) ∧ w1.heap.size ≤ b ∧ (¬ S 5 → Row 1 (vInt .u8) 5 w1.heap.size wq x (uL l.1.toNat))), (fun x wq => ∃ b, (∃ c, x = .slice (some ⟨b, 0, none⟩) ([(1 : Int)] ++ (uL l.1.toNat)).length c) ∧ w1.heap.size ≤ b ∧ Row 1 (vInt .u8) 5 w1.heap.size wq x ([(1 : Int)] ++ (uL l.1.toNat))), (fun x _ => x = (.pointer (some ⟨b1, 1, none⟩))), (fun x _ => x = (.int .u32 l.2.1)), (fun x _ => x = (.int .u64 l.2.1))] : List (Value → World → Prop))) S).getD j (fun _ _ => True)) v w → Below w.heap.size w w' → (((fun (S : Nat → Prop) => ([(fun x wq => ∃ b, x = .slice (some ⟨b, 0, none⟩) 1 1 ∧ w1.heap.size ≤ b ∧ (¬ S 5 → wq.heap[b]? = some (.cells #[(.int .u8 (1 : Int))] 5 (0, 0)))), (fun x _ => x = (.pointer (some ⟨b1, 0, none⟩))), (fun x _ => x = (.int .u32 l.1)), (fun x _ => x = (.int .u64 l.1)), (fun x wq => ∃ b, (∃ c, x = .slice (some ⟨b, 0, none⟩) (((uL l.1.toNat)).length) c) ∧ w1.heap.size ≤ b ∧ (¬ S 5 → Row 1 (vInt .u8) 5 w1.heap.size wq x (uL l.1.toNat))), (fun x wq => ∃ b, (∃ c, x = .slice (some ⟨b, 0, none⟩) ([(1 : Int)] ++ (uL l.1.toNat)).length c) ∧ w1.heap.size ≤ b ∧ Row 1 (vInt .u8) 5 w1.heap.size wq x ([(1 : Int)] ++ (uL l.1.toNat))), (fun x _ => x = (.pointer (some ⟨b1, 1, none⟩))), (fun x _ => x = (.int .u32 l.2.1)), (fun x _ => x = (.int .u64 l.2.1))] : List (Value → World → Prop))) (ad i S)).getD j (fun _ _ => True)) v w' := by
        intro i S w hi j v w' h hB
        match j with
        | 0 =>
          obtain ⟨b, e1, e2, e3⟩ := h
          exact ⟨b, e1, e2, fun hn => blk_ext (e3 (fun hs => hn (.inr hs))) hB⟩
        | 1 =>
          exact h
        | 2 =>
          exact h
        | 3 =>
          exact h
        | 4 =>
          obtain ⟨b, e1, e2, e3⟩ := h
          exact ⟨b, e1, e2, fun hn => Row.ext (e3 (fun hs => hn (.inr hs))) hB⟩
        | 5 =>
          obtain ⟨b, e1, e2, e3⟩ := h
          exact ⟨b, e1, e2, Row.ext e3 hB⟩
        | 6 =>
          exact h
        | 7 =>
          exact h
        | 8 =>
          exact h
        | _ + 9 => trivial
      refine ⟨fun S wu0 hC hS hd hi => ?_, ?_⟩
      · skip
        replace hC : Below w1.heap.size w1 wu0 := hC
        refine uv_plain (C := fun _ wq => Below w1.heap.size w1 wq) (hKP 0 S wu0 (by decide)) (fun _ h1 h2 => Below.trans h1 (Below.mono h2 (Below.size h1))) hC hS ?_
        replace hb := hb.trans (hC.mono hb.size)
        replace hk1 := blk_ext hk1 hC
        refine Does.mono (d_bslice (z := (.int .u8 (0 : Int))) (sz := 1) (vs := [(0, (.int .u8 (1 : Int)))]) (cs := #[(.int .u8 (1 : Int))]) rfl Try.underlying47 (by kernel_rfl) rfl (by kernel_rfl)) ?_
        rintro _ w' ⟨b, rfl, hF⟩
        exact ⟨hF.2.2, ⟨b, rfl, Nat.le_trans hC.size hF.1, fun _ => hF.2.1⟩, isfr rfl hF.1 (blk_lt hF.2.1)⟩
      refine ⟨fun S wu1 hC hS hd hi => ?_, ?_⟩
      · skip
        replace hC : Below w1.heap.size w1 wu1 := hC
        refine uv_plain (C := fun _ wq => Below w1.heap.size w1 wq) (hKP 1 S wu1 (by decide)) (fun _ h1 h2 => Below.trans h1 (Below.mono h2 (Below.size h1))) hC hS ?_
        replace hb := hb.trans (hC.mono hb.size)
        replace hk1 := blk_ext hk1 hC
        exact Runs.does (r_fa rfl Try.underlying43 (f := 0) (q := 0) rfl (by kernel_rfl) rfl) ⟨Below.refl _ _, rfl, nofr rfl⟩
      refine ⟨fun S wu2 hC hS hd hi => ?_, ?_⟩
      · skip
        replace hC : Below w1.heap.size w1 wu2 := hC
        refine uv_plain (C := fun _ wq => Below w1.heap.size w1 wq) (hKP 2 S wu2 (by decide)) (fun _ h1 h2 => Below.trans h1 (Below.mono h2 (Below.size h1))) hC hS ?_
        have h1 := hS.post 1 (hd 1 (by decide))
        replace h1 : V 1 = (.pointer (some ⟨b1, 0, none⟩)) := h1
        replace hb := hb.trans (hC.mono hb.size)
        replace hk1 := blk_ext hk1 hC
        exact Runs.does (r_load (v := (.int .u32 l.1)) (congrArg some h1) Try.underlying24 rfl (cell_blk hk1 rfl)) ⟨Below.refl _ _, rfl, nofr rfl⟩
      refine ⟨fun S wu3 hC hS hd hi => ?_, ?_⟩
      · skip
        replace hC : Below w1.heap.size w1 wu3 := hC
        refine uv_plain (C := fun _ wq => Below w1.heap.size w1 wq) (hKP 3 S wu3 (by decide)) (fun _ h1 h2 => Below.trans h1 (Below.mono h2 (Below.size h1))) hC hS ?_
        have h2 := hS.post 2 (hd 2 (by decide))
        replace h2 : V 2 = (.int .u32 l.1) := h2
        replace hb := hb.trans (hC.mono hb.size)
        replace hk1 := blk_ext hk1 hC
        exact Runs.does (r_conv (C := l.1) (congrArg some h2) Try.underlying24 Try.underlying55 (by rw [IntKind.wrap_u64]; omega)) ⟨Below.refl _ _, rfl, nofr rfl⟩
      refine ⟨fun S wu4 hC hS hd hi => ?_, ?_⟩
      · skip
        replace hC : Below w1.heap.size w1 wu4 := hC
        refine uv_plain (C := fun _ wq => Below w1.heap.size w1 wq) (hKP 4 S wu4 (by decide)) (fun _ h1 h2 => Below.trans h1 (Below.mono h2 (Below.size h1))) hC hS ?_
        have h3 := hS.post 3 (hd 3 (by decide))
        replace h3 : V 3 = (.int .u64 l.1) := h3
        replace hb := hb.trans (hC.mono hb.size)
        replace hk1 := blk_ext hk1 hC
        refine Does.mono (d_callX (vs := [(.int .u64 l.1)]) (show [some (V 3)] = [some (.int .u64 l.1)] from by rw [h3]) Try.func110 (by kernel_rfl) (by kernel_rfl) (uint_rowI l.1 (by omega) (by omega) _)) ?_
        rintro _ w' ⟨hF2, hF3⟩
        obtain ⟨ra, rc, rfl, _, _⟩ := Row.slice hF2
        obtain ⟨b, rfl, hF, hF4⟩ := Row.some hF2 (by first | omega | (simp only [Sl.list_length, List.length_set, List.length_take, List.length_append, List.length_replicate, List.length_cons, List.length_nil, List.length_map, nums_len]; omega))
        exact ⟨hF3, ⟨b, ⟨rc, rfl⟩, Nat.le_trans hC.size hF, fun _ => hF2.rebase hC.size⟩, isfr rfl hF (Row.lt hF2 _ rfl).2⟩
      refine ⟨fun S wu5 hC hS hd hi => ?_, ?_⟩
      · skip
        replace hC : Below w1.heap.size w1 wu5 := hC
        have h0 := hS.post 0 (hd 0 (by decide))
        obtain ⟨b3, h0, hle3, hk3⟩ := h0
        replace hk3 := hk3 hi
        have h4 := hS.post 4 (hd 4 (by decide))
        obtain ⟨mb1, ⟨mc1, h4⟩, hle4, hr4⟩ := h4
        replace hr4 := hr4 hi
        rw [h4] at hr4
        replace hb := hb.trans (hC.mono hb.size)
        replace hk1 := blk_ext hk1 hC
        have hrA := Row.of_new (k := 1) (V := (vInt .u8)) (l := [(1 : Int)]) (base := w1.heap.size) hk3 hle3 rfl rfl (by decide)
        refine Does.mono (d_append (V := (vInt .u8)) (k := 1) (e := 5) (bytes := 1) (z := (.int .u8 (0 : Int))) (news := (uL l.1.toNat)) (base := w1.heap.size) (by intros; rfl) (by intro x u hu; simp only [vInt, List.mem_singleton] at hu; subst hu; rfl) (congrArg some h0) (congrArg some h4) Try.underlying47 (by kernel_rfl) rfl rfl rfl hrA (Row.rd (by intros; rfl) hr4) rfl (fun h => by cases h) (by first | omega | (simp only [List.length_cons, List.length_nil, List.length_append, nums_len]; omega)) hC.size) ?_
        rintro v' wz ⟨hY, hgY⟩
        obtain ⟨ra, rc, rfl, _, _⟩ := Row.slice hY
        obtain ⟨br, rfl, hbr, _⟩ := Row.some hY (by first | omega | (simp only [Sl.list_length, List.length_set, List.length_take, List.length_append, List.length_replicate, List.length_cons, List.length_nil, List.length_map, nums_len]; omega))
        refine ⟨⟨hC.trans (row_below hrA hgY hC.size (Nat.le_refl _)), fun j hj => ?_, hgY.size⟩, ⟨br, ⟨rc, rfl⟩, hbr, hY⟩, nofr rfl⟩
        match j with
        | 0 =>
          exact ⟨b3, h0, hle3, fun hn => absurd (.inl rfl) hn⟩
        | 1 =>
          exact hS.post 1 hj
        | 2 =>
          exact hS.post 2 hj
        | 3 =>
          exact hS.post 3 hj
        | 4 =>
          exact ⟨mb1, ⟨mc1, h4⟩, hle4, fun hn => absurd (.inl rfl) hn⟩
        | 5 =>
          exact absurd hj hi
        | 6 =>
          exact hS.post 6 hj
        | 7 =>
          exact hS.post 7 hj
        | 8 =>
          exact hS.post 8 hj
        | _ + 9 => trivial
      refine ⟨fun S wu6 hC hS hd hi => ?_, ?_⟩
      · skip
        replace hC : Below w1.heap.size w1 wu6 := hC
        refine uv_plain (C := fun _ wq => Below w1.heap.size w1 wq) (hKP 6 S wu6 (by decide)) (fun _ h1 h2 => Below.trans h1 (Below.mono h2 (Below.size h1))) hC hS ?_
        replace hb := hb.trans (hC.mono hb.size)
        replace hk1 := blk_ext hk1 hC
        exact Runs.does (r_fa rfl Try.underlying43 (f := 1) (q := 1) rfl (by kernel_rfl) rfl) ⟨Below.refl _ _, rfl, nofr rfl⟩
      refine ⟨fun S wu7 hC hS hd hi => ?_, ?_⟩
      · skip
        replace hC : Below w1.heap.size w1 wu7 := hC
        refine uv_plain (C := fun _ wq => Below w1.heap.size w1 wq) (hKP 7 S wu7 (by decide)) (fun _ h1 h2 => Below.trans h1 (Below.mono h2 (Below.size h1))) hC hS ?_
        have h6 := hS.post 6 (hd 6 (by decide))
        replace h6 : V 6 = (.pointer (some ⟨b1, 1, none⟩)) := h6
        replace hb := hb.trans (hC.mono hb.size)
        replace hk1 := blk_ext hk1 hC
        exact Runs.does (r_load (v := (.int .u32 l.2.1)) (congrArg some h6) Try.underlying24 rfl (cell_blk hk1 rfl)) ⟨Below.refl _ _, rfl, nofr rfl⟩
      refine ⟨fun S wu8 hC hS hd hi => ?_, ?_⟩
      · skip
        replace hC : Below w1.heap.size w1 wu8 := hC
        refine uv_plain (C := fun _ wq => Below w1.heap.size w1 wq) (hKP 8 S wu8 (by decide)) (fun _ h1 h2 => Below.trans h1 (Below.mono h2 (Below.size h1))) hC hS ?_
        have h7 := hS.post 7 (hd 7 (by decide))
        replace h7 : V 7 = (.int .u32 l.2.1) := h7
        replace hb := hb.trans (hC.mono hb.size)
        replace hk1 := blk_ext hk1 hC
        exact Runs.does (r_conv (C := l.2.1) (congrArg some h7) Try.underlying24 Try.underlying55 (by rw [IntKind.wrap_u64]; omega)) ⟨Below.refl _ _, rfl, nofr rfl⟩
      trivial
    · skip
      clear hf fa; intro V S w5 fa hall he4 hp hnb hf
      have hv0 := postsHold_at hp 0 rfl
      obtain ⟨b3, hv0, hle3, hk3⟩ := hv0
      clear hk3
      have hBb3 : w.heap.size ≤ b3 := Nat.le_trans hb.size hle3
      have hv1 := postsHold_at hp 1 rfl
      replace hv1 : V 1 = (.pointer (some ⟨b1, 0, none⟩)) := hv1
      have hv2 := postsHold_at hp 2 rfl
      replace hv2 : V 2 = (.int .u32 l.1) := hv2
      have hv3 := postsHold_at hp 3 rfl
      replace hv3 : V 3 = (.int .u64 l.1) := hv3
      have hv4 := postsHold_at hp 4 rfl
      obtain ⟨mb1, ⟨mc1, hv4⟩, hle4, hr4⟩ := hv4
      clear hr4
      have hBmb1 : w.heap.size ≤ mb1 := Nat.le_trans hb.size hle4
      have hv5 := postsHold_at hp 5 rfl
      obtain ⟨mb2, ⟨mc2, hv5⟩, hle5, hr5⟩ := hv5
      rw [hv5] at hr5
      replace hr5 := Row.rebase hr5 hb.size
      have hcmc2 := Row.caps hr5
      have hBmb2 : w.heap.size ≤ mb2 := Nat.le_trans hb.size hle5
      have hv6 := postsHold_at hp 6 rfl
      replace hv6 : V 6 = (.pointer (some ⟨b1, 1, none⟩)) := hv6
      have hv7 := postsHold_at hp 7 rfl
      replace hv7 : V 7 = (.int .u32 l.2.1) := hv7
      have hv8 := postsHold_at hp 8 rfl
      replace hv8 : V 8 = (.int .u64 l.2.1) := hv8
      simp only [List.take_succ_cons, List.take_zero, insAll, ins, hv0, hv1, hv2, hv3, hv4, hv5, hv6, hv7, hv8] at hf
      have : b3 ≠ mb1 := two_blk (i := 0) (j := 4) hnb rfl rfl rfl rfl rfl (by rw [hv0]; rfl) (by rw [hv4]; rfl)
      have : b1 < b3 := Nat.lt_of_lt_of_le (blk_lt hk1) hle3
      have : b1 < mb1 := Nat.lt_of_lt_of_le (blk_lt hk1) hle4
      clear hp hnb hall hv0 hv1 hv2 hv3 hv4 hv5 hv6 hv7 hv8
      replace hk1 := blk_ext hk1 he4
      replace hb := hb.trans (Below.mono he4 hb.size)
      simp only [List.drop_succ_cons, List.drop_zero]
      refine sqdt hf (d_callX (vs := [(.int .u64 l.2.1)]) rfl Try.func110 (by kernel_rfl) (by kernel_rfl) (uint_rowI l.2.1 (by omega) (by omega) _)) rfl rfl rfl ?_; clear hf fa; rintro fa v w6 ⟨hr6, he5⟩ hf; obtain ⟨ra3, rc3, rfl, hcrc3, hmrc3⟩ := Row.slice hr6
      replace hr6 := Row.rebase hr6 hb.size
      replace hk1 := blk_ext hk1 he5
      replace hr5 := Row.ext hr5 he5
      replace hb := hb.trans (Below.mono he5 hb.size)
      refine sqdt hf (d_append (V := (vInt .u8)) (k := 1) (e := 5) (bytes := 1) (z := (.int .u8 (0 : Int))) (news := (uL l.2.1.toNat)) (base := w.heap.size) (by intros; rfl) (by intro x u hu; simp only [vInt, List.mem_singleton] at hu; subst hu; rfl) rfl rfl Try.underlying47 (by kernel_rfl) rfl rfl rfl hr5 (Row.rd (by intros; rfl) hr6) rfl (fun h => Row.nocap hr6 h) (by first | omega | (simp only [List.length_cons, List.length_nil, List.length_append, nums_len]; omega)) (by have := hb.size; omega)) rfl rfl rfl ?_; clear hf fa; rintro fa v w7 ⟨hr7, hg2⟩ hf; obtain ⟨ra4, rc4, rfl, hcrc4, hmrc4⟩ := Row.slice hr7
      replace hk1 := blk_row' hk1 hg2 (Row.ne_type hr5 hk1 rfl)
      replace hb := hb.trans (row_below hr5 hg2 hb.size (by have := hb.size; omega))
      refine sqv hf (r_assign rfl) rfl rfl rfl ?_; clear hf fa; intro fa hf
      apply wpList_nil
      (try simp only [Exit.then, Exit.inBlock, ↓reduceIte, Nat.reduceEqDiff])
      refine hK5 _ _ ?_
      refine wp_ret ?_
      (try simp only [Exit.then, Exit.inBlock])
      refine ret1 hf rfl rfl ?_
      have hE : encL l = (([(1 : Int)] ++ (uL l.1.toNat)) ++ (uL l.2.1.toNat)) := by unfold encL; rw [nb_f hqt5_1b]; rfl
      exact ⟨_, rfl, by rw [hE]; exact hr7, hb⟩

set_option maxHeartbeats 1000000 in
set_option maxRecDepth 100000 in
theorem rencl_any (l : MLim) (w : World) (hl1 : 0 ≤ l.1 ∧ l.1 < 4294967296) (hl2 : 0 ≤ l.2.1 ∧ l.2.1 < 4294967296) : Calls Try.prog 30 #[(.agg #[(.int .u32 l.1), (.int .u32 l.2.1), (.bool l.2.2.1)])] w fun e w' => e = .returned (.string (strOfNums (encL l))) ∧ Below w.heap.size w w' := by
  refine sx_enter (L := [(0, (.agg #[(.int .u32 l.1), (.int .u32 l.2.1), (.bool l.2.2.1)]))]) Try.func30 rfl rfl rfl rfl (fun fa hf => ?_)
  have hb : Below w.heap.size w w := Below.refl _ _
  refine wp_seq_k (fun K1 hK1 => ?_)
  refine wp_region_lit ?_
  refine sqdt hf (d_box (cs := #[(.int .u32 l.1), (.int .u32 l.2.1), (.bool l.2.2.1)]) rfl rfl) rfl rfl rfl ?_; clear hf fa; rintro fa _ w1 ⟨b1, rfl, hle1, hk1, he1⟩ hf
  have hBb1 : w.heap.size ≤ b1 := Nat.le_trans hb.size hle1
  replace hb := hb.trans (Below.mono he1 hb.size)
  refine sqv hf (r_assign rfl) rfl rfl rfl ?_; clear hf fa; intro fa hf
  apply wpList_nil
  (try simp only [Exit.then, Exit.inBlock, ↓reduceIte, Nat.reduceEqDiff])
  refine hK1 _ _ ?_
  refine wp_seq_k (fun K2 hK2 => ?_)
  refine wp_seq_k (fun K3 hK3 => ?_)
  refine wp_region_lit ?_
  refine sqv hf (r_fa rfl Try.underlying43 (f := 2) (q := 2) rfl (by kernel_rfl) rfl) rfl rfl rfl ?_; clear hf fa; intro fa hf
  refine sqv hf (r_load (v := (.bool l.2.2.1)) rfl Try.underlying4 rfl (cell_blk hk1 rfl)) rfl rfl rfl ?_; clear hf fa; intro fa hf
  apply wpList_nil
  (try simp only [Exit.then, Exit.inBlock, ↓reduceIte, Nat.reduceEqDiff])
  refine hK3 _ _ ?_
  refine wp_cond_split (t := l.2.2.1) (hf.ev rfl) (fun hqt4_1 => ?_) (fun hqt4_1 => ?_)
  · have hqt4_1b := hqt4_1
    try simp only [decide_eq_true_eq, Bool.and_eq_true, Bool.or_eq_true, Bool.not_eq_true', decide_eq_false_iff_not, ne_eq, Bool.not_eq_true] at hqt4_1
    refine wp_seq_k (fun K4 hK4 => ?_)
    refine wp_region_un (fun wq => Below w1.heap.size w1 wq) (fun w w' => Below w.heap.size w w')
      (fun V => [(fun x _ => x = (.pointer (some ⟨b1, 0, none⟩))), (fun x _ => x = (.int .u32 l.1)), (fun x _ => x = (.int .i64 l.1)), (fun x _ => x = (.string (cntS l.1.toNat))), (fun x _ => x = (.string (⟨#[1]⟩ ++ (cntS l.1.toNat)))), (fun x _ => x = (.pointer (some ⟨b1, 1, none⟩))), (fun x _ => x = (.int .u32 l.2.1)), (fun x _ => x = (.int .i64 l.2.1)), (fun x _ => x = (.string (cntS l.2.1.toNat))), (fun x _ => x = (.string ((⟨#[1]⟩ ++ (cntS l.1.toNat)) ++ (cntS l.2.1.toNat)))), (fun x _ => x = (.string ((⟨#[1]⟩ ++ (cntS l.1.toNat)) ++ (cntS l.2.1.toNat))))])
      []
      [[], [0], [1], [2], [3], [], [5], [6], [3, 7], [4, 8], [0, 1, 2, 3, 4, 5, 6, 7, 8, 9]]
      hf (by kernel_rfl) (by kernel_rfl) (fun _ => rfl) ((Below.refl _ _).drew) (fun a b h1 h2 => h1.trans (h2.mono h1.size)) (fun _ _ h => h.size) (fun V => ⟨kept_eq, kept_eq, kept_eq, kept_eq, kept_eq, kept_eq, kept_eq, kept_eq, kept_eq, kept_eq, kept_eq, trivial⟩) (fun _ _ _ _ _ => rfl) ?_ ?_
    · skip
      intro V
      refine ⟨fun wu0 hC hd => ?_, ?_⟩
      · clear hd
        replace hb := hb.trans (hC.mono hb.size)
        replace hk1 := blk_ext hk1 hC
        exact Runs.does (r_fa rfl Try.underlying43 (f := 0) (q := 0) rfl (by kernel_rfl) rfl) ⟨Below.refl _ _, rfl, nofr rfl⟩
      refine ⟨fun wu1 hC hd => ?_, ?_⟩
      · obtain ⟨h0, _⟩ := hd
        skip
        replace h0 : V 0 = (.pointer (some ⟨b1, 0, none⟩)) := h0
        replace hb := hb.trans (hC.mono hb.size)
        replace hk1 := blk_ext hk1 hC
        exact Runs.does (r_load (v := (.int .u32 l.1)) (congrArg some h0) Try.underlying24 rfl (cell_blk hk1 rfl)) ⟨Below.refl _ _, rfl, nofr rfl⟩
      refine ⟨fun wu2 hC hd => ?_, ?_⟩
      · obtain ⟨h1, _⟩ := hd
        skip
        replace h1 : V 1 = (.int .u32 l.1) := h1
        replace hb := hb.trans (hC.mono hb.size)
        replace hk1 := blk_ext hk1 hC
        exact Runs.does (r_conv (C := l.1) (congrArg some h1) Try.underlying24 Try.underlying3 (by rw [IntKind.wrap_i64]; omega)) ⟨Below.refl _ _, rfl, nofr rfl⟩
      refine ⟨fun wu3 hC hd => ?_, ?_⟩
      · obtain ⟨h2, _⟩ := hd
        skip
        replace h2 : V 2 = (.int .i64 l.1) := h2
        replace hb := hb.trans (hC.mono hb.size)
        replace hk1 := blk_ext hk1 hC
        refine Does.mono (d_callB (vs := [(.int .i64 l.1)]) (show [some (V 2)] = [some (.int .i64 l.1)] from by rw [h2]) Try.func111 (by kernel_rfl) (by kernel_rfl) (count_anyI l.1 (by omega) (by omega) _)) (fun _ _ h => ⟨h.2, h.1, nofr rfl⟩)
      refine ⟨fun wu4 hC hd => ?_, ?_⟩
      · obtain ⟨h3, _⟩ := hd
        skip
        replace h3 : V 3 = (.string (cntS l.1.toNat)) := h3
        replace hb := hb.trans (hC.mono hb.size)
        replace hk1 := blk_ext hk1 hC
        exact Runs.does (r_sadd rfl (congrArg some h3) (by have : ((⟨#[1]⟩) : ByteArray).size = 1 := rfl; have := cntS_le (n := l.1.toNat) (by omega); omega)) ⟨Below.refl _ _, rfl, nofr rfl⟩
      refine ⟨fun wu5 hC hd => ?_, ?_⟩
      · clear hd
        replace hb := hb.trans (hC.mono hb.size)
        replace hk1 := blk_ext hk1 hC
        exact Runs.does (r_fa rfl Try.underlying43 (f := 1) (q := 1) rfl (by kernel_rfl) rfl) ⟨Below.refl _ _, rfl, nofr rfl⟩
      refine ⟨fun wu6 hC hd => ?_, ?_⟩
      · obtain ⟨h5, _⟩ := hd
        skip
        replace h5 : V 5 = (.pointer (some ⟨b1, 1, none⟩)) := h5
        replace hb := hb.trans (hC.mono hb.size)
        replace hk1 := blk_ext hk1 hC
        exact Runs.does (r_load (v := (.int .u32 l.2.1)) (congrArg some h5) Try.underlying24 rfl (cell_blk hk1 rfl)) ⟨Below.refl _ _, rfl, nofr rfl⟩
      refine ⟨fun wu7 hC hd => ?_, ?_⟩
      · obtain ⟨h6, _⟩ := hd
        skip
        replace h6 : V 6 = (.int .u32 l.2.1) := h6
        replace hb := hb.trans (hC.mono hb.size)
        replace hk1 := blk_ext hk1 hC
        exact Runs.does (r_conv (C := l.2.1) (congrArg some h6) Try.underlying24 Try.underlying3 (by rw [IntKind.wrap_i64]; omega)) ⟨Below.refl _ _, rfl, nofr rfl⟩
      refine ⟨fun wu8 hC hd => ?_, ?_⟩
      · obtain ⟨h3, h7, _⟩ := hd
        skip
        skip
        replace h3 : V 3 = (.string (cntS l.1.toNat)) := h3
        replace h7 : V 7 = (.int .i64 l.2.1) := h7
        replace hb := hb.trans (hC.mono hb.size)
        replace hk1 := blk_ext hk1 hC
        refine Does.mono (d_callB (vs := [(.int .i64 l.2.1)]) (show [some (V 7)] = [some (.int .i64 l.2.1)] from by rw [h7]) Try.func111 (by kernel_rfl) (by kernel_rfl) (count_anyI l.2.1 (by omega) (by omega) _)) (fun _ _ h => ⟨h.2, h.1, nofr rfl⟩)
      refine ⟨fun wu9 hC hd => ?_, ?_⟩
      · obtain ⟨h4, h8, _⟩ := hd
        skip
        skip
        replace h4 : V 4 = (.string (⟨#[1]⟩ ++ (cntS l.1.toNat))) := h4
        replace h8 : V 8 = (.string (cntS l.2.1.toNat)) := h8
        replace hb := hb.trans (hC.mono hb.size)
        replace hk1 := blk_ext hk1 hC
        exact Runs.does (r_sadd (congrArg some h4) (congrArg some h8) (by have : ((⟨#[1]⟩) : ByteArray).size = 1 := rfl; have := cntS_le (n := l.1.toNat) (by omega); have := sz_app ⟨#[1]⟩ (cntS l.1.toNat); have := cntS_le (n := l.2.1.toNat) (by omega); omega)) ⟨Below.refl _ _, rfl, nofr rfl⟩
      refine ⟨fun wu10 hC hd => ?_, ?_⟩
      · obtain ⟨h0, h1, h2, h3, h4, h5, h6, h7, h8, h9, _⟩ := hd
        skip
        skip
        skip
        skip
        skip
        skip
        skip
        skip
        skip
        skip
        replace h0 : V 0 = (.pointer (some ⟨b1, 0, none⟩)) := h0
        replace h1 : V 1 = (.int .u32 l.1) := h1
        replace h2 : V 2 = (.int .i64 l.1) := h2
        replace h3 : V 3 = (.string (cntS l.1.toNat)) := h3
        replace h4 : V 4 = (.string (⟨#[1]⟩ ++ (cntS l.1.toNat))) := h4
        replace h5 : V 5 = (.pointer (some ⟨b1, 1, none⟩)) := h5
        replace h6 : V 6 = (.int .u32 l.2.1) := h6
        replace h7 : V 7 = (.int .i64 l.2.1) := h7
        replace h8 : V 8 = (.string (cntS l.2.1.toNat)) := h8
        replace h9 : V 9 = (.string ((⟨#[1]⟩ ++ (cntS l.1.toNat)) ++ (cntS l.2.1.toNat))) := h9
        replace hb := hb.trans (hC.mono hb.size)
        replace hk1 := blk_ext hk1 hC
        exact Runs.does (r_assign (congrArg some h9)) ⟨Below.refl _ _, rfl, nofr rfl⟩
      trivial
    · skip
      clear hf fa; intro V w2 fa he2 hp hnb hf
      have hv0 : V 0 = (.pointer (some ⟨b1, 0, none⟩)) := postsHold_at hp 0 rfl
      have hv1 : V 1 = (.int .u32 l.1) := postsHold_at hp 1 rfl
      have hv2 : V 2 = (.int .i64 l.1) := postsHold_at hp 2 rfl
      have hv3 : V 3 = (.string (cntS l.1.toNat)) := postsHold_at hp 3 rfl
      have hv4 : V 4 = (.string (⟨#[1]⟩ ++ (cntS l.1.toNat))) := postsHold_at hp 4 rfl
      have hv5 : V 5 = (.pointer (some ⟨b1, 1, none⟩)) := postsHold_at hp 5 rfl
      have hv6 : V 6 = (.int .u32 l.2.1) := postsHold_at hp 6 rfl
      have hv7 : V 7 = (.int .i64 l.2.1) := postsHold_at hp 7 rfl
      have hv8 : V 8 = (.string (cntS l.2.1.toNat)) := postsHold_at hp 8 rfl
      have hv9 : V 9 = (.string ((⟨#[1]⟩ ++ (cntS l.1.toNat)) ++ (cntS l.2.1.toNat))) := postsHold_at hp 9 rfl
      have hv10 : V 10 = (.string ((⟨#[1]⟩ ++ (cntS l.1.toNat)) ++ (cntS l.2.1.toNat))) := postsHold_at hp 10 rfl
      simp only [List.take_succ_cons, List.take_zero, insAll, ins, hv0, hv1, hv2, hv3, hv4, hv5, hv6, hv7, hv8, hv9, hv10] at hf
      clear hp hnb hv0 hv1 hv2 hv3 hv4 hv5 hv6 hv7 hv8 hv9 hv10
      replace hk1 := blk_ext hk1 he2
      replace hb := hb.trans (Below.mono he2 hb.size)
      (try simp only [Exit.then, Exit.inBlock, ↓reduceIte, Nat.reduceEqDiff])
      refine hK4 _ _ ?_
      refine wp_ret ?_
      (try simp only [Exit.then, Exit.inBlock])
      refine ret1 hf rfl rfl ?_
      rw [encL_str, hqt4_1b]; exact ⟨rfl, hb⟩
  · have hqt4_1b := hqt4_1
    replace hqt4_1 := Bool.eq_false_iff.1 hqt4_1
    try simp only [ne_eq, decide_eq_true_eq, Bool.and_eq_true, Bool.or_eq_true, Bool.not_eq_true', decide_eq_false_iff_not] at hqt4_1
    refine wp_skip ?_
    (try simp only [Exit.then, Exit.inBlock, ↓reduceIte, Nat.reduceEqDiff])
    refine hK2 _ _ ?_
    refine wp_seq_k (fun K5 hK5 => ?_)
    refine wp_region_lit ?_
    refine sqv hf (r_fa rfl Try.underlying43 (f := 0) (q := 0) rfl (by kernel_rfl) rfl) rfl rfl rfl ?_; clear hf fa; intro fa hf
    refine sqv hf (r_load (v := (.int .u32 l.1)) rfl Try.underlying24 rfl (cell_blk hk1 rfl)) rfl rfl rfl ?_; clear hf fa; intro fa hf
    refine sqv hf (r_conv (C := l.1) rfl Try.underlying24 Try.underlying3 (by rw [IntKind.wrap_i64]; omega)) rfl rfl rfl ?_; clear hf fa; intro fa hf
    refine sqdt hf (d_callB (vs := [(.int .i64 l.1)]) rfl Try.func111 (by kernel_rfl) (by kernel_rfl) (count_anyI l.1 (by omega) (by omega) _)) rfl rfl rfl ?_; clear hf fa; rintro fa _ w3 ⟨rfl, he3⟩ hf
    replace hk1 := blk_ext hk1 he3
    replace hb := hb.trans (Below.mono he3 hb.size)
    refine sqv hf (r_sadd rfl rfl (by have : ((⟨#[0]⟩) : ByteArray).size = 1 := rfl; have := cntS_le (n := l.1.toNat) (by omega); omega)) rfl rfl rfl ?_; clear hf fa; intro fa hf
    refine sqv hf (r_assign rfl) rfl rfl rfl ?_; clear hf fa; intro fa hf
    apply wpList_nil
    (try simp only [Exit.then, Exit.inBlock, ↓reduceIte, Nat.reduceEqDiff])
    refine hK5 _ _ ?_
    refine wp_ret ?_
    (try simp only [Exit.then, Exit.inBlock])
    refine ret1 hf rfl rfl ?_
    rw [encL_str, hqt4_1b]; exact ⟨rfl, hb⟩
end Go.Proofs.Ytcmdajkkdognfaa
