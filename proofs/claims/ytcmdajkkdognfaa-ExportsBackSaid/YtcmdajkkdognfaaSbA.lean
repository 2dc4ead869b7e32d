/- What is proved here: the example of chapter 05. -/
import Derived.Test.YtcmdajkkdognfaaSnE
import Derived.Test.YtcmdajkkdognfaaVaA
namespace Go.Proofs.Ytcmdajkkdognfaa
open Go.RowKit
set_option linter.unusedVariables false
set_option linter.unusedSimpArgs false
def rfuncXP (t : MFt) : Int :=
  bif ((decide ((1000 : Int) < ((t.1.size : Nat) : Int))) || (decide ((1 : Int) < ((t.2.1.size : Nat) : Int)))) then (29 : Int)
  else (valsP (t.1 ++ t.2.1))

set_option maxHeartbeats 1000000 in
set_option maxRecDepth 100000 in
theorem rfuncX_any (t : MFt) (w : World)  : Calls Try.prog 43 #[(.agg #[(.string t.1), (.string t.2.1)])] w fun e w' => e = .returned (.int .i64 ((rfuncXP t))) ∧ Below w.heap.size w w' := by
  refine sx_enter (L := [(0, (.agg #[(.string t.1), (.string t.2.1)]))]) Try.func43 rfl rfl rfl rfl (fun fa hf => ?_)
  have hb : Below w.heap.size w w := Below.refl _ _
  refine wp_seq_k (fun K1 hK1 => ?_)
  refine wp_region_lit ?_
  refine sqdt hf (d_box (cs := #[(.string t.1), (.string t.2.1)]) rfl rfl) rfl rfl rfl ?_; clear hf fa; rintro fa _ w1 ⟨b1, rfl, hle1, hk1, he1⟩ hf
  have hBb1 : w.heap.size ≤ b1 := Nat.le_trans hb.size hle1
  replace hb := hb.trans (Below.mono he1 hb.size)
  refine sqv hf (r_assign rfl) rfl rfl rfl ?_; clear hf fa; intro fa hf
  apply wpList_nil
  (try simp only [Exit.then, Exit.inBlock, ↓reduceIte, Nat.reduceEqDiff])
  refine hK1 _ _ ?_
  refine wp_seq_k (fun K2 hK2 => ?_)
  refine wp_seq_k (fun K3 hK3 => ?_)
  refine wp_region_lit ?_
  refine sqv hf (r_fa rfl Try.underlying67 (f := 0) (q := 0) rfl (by kernel_rfl) rfl) rfl rfl rfl ?_; clear hf fa; intro fa hf
  refine sqv hf (r_load (v := (.string t.1)) rfl Try.underlying9 rfl (cell_blk hk1 rfl)) rfl rfl rfl ?_; clear hf fa; intro fa hf
  refine sqv hf (r_lens rfl Try.underlying9) rfl rfl rfl ?_; clear hf fa; intro fa hf
  refine sqv hf (r_gt rfl rfl) rfl rfl rfl ?_; clear hf fa; intro fa hf
  refine sqv hf (r_move rfl) rfl rfl rfl ?_; clear hf fa; intro fa hf
  refine sqgF (act := (!(decide ((1000 : Int) < ((t.1.size : Nat) : Int))))) (ag := true) (c := (decide ((1000 : Int) < ((t.1.size : Nat) : Int)))) (v := (.pointer (some ⟨b1, 1, none⟩))) hf rfl rfl rfl (fun hact => (r_fa rfl Try.underlying67 (f := 1) (q := 1) rfl (by kernel_rfl) rfl)) rfl rfl ?_; clear hf fa; intro fa hf
  refine sqgF (act := (!(decide ((1000 : Int) < ((t.1.size : Nat) : Int))))) (ag := true) (c := (decide ((1000 : Int) < ((t.1.size : Nat) : Int)))) (v := (.string t.2.1)) hf rfl rfl rfl (fun hact => (r_load (v := (.string t.2.1)) (gb_ev hact rfl) Try.underlying9 rfl (cell_blk hk1 rfl))) rfl rfl ?_; clear hf fa; intro fa hf
  refine sqgF (act := (!(decide ((1000 : Int) < ((t.1.size : Nat) : Int))))) (ag := true) (c := (decide ((1000 : Int) < ((t.1.size : Nat) : Int)))) (v := (.int .i64 ((t.2.1.size : Nat) : Int))) hf rfl rfl rfl (fun hact => (r_lens (gb_ev hact rfl) Try.underlying9)) rfl rfl ?_; clear hf fa; intro fa hf
  refine sqgF (act := (!(decide ((1000 : Int) < ((t.1.size : Nat) : Int))))) (ag := true) (c := (decide ((1000 : Int) < ((t.1.size : Nat) : Int)))) (v := (.bool (decide ((1 : Int) < ((t.2.1.size : Nat) : Int))))) hf rfl rfl rfl (fun hact => (r_gt (gb_ev hact rfl) rfl)) rfl rfl ?_; clear hf fa; intro fa hf
  refine sqv hf (r_pickO (b := (decide ((1000 : Int) < ((t.1.size : Nat) : Int)))) (e := (decide ((1 : Int) < ((t.2.1.size : Nat) : Int)))) rfl rfl rfl) rfl rfl rfl ?_; clear hf fa; intro fa hf
  apply wpList_nil
  (try simp only [Exit.then, Exit.inBlock, ↓reduceIte, Nat.reduceEqDiff])
  refine hK3 _ _ ?_
  refine wp_cond_split (t := ((decide ((1000 : Int) < ((t.1.size : Nat) : Int))) || (decide ((1 : Int) < ((t.2.1.size : Nat) : Int))))) (hf.ev rfl) (fun hqt12_1 => ?_) (fun hqt12_1 => ?_)
  · have hqt12_1b := hqt12_1
    try simp only [decide_eq_true_eq, Bool.and_eq_true, Bool.or_eq_true, Bool.not_eq_true', decide_eq_false_iff_not, ne_eq, Bool.not_eq_true] at hqt12_1
    refine wp_seq_k (fun K4 hK4 => ?_)
    refine wp_region_lit ?_
    refine sqv hf (r_assign rfl) rfl rfl rfl ?_; clear hf fa; intro fa hf
    apply wpList_nil
    (try simp only [Exit.then, Exit.inBlock, ↓reduceIte, Nat.reduceEqDiff])
    refine hK4 _ _ ?_
    refine wp_ret ?_
    (try simp only [Exit.then, Exit.inBlock])
    refine ret1 hf rfl rfl ?_
    refine ⟨?_, hb⟩; unfold rfuncXP; rw [hqt12_1b]; (try rfl)
  · have hqt12_1b := hqt12_1
    replace hqt12_1 := Bool.eq_false_iff.1 hqt12_1
    try simp only [ne_eq, decide_eq_true_eq, Bool.and_eq_true, Bool.or_eq_true, Bool.not_eq_true', decide_eq_false_iff_not] at hqt12_1
    refine wp_skip ?_
    (try simp only [Exit.then, Exit.inBlock, ↓reduceIte, Nat.reduceEqDiff])
    refine hK2 _ _ ?_
    refine wp_seq_k (fun K5 hK5 => ?_)
    refine wp_region_lit ?_
    refine sqv hf (r_fa rfl Try.underlying67 (f := 0) (q := 0) rfl (by kernel_rfl) rfl) rfl rfl rfl ?_; clear hf fa; intro fa hf
    refine sqv hf (r_load (v := (.string t.1)) rfl Try.underlying9 rfl (cell_blk hk1 rfl)) rfl rfl rfl ?_; clear hf fa; intro fa hf
    refine sqv hf (r_fa rfl Try.underlying67 (f := 1) (q := 1) rfl (by kernel_rfl) rfl) rfl rfl rfl ?_; clear hf fa; intro fa hf
    refine sqv hf (r_load (v := (.string t.2.1)) rfl Try.underlying9 rfl (cell_blk hk1 rfl)) rfl rfl rfl ?_; clear hf fa; intro fa hf
    refine sqv hf (r_sadd rfl rfl (by omega)) rfl rfl rfl ?_; clear hf fa; intro fa hf
    refine sqdt hf (d_callB (vs := [(.string (t.1 ++ t.2.1))]) rfl Try.func45 (by kernel_rfl) (by kernel_rfl) (rvalues_any (t.1 ++ t.2.1) _ (by have := sz_app t.1 t.2.1; omega))) rfl rfl rfl ?_; clear hf fa; rintro fa _ w2 ⟨rfl, he2⟩ hf
    replace hk1 := blk_ext hk1 he2
    replace hb := hb.trans (Below.mono he2 hb.size)
    refine sqv hf (r_assign rfl) rfl rfl rfl ?_; clear hf fa; intro fa hf
    apply wpList_nil
    (try simp only [Exit.then, Exit.inBlock, ↓reduceIte, Nat.reduceEqDiff])
    refine hK5 _ _ ?_
    refine wp_ret ?_
    (try simp only [Exit.then, Exit.inBlock])
    refine ret1 hf rfl rfl ?_
    refine ⟨?_, hb⟩; unfold rfuncXP; rw [hqt12_1b]; (try rfl)

theorem rfuncX_eq (t : MFt) : rfuncXP t = tfuncP t := (show rfuncXP t = rfuncP t from rfl).trans (func_eq t)
theorem rfunc3_any (t : MFt) (w : World) : Calls Try.prog 43 #[(.agg #[(.string t.1), (.string t.2.1)])] w fun e w' => e = .returned (.int .i64 (tfuncP t)) ∧ Below w.heap.size w w' := by
  have h := rfuncX_any t w
  rw [rfuncX_eq] at h
  exact h

set_option maxHeartbeats 1000000 in
set_option maxRecDepth 100000 in
theorem c05ft_any (tb : Nat) (bs base p : Nat) (a : Option Addr) (c : Nat) (l : List Int) (w : World) (hks : w.heap[bs]? = some (.cells #[(.slice a l.length c), (.int .i64 ((p : Nat) : Int))] 161 (0, 0))) (hr0 : Row 1 (vInt .u8) 5 base w (.slice a l.length c) l) (hp : p ≤ l.length) (hbt : bs < tb) (htb : w.heap[tb]? = some (.cells #[.pointer (some ⟨bs, 0, none⟩)] 87 (0, 0))) (hb6 : ∀ y ∈ l, 0 ≤ y ∧ y < 256) (hlm : l.length ≤ 1000000) (t : MFt) (hA : At l p (encF t)) (ht : tfuncP t = 0) : Calls Try.prog 115 #[(.pointer (some ⟨tb, 0, none⟩))] w fun e w' => e = .returned (.agg #[(.string t.1), (.string t.2.1)]) ∧ Wrote w bs #[(.slice a l.length c), (.int .i64 (((p + (encF t).length) : Nat) : Int))] 161 w' := by
  have hcap := Row.caps hr0; have hR0lt := fun q hq => (Row.lt hr0 q hq).2; have hle := hA.le
  refine sx_enter (L := [(0, (.pointer (some ⟨tb, 0, none⟩)))]) Try.func115 rfl rfl rfl rfl (fun fa hf => ?_)
  have hb : KB bs w.heap.size w w := KB.refl _ _ _
  refine wp_seq_k (fun K1 hK1 => ?_)
  refine wp_region_lit ?_
  refine sqdt hf (d_alloc (z := (.agg #[(.string ⟨#[]⟩), (.string ⟨#[]⟩)])) (cs := #[(.string ⟨#[]⟩), (.string ⟨#[]⟩)]) (by kernel_rfl) rfl) rfl rfl rfl ?_; clear hf fa; rintro fa _ w1 ⟨b1, rfl, hle1, hk1, he1⟩ hf
  have hBb1 : w.heap.size ≤ b1 := Nat.le_trans hb.size hle1
  have : bs < b1 := Nat.lt_of_lt_of_le (blk_lt hks) hle1
  have : tb < b1 := Nat.lt_of_lt_of_le (blk_lt htb) hle1
  replace hks := blk_ext hks he1
  replace htb := blk_ext htb he1
  replace hr0 := Row.ext hr0 he1
  replace hb := hb.trans (Below.mono he1 hb.size)
  apply wpList_nil
  (try simp only [Exit.then, Exit.inBlock, ↓reduceIte, Nat.reduceEqDiff])
  refine hK1 _ _ ?_
  refine wp_seq_k (fun K2 hK2 => ?_)
  refine wp_region_lit ?_
  refine sqv hf (r_load (v := (.pointer (some ⟨bs, 0, none⟩))) rfl Try.underlying87 rfl (cell_blk htb rfl)) rfl rfl rfl ?_; clear hf fa; intro fa hf
  refine sqdt hf (d_callW (v := (.agg #[(.string t.1), (.string t.2.1)])) (b := bs) (T := 161) (cs := #[(.slice a l.length c), (.int .i64 (((p + (encF t).length) : Nat) : Int))]) (vs := [(.pointer (some ⟨bs, 0, none⟩))]) rfl Try.func63 (by kernel_rfl) (by kernel_rfl) (sft_any bs base p a c l _ hks hr0 (by omega) hb6 hlm t hA ht)) rfl rfl rfl ?_; clear hf fa; rintro fa _ w2 ⟨rfl, hk2, hg1⟩ hf
  replace htb := blk_grown htb hg1 (by omega)
  replace hk1 := blk_grown hk1 hg1 (by omega)
  replace hr0 := Row.grown hr0 hg1 (Row.ne_type hr0 hks rfl)
  replace hb := hb.wrote hg1 hb.size
  refine sqn hf (d_storeK (T := 67) (v := (.agg #[(.string t.1), (.string t.2.1)])) (cs := #[(.string ⟨#[]⟩), (.string ⟨#[]⟩)]) (cs' := #[(.string t.1), (.string t.2.1)]) rfl rfl (by kernel_rfl) (by kernel_rfl) hk1 (by kernel_rfl) (by kernel_rfl)) rfl rfl ?_; clear hf fa; rintro fa _ w3 ⟨hk3, hg2⟩ hf
  replace hk2 := blk_grown hk2 hg2 (by omega)
  replace htb := blk_grown htb hg2 (by omega)
  replace hr0 := Row.grown hr0 hg2 (Row.ne_type hr0 hk1 rfl)
  replace hb := hb.trans (grown_below hg2 hb.size hBb1)
  apply wpList_nil
  (try simp only [Exit.then, Exit.inBlock, ↓reduceIte, Nat.reduceEqDiff])
  refine hK2 _ _ ?_
  refine wp_ret ?_
  (try simp only [Exit.then, Exit.inBlock])
  refine retC hf rfl rfl hk3 Try.underlying67 rfl (by kernel_rfl) ?_
  exact ⟨rfl, hk2, hb.grown⟩

def tAw : MFt := (⟨#[127]⟩, ⟨#[]⟩, ())
theorem tAw_enc : encF tAw = [96, 1, 127, 0] := by
  unfold encF tAw
  simp only [show ((⟨#[127]⟩ : ByteArray)).size = 1 from rfl, show ((⟨#[]⟩ : ByteArray)).size = 0 from rfl, uL_low (show 1 < 128 by omega), uL_low (show 0 < 128 by omega)]
  rfl
theorem tAw_ok : tfuncP tAw = 0 := by
  unfold tfuncP tAw valsP
  rfl

set_option maxHeartbeats 1000000 in
set_option maxRecDepth 100000 in
theorem awake05_any (w : World) : Calls Try.prog 57 #[] w fun e w' => e = .returned (.bool true) ∧ Below w.heap.size w w' := by
  have hb6 : ∀ y ∈ [(96 : Int), (1 : Int), (127 : Int), (0 : Int)], 0 ≤ y ∧ y < 256 := by decide
  have hlm : ([(96 : Int), (1 : Int), (127 : Int), (0 : Int)]).length ≤ 1000000 := by decide
  have hAt : At [(96 : Int), (1 : Int), (127 : Int), (0 : Int)] 0 (encF tAw) := by rw [tAw_enc]; exact At.all _
  have hAwl : (encF tAw).length = 4 := by rw [tAw_enc]; rfl
  have hAwL : ([(96 : Int), (1 : Int), (127 : Int), (0 : Int)]).length = 4 := rfl
  refine sx_enter (L := []) Try.func57 rfl rfl rfl rfl (fun fa hf => ?_)
  have hb : Below w.heap.size w w := Below.refl _ _
  refine wp_seq_k (fun K1 hK1 => ?_)
  refine wp_region_lit ?_
  refine sqv hf (r_assign rfl) rfl rfl rfl ?_; clear hf fa; intro fa hf
  apply wpList_nil
  (try simp only [Exit.then, Exit.inBlock, ↓reduceIte, Nat.reduceEqDiff])
  refine hK1 _ _ ?_
  refine wp_seq_k (fun K2 hK2 => ?_)
  refine wp_region_lit ?_
  refine sqdt hf (d_bslice (z := (.int .u8 (0 : Int))) (sz := 1) (vs := [(0, (.int .u8 (96 : Int))), (1, (.int .u8 (1 : Int))), (2, (.int .u8 (127 : Int))), (3, (.int .u8 (0 : Int)))]) (cs := #[(.int .u8 (96 : Int)), (.int .u8 (1 : Int)), (.int .u8 (127 : Int)), (.int .u8 (0 : Int))]) rfl Try.underlying47 (by kernel_rfl) rfl (by kernel_rfl)) rfl rfl rfl ?_; clear hf fa; rintro fa _ w1 ⟨b1, rfl, hle1, hk1, he1⟩ hf
  have hBb1 : w.heap.size ≤ b1 := Nat.le_trans hb.size hle1
  replace hb := hb.trans (Below.mono he1 hb.size)
  have hr1 := Row.of_new (k := 1) (V := (vInt .u8)) (l := [(96 : Int), (1 : Int), (127 : Int), (0 : Int)]) (base := w.heap.size) hk1 (by omega) rfl rfl (Nat.le_of_ble_eq_true rfl)
  refine sqdt hf (d_callX (vs := [(.slice (some ⟨b1, 0, none⟩) 4 4)]) rfl Try.func58 (by kernel_rfl) (by kernel_rfl) (over_any (some ⟨b1, 0, none⟩) 4 [(96 : Int), (1 : Int), (127 : Int), (0 : Int)] _ (Row.rd (by intros; rfl) hr1) (by first | omega | (simp only [Sl.list_length, List.length_set, List.length_take, List.length_append, List.length_replicate, List.length_cons, List.length_nil, List.length_map, nums_len]; omega)) (fun h => Row.nocap hr1 h))) rfl rfl rfl ?_; clear hf fa; rintro fa _ w2 ⟨sb1, sa1, sc1, rfl, hle2, hk2, hr2, he2⟩ hf
  have hBsb1 : w.heap.size ≤ sb1 := Nat.le_trans hb.size hle2
  have : b1 < sb1 := Nat.lt_of_lt_of_le (Row.lt hr1 _ rfl).2 hle2
  replace hr2 := Row.rebase hr2 hb.size
  replace hr1 := Row.ext hr1 he2
  replace hb := hb.trans (Below.mono he2 hb.size)
  refine sqdt hf (d_alloc (z := (.pointer none)) (cs := #[(.pointer none)]) (by kernel_rfl) rfl) rfl rfl rfl ?_; clear hf fa; rintro fa _ w3 ⟨b2, rfl, hle3, hk3, he3⟩ hf
  have hBb2 : w.heap.size ≤ b2 := Nat.le_trans hb.size hle3
  have : sb1 < b2 := Nat.lt_of_lt_of_le (blk_lt hk2) hle3
  have : b1 < b2 := Nat.lt_of_lt_of_le (Row.lt hr1 _ rfl).2 hle3
  replace hk2 := blk_ext hk2 he3
  replace hr1 := Row.ext hr1 he3
  replace hr2 := Row.ext hr2 he3
  replace hb := hb.trans (Below.mono he3 hb.size)
  refine sqn hf (d_storeK (T := 87) (v := (.pointer (some ⟨sb1, 0, none⟩))) (cs := #[(.pointer none)]) (cs' := #[(.pointer (some ⟨sb1, 0, none⟩))]) rfl rfl (by kernel_rfl) (by kernel_rfl) hk3 (by kernel_rfl) (by kernel_rfl)) rfl rfl ?_; clear hf fa; rintro fa _ w4 ⟨hk4, hg1⟩ hf
  replace hk2 := blk_grown hk2 hg1 (by omega)
  replace hr1 := Row.grown hr1 hg1 (Row.ne_type hr1 hk3 rfl)
  replace hr2 := Row.grown hr2 hg1 (Row.ne_type hr2 hk3 rfl)
  replace hb := hb.trans (grown_below hg1 hb.size hBb2)
  apply wpList_nil
  (try simp only [Exit.then, Exit.inBlock, ↓reduceIte, Nat.reduceEqDiff])
  refine hK2 _ _ ?_
  refine wp_seq_k (fun K3 hK3 => ?_)
  refine wp_seq_k (fun K4 hK4 => ?_)
  refine wp_region_lit ?_
  refine sqv hf (r_load (v := (.pointer (some ⟨sb1, 0, none⟩))) rfl Try.underlying87 rfl (cell_blk hk4 rfl)) rfl rfl rfl ?_; clear hf fa; intro fa hf
  refine sqv hf (r_pnil rfl rfl Try.underlying87) rfl rfl rfl ?_; clear hf fa; intro fa hf
  apply wpList_nil
  (try simp only [Exit.then, Exit.inBlock, ↓reduceIte, Nat.reduceEqDiff])
  refine hK4 _ _ ?_
  refine wp_cond_false (hf.ev rfl) ?_
  refine wp_skip ?_
  (try simp only [Exit.then, Exit.inBlock, ↓reduceIte, Nat.reduceEqDiff])
  refine hK3 _ _ ?_
  refine wp_seq_k (fun K5 hK5 => ?_)
  refine wp_region_lit ?_
  refine sqv hf (r_makeFunc (vs := [(.pointer (some ⟨b2, 0, none⟩))]) rfl) rfl rfl rfl ?_; clear hf fa; intro fa hf
  refine sqdt hf (d_callW (v := (.tuple #[(.agg #[(.string tAw.1), (.string tAw.2.1)]), (.agg #[(.int .i64 (0 : Int)), (.int .i64 (0 : Int))])])) (b := sb1) (T := 161) (cs := #[(.slice sa1 (([(96 : Int), (1 : Int), (127 : Int), (0 : Int)]).length) sc1), (.int .i64 (((0 + (encF tAw).length) : Nat) : Int))]) (vs := [(.func (.func 115) #[] #[(.pointer (some ⟨b2, 0, none⟩))])]) rfl Try.func114 (by kernel_rfl) (by kernel_rfl) (val_ft sb1 161 115 #[(.pointer (some ⟨b2, 0, none⟩))] #[(.slice sa1 (([(96 : Int), (1 : Int), (127 : Int), (0 : Int)]).length) sc1), (.int .i64 (((0 + (encF tAw).length) : Nat) : Int))] tAw.1 tAw.2.1 _ (blk_lt hk2) (enters Try.func115 (by kernel_rfl) (by kernel_rfl)) (fun w1 hw1 => c05ft_any b2 sb1 w.heap.size 0 sa1 sc1 [(96 : Int), (1 : Int), (127 : Int), (0 : Int)] w1 (blk_ext hk2 hw1) (Row.ext hr2 hw1) (by omega) (by omega) (blk_ext hk4 hw1) hb6 hlm tAw hAt tAw_ok))) rfl rfl rfl ?_; clear hf fa; rintro fa _ w5 ⟨rfl, hk5, hg2⟩ hf
  replace hk4 := blk_grown hk4 hg2 (by omega)
  replace hr1 := Row.grown hr1 hg2 (Row.ne_type hr1 hk2 rfl)
  replace hr2 := Row.grown hr2 hg2 (Row.ne_type hr2 hk2 rfl)
  replace hb := hb.trans (grown_below hg2 hb.size hBsb1)
  refine sqv hf (r_move rfl) rfl rfl rfl ?_; clear hf fa; intro fa hf
  refine sqv hf (r_extract rfl (i := 0) rfl) rfl rfl rfl ?_; clear hf fa; intro fa hf
  refine sqv hf (r_extract rfl (i := 1) rfl) rfl rfl rfl ?_; clear hf fa; intro fa hf
  refine sqdt hf (d_alloc (z := (.agg #[(.string ⟨#[]⟩), (.string ⟨#[]⟩)])) (cs := #[(.string ⟨#[]⟩), (.string ⟨#[]⟩)]) (by kernel_rfl) rfl) rfl rfl rfl ?_; clear hf fa; rintro fa _ w6 ⟨b3, rfl, hle4, hk6, he4⟩ hf
  have hBb3 : w.heap.size ≤ b3 := Nat.le_trans hb.size hle4
  have : sb1 < b3 := Nat.lt_of_lt_of_le (blk_lt hk5) hle4
  have : b2 < b3 := Nat.lt_of_lt_of_le (blk_lt hk4) hle4
  have : b1 < b3 := Nat.lt_of_lt_of_le (Row.lt hr1 _ rfl).2 hle4
  replace hk5 := blk_ext hk5 he4
  replace hk4 := blk_ext hk4 he4
  replace hr1 := Row.ext hr1 he4
  replace hr2 := Row.ext hr2 he4
  replace hb := hb.trans (Below.mono he4 hb.size)
  refine sqdt hf (d_alloc (z := (.agg #[(.int .i64 (0 : Int)), (.int .i64 (0 : Int))])) (cs := #[(.int .i64 (0 : Int)), (.int .i64 (0 : Int))]) (by kernel_rfl) rfl) rfl rfl rfl ?_; clear hf fa; rintro fa _ w7 ⟨b4, rfl, hle5, hk7, he5⟩ hf
  have hBb4 : w.heap.size ≤ b4 := Nat.le_trans hb.size hle5
  have : sb1 < b4 := Nat.lt_of_lt_of_le (blk_lt hk5) hle5
  have : b2 < b4 := Nat.lt_of_lt_of_le (blk_lt hk4) hle5
  have : b3 < b4 := Nat.lt_of_lt_of_le (blk_lt hk6) hle5
  have : b1 < b4 := Nat.lt_of_lt_of_le (Row.lt hr1 _ rfl).2 hle5
  replace hk5 := blk_ext hk5 he5
  replace hk4 := blk_ext hk4 he5
  replace hk6 := blk_ext hk6 he5
  replace hr1 := Row.ext hr1 he5
  replace hr2 := Row.ext hr2 he5
  replace hb := hb.trans (Below.mono he5 hb.size)
  refine sqn hf (d_storeK (T := 67) (v := (.agg #[(.string tAw.1), (.string tAw.2.1)])) (cs := #[(.string ⟨#[]⟩), (.string ⟨#[]⟩)]) (cs' := #[(.string tAw.1), (.string tAw.2.1)]) rfl rfl (by kernel_rfl) (by kernel_rfl) hk6 (by kernel_rfl) (by kernel_rfl)) rfl rfl ?_; clear hf fa; rintro fa _ w8 ⟨hk8, hg3⟩ hf
  replace hk5 := blk_grown hk5 hg3 (by omega)
  replace hk4 := blk_grown hk4 hg3 (by omega)
  replace hk7 := blk_grown hk7 hg3 (by omega)
  replace hr1 := Row.grown hr1 hg3 (Row.ne_type hr1 hk6 rfl)
  replace hr2 := Row.grown hr2 hg3 (Row.ne_type hr2 hk6 rfl)
  replace hb := hb.trans (grown_below hg3 hb.size hBb3)
  refine sqn hf (d_storeK (T := 90) (v := (.agg #[(.int .i64 (0 : Int)), (.int .i64 (0 : Int))])) (cs := #[(.int .i64 (0 : Int)), (.int .i64 (0 : Int))]) (cs' := #[(.int .i64 (0 : Int)), (.int .i64 (0 : Int))]) rfl rfl (by kernel_rfl) (by kernel_rfl) hk7 (by kernel_rfl) (by kernel_rfl)) rfl rfl ?_; clear hf fa; rintro fa _ w9 ⟨hk9, hg4⟩ hf
  replace hk5 := blk_grown hk5 hg4 (by omega)
  replace hk4 := blk_grown hk4 hg4 (by omega)
  replace hk8 := blk_grown hk8 hg4 (by omega)
  replace hr1 := Row.grown hr1 hg4 (Row.ne_type hr1 hk7 rfl)
  replace hr2 := Row.grown hr2 hg4 (Row.ne_type hr2 hk7 rfl)
  replace hb := hb.trans (grown_below hg4 hb.size hBb4)
  apply wpList_nil
  (try simp only [Exit.then, Exit.inBlock, ↓reduceIte, Nat.reduceEqDiff])
  refine hK5 _ _ ?_
  refine wp_seq_k (fun K6 hK6 => ?_)
  refine wp_region_lit ?_
  refine sqv hf (r_loadA (cs := [(.int .i64 (0 : Int)), (.int .i64 (0 : Int))]) rfl Try.underlying90 rfl (by kernel_rfl) (cellsAt_blk hk9)) rfl rfl rfl ?_; clear hf fa; intro fa hf
  refine sqv hf (r_build (vs := []) (cs := #[(.int .i64 (0 : Int)), (.int .i64 (0 : Int))]) rfl (fun _ => by kernel_rfl)) rfl rfl rfl ?_; clear hf fa; intro fa hf
  refine sqv hf (Runs.veq (r_aeq (k := 5) rfl rfl (by kernel_rfl) (eqt_struct (xs := #[(.int .i64 (0 : Int)), (.int .i64 (0 : Int))]) (ys := #[(.int .i64 (0 : Int)), (.int .i64 (0 : Int))]) Try.underlying90 (by kernel_rfl) (eqf_cons (by kernel_rfl) (fun _ => by kernel_rfl) (fun _ => by kernel_rfl) (eqt_int (kk := .i64) (a := (0 : Int)) (b := (0 : Int)) Try.underlying39) (eqf_one (by kernel_rfl) (fun _ => by kernel_rfl) (fun _ => by kernel_rfl) (eqt_int (kk := .i64) (a := (0 : Int)) (b := (0 : Int)) Try.underlying3)))) rfl) (congrArg Value.bool (show _ = true from (by simp)))) rfl rfl rfl ?_; clear hf fa; intro fa hf
  refine sqv hf (r_move rfl) rfl rfl rfl ?_; clear hf fa; intro fa hf
  refine sqgd (act := true) (g := 3) (want := true) (ag := true) (c := true) hf (by rfl) (by rfl) rfl (fun _ =>  Runs.does (R := fun vq wq => vq = (.agg #[(.string tAw.1), (.string tAw.2.1)]) ∧ w9 = wq) (r_loadA (cs := [(.string tAw.1), (.string tAw.2.1)]) rfl Try.underlying67 rfl (by kernel_rfl) (cellsAt_blk hk8)) ⟨rfl, rfl⟩) (fun h => by cases h) rfl ?_; clear hf fa; rintro fa _ _ ⟨rfl, rfl⟩ hf
  change Fr _ _ ((17, (.agg #[(.string tAw.1), (.string tAw.2.1)])) :: _) at hf
  refine sqgd (act := true) (g := 3) (want := true) (ag := true) (c := true) hf (by rfl) (by rfl) rfl (fun _ =>  Runs.does (R := fun vq wq => vq = (.agg #[(.string ⟨#[127]⟩), (.string ⟨#[]⟩)]) ∧ w9 = wq) (r_build (vs := [(0, (.string ⟨#[127]⟩))]) (cs := #[(.string ⟨#[127]⟩), (.string ⟨#[]⟩)]) rfl (fun _ => by kernel_rfl)) ⟨rfl, rfl⟩) (fun h => by cases h) rfl ?_; clear hf fa; rintro fa _ _ ⟨rfl, rfl⟩ hf
  change Fr _ _ ((18, (.agg #[(.string ⟨#[127]⟩), (.string ⟨#[]⟩)])) :: _) at hf
  refine sqgd (act := true) (g := 3) (want := true) (ag := true) (c := true) hf (by rfl) (by rfl) rfl (fun _ =>  Runs.does (R := fun vq wq => vq = (.bool true) ∧ w9 = wq) (Runs.veq (r_aeq (k := 5) rfl rfl (by kernel_rfl) (eqt_struct (xs := #[(.string tAw.1), (.string tAw.2.1)]) (ys := #[(.string ⟨#[127]⟩), (.string ⟨#[]⟩)]) Try.underlying67 (by kernel_rfl) (eqf_cons (by kernel_rfl) (fun _ => by kernel_rfl) (fun _ => by kernel_rfl) (eqt_str (a := tAw.1) (b := ⟨#[127]⟩) Try.underlying9) (eqf_one (by kernel_rfl) (fun _ => by kernel_rfl) (fun _ => by kernel_rfl) (eqt_str (a := tAw.2.1) (b := ⟨#[]⟩) Try.underlying9)))) rfl) (congrArg Value.bool (show _ = true from (by simp [tAw])))) ⟨rfl, rfl⟩) (fun h => by cases h) rfl ?_; clear hf fa; rintro fa _ _ ⟨rfl, rfl⟩ hf
  change Fr _ _ ((19, (.bool true)) :: _) at hf
  refine sqv hf (r_pick (b := true) rfl rfl rfl rfl) rfl rfl rfl ?_; clear hf fa; intro fa hf
  refine sqv hf (r_move rfl) rfl rfl rfl ?_; clear hf fa; intro fa hf
  refine sqgd (act := true) (g := 8) (want := true) (ag := true) (c := true) hf (by rfl) (by rfl) rfl (fun _ =>  Runs.does (R := fun vq wq => vq = (.pointer (some ⟨sb1, 0, none⟩)) ∧ w9 = wq) (r_load (v := (.pointer (some ⟨sb1, 0, none⟩))) rfl Try.underlying87 rfl (cell_blk hk4 rfl)) ⟨rfl, rfl⟩) (fun h => by cases h) rfl ?_; clear hf fa; rintro fa _ _ ⟨rfl, rfl⟩ hf
  change Fr _ _ ((22, (.pointer (some ⟨sb1, 0, none⟩))) :: _) at hf
  refine sqgd (act := true) (g := 8) (want := true) (ag := true) (c := true) hf (by rfl) (by rfl) rfl (fun _ =>  (d_callB (vs := [(.pointer (some ⟨sb1, 0, none⟩))]) rfl Try.func116 (by kernel_rfl) (by kernel_rfl) (done_any sb1 w.heap.size ((0 + (encF tAw).length)) sa1 sc1 [(96 : Int), (1 : Int), (127 : Int), (0 : Int)] _ hk5 hr2 (by omega))) ) (fun h => by cases h) rfl ?_; clear hf fa; rintro fa _ w10 ⟨rfl, he6⟩ hf
  replace hk5 := blk_ext hk5 he6
  replace hk4 := blk_ext hk4 he6
  replace hk8 := blk_ext hk8 he6
  replace hk9 := blk_ext hk9 he6
  replace hr1 := Row.ext hr1 he6
  replace hr2 := Row.ext hr2 he6
  replace hb := hb.trans (Below.mono he6 hb.size)
  change Fr _ _ ((23, (.bool (decide (((([(96 : Int), (1 : Int), (127 : Int), (0 : Int)]).length : Nat) : Int) - ((((0 + (encF tAw).length)) : Nat) : Int) = (0 : Int))))) :: _) at hf
  refine sqv hf (r_pick (b := true) rfl rfl rfl rfl) rfl rfl rfl ?_; clear hf fa; intro fa hf
  refine sqv hf (r_assign rfl) rfl rfl rfl ?_; clear hf fa; intro fa hf
  apply wpList_nil
  (try simp only [Exit.then, Exit.inBlock, ↓reduceIte, Nat.reduceEqDiff])
  refine hK6 _ _ ?_
  refine wp_ret ?_
  (try simp only [Exit.then, Exit.inBlock])
  refine ret1 hf rfl rfl ?_
  exact ⟨by rw [hAwl]; rfl, hb⟩
end Go.Proofs.Ytcmdajkkdognfaa
