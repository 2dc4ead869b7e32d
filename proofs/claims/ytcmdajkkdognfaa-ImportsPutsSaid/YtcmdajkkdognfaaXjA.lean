/- What is proved here: the law ImportsPuts is true. -/
import Derived.Test.YtcmdajkkdognfaaXiB
import Derived.Test.YtcmdajkkdognfaaVaI
namespace Go.Proofs.Ytcmdajkkdognfaa
open Go.RowKit
set_option linter.unusedVariables false
set_option linter.unusedSimpArgs false
set_option maxHeartbeats 1000000 in
set_option maxRecDepth 100000 in
theorem c10x_any (tb : Nat) (bs base p : Nat) (a : Option Addr) (c : Nat) (l : List Int) (w : World) (hks : w.heap[bs]? = some (.cells #[(.slice a l.length c), (.int .i64 ((p : Nat) : Int))] 161 (0, 0))) (hr0 : Row 1 (vInt .u8) 5 base w (.slice a l.length c) l) (hp : p ≤ l.length) (hbt : bs < tb) (htb : w.heap[tb]? = some (.cells #[.pointer (some ⟨bs, 0, none⟩)] 87 (0, 0))) (hb6 : ∀ y ∈ l, 0 ≤ y ∧ y < 256) (hlm : l.length ≤ 1000000) (ip : MImp) (hA : At l p (encI ip)) (hok : iokE ip) (hr : irightP ip = 0) : Calls Try.prog 100 #[(.pointer (some ⟨tb, 0, none⟩))] w fun e w' => e = .returned (.agg #[(.string ip.1), (.string ip.2.1), (.int .u8 ip.2.2.1), (.int .u32 ip.2.2.2.1), (.int .u32 ip.2.2.2.2.1.1), (.int .u32 ip.2.2.2.2.1.2.1), (.bool ip.2.2.2.2.1.2.2.1), (.int .u8 ip.2.2.2.2.2.1.1), (.bool ip.2.2.2.2.2.1.2.1)]) ∧ Wrote w bs #[(.slice a l.length c), (.int .i64 (((p + (encI ip).length) : Nat) : Int))] 161 w' := by
  have hcap := Row.caps hr0; have hR0lt := fun q hq => (Row.lt hr0 q hq).2; have hle := hA.le
  refine sx_enter (L := [(0, (.pointer (some ⟨tb, 0, none⟩)))]) Try.func100 rfl rfl rfl rfl (fun fa hf => ?_)
  have hb : KB bs w.heap.size w w := KB.refl _ _ _
  refine wp_seq_k (fun K1 hK1 => ?_)
  refine wp_region_lit ?_
  refine sqdt hf (d_alloc (z := (.agg #[(.string ⟨#[]⟩), (.string ⟨#[]⟩), (.int .u8 (0 : Int)), (.int .u32 (0 : Int)), (.int .u32 (0 : Int)), (.int .u32 (0 : Int)), (.bool false), (.int .u8 (0 : Int)), (.bool false)])) (cs := #[(.string ⟨#[]⟩), (.string ⟨#[]⟩), (.int .u8 (0 : Int)), (.int .u32 (0 : Int)), (.int .u32 (0 : Int)), (.int .u32 (0 : Int)), (.bool false), (.int .u8 (0 : Int)), (.bool false)]) (by kernel_rfl) rfl) rfl rfl rfl ?_; clear hf fa; rintro fa _ w1 ⟨b1, rfl, hle1, hk1, he1⟩ hf
  have hBb1 : w.heap.size ≤ b1 := Nat.le_trans hb.size hle1
  have : bs < b1 := Nat.lt_of_lt_of_le (blk_lt hks) hle1
  have : tb < b1 := Nat.lt_of_lt_of_le (blk_lt htb) hle1
  replace hks := blk_ext hks he1
  replace htb := blk_ext htb he1
  replace hr0 := Row.ext hr0 he1
  replace hb := hb.trans (Below.mono he1 hb.size)
  apply wpList_nil
  (try simp only [Exit.then, Exit.inBlock, ↓reduceIte, Nat.reduceEqDiff])
  refine hK1 _ _ ?_
  refine wp_seq_k (fun K2 hK2 => ?_)
  refine wp_region_lit ?_
  refine sqv hf (r_load (v := (.pointer (some ⟨bs, 0, none⟩))) rfl Try.underlying87 rfl (cell_blk htb rfl)) rfl rfl rfl ?_; clear hf fa; intro fa hf
  refine sqdt hf (d_callW (v := (.agg #[(.string ip.1), (.string ip.2.1), (.int .u8 ip.2.2.1), (.int .u32 ip.2.2.2.1), (.int .u32 ip.2.2.2.2.1.1), (.int .u32 ip.2.2.2.2.1.2.1), (.bool ip.2.2.2.2.1.2.2.1), (.int .u8 ip.2.2.2.2.2.1.1), (.bool ip.2.2.2.2.2.1.2.1)])) (b := bs) (T := 161) (cs := #[(.slice a l.length c), (.int .i64 (((p + (encI ip).length) : Nat) : Int))]) (vs := [(.pointer (some ⟨bs, 0, none⟩))]) rfl Try.func101 (by kernel_rfl) (by kernel_rfl) (siget_any bs base p a c l _ hks hr0 (by omega) hb6 hlm ip hA hok hr)) rfl rfl rfl ?_; clear hf fa; rintro fa _ w2 ⟨rfl, hk2, hg1⟩ hf
  replace htb := blk_grown htb hg1 (by omega)
  replace hk1 := blk_grown hk1 hg1 (by omega)
  replace hr0 := Row.grown hr0 hg1 (Row.ne_type hr0 hks rfl)
  replace hb := hb.wrote hg1 hb.size
  refine sqn hf (d_storeK (T := 81) (v := (.agg #[(.string ip.1), (.string ip.2.1), (.int .u8 ip.2.2.1), (.int .u32 ip.2.2.2.1), (.int .u32 ip.2.2.2.2.1.1), (.int .u32 ip.2.2.2.2.1.2.1), (.bool ip.2.2.2.2.1.2.2.1), (.int .u8 ip.2.2.2.2.2.1.1), (.bool ip.2.2.2.2.2.1.2.1)])) (cs := #[(.string ⟨#[]⟩), (.string ⟨#[]⟩), (.int .u8 (0 : Int)), (.int .u32 (0 : Int)), (.int .u32 (0 : Int)), (.int .u32 (0 : Int)), (.bool false), (.int .u8 (0 : Int)), (.bool false)]) (cs' := #[(.string ip.1), (.string ip.2.1), (.int .u8 ip.2.2.1), (.int .u32 ip.2.2.2.1), (.int .u32 ip.2.2.2.2.1.1), (.int .u32 ip.2.2.2.2.1.2.1), (.bool ip.2.2.2.2.1.2.2.1), (.int .u8 ip.2.2.2.2.2.1.1), (.bool ip.2.2.2.2.2.1.2.1)]) rfl rfl (by kernel_rfl) (by kernel_rfl) hk1 (by kernel_rfl) (by kernel_rfl)) rfl rfl ?_; clear hf fa; rintro fa _ w3 ⟨hk3, hg2⟩ hf
  replace hk2 := blk_grown hk2 hg2 (by omega)
  replace htb := blk_grown htb hg2 (by omega)
  replace hr0 := Row.grown hr0 hg2 (Row.ne_type hr0 hk1 rfl)
  replace hb := hb.trans (grown_below hg2 hb.size hBb1)
  apply wpList_nil
  (try simp only [Exit.then, Exit.inBlock, ↓reduceIte, Nat.reduceEqDiff])
  refine hK2 _ _ ?_
  refine wp_ret ?_
  (try simp only [Exit.then, Exit.inBlock])
  refine retC hf rfl rfl hk3 Try.underlying81 rfl (by kernel_rfl) ?_
  exact ⟨rfl, hk2, hb.grown⟩

set_option maxHeartbeats 1000000 in
set_option maxRecDepth 100000 in
theorem isame_any (ip : MImp) (w : World) : Calls Try.prog 103 #[(.agg #[(.string ip.1), (.string ip.2.1), (.int .u8 ip.2.2.1), (.int .u32 ip.2.2.2.1), (.int .u32 ip.2.2.2.2.1.1), (.int .u32 ip.2.2.2.2.1.2.1), (.bool ip.2.2.2.2.1.2.2.1), (.int .u8 ip.2.2.2.2.2.1.1), (.bool ip.2.2.2.2.2.1.2.1)]), (.agg #[(.string ip.1), (.string ip.2.1), (.int .u8 ip.2.2.1), (.int .u32 ip.2.2.2.1), (.int .u32 ip.2.2.2.2.1.1), (.int .u32 ip.2.2.2.2.1.2.1), (.bool ip.2.2.2.2.1.2.2.1), (.int .u8 ip.2.2.2.2.2.1.1), (.bool ip.2.2.2.2.2.1.2.1)])] w fun e w' => e = .returned (.bool true) ∧ Below w.heap.size w w' := by
  refine sx_enter (L := [(0, (.agg #[(.string ip.1), (.string ip.2.1), (.int .u8 ip.2.2.1), (.int .u32 ip.2.2.2.1), (.int .u32 ip.2.2.2.2.1.1), (.int .u32 ip.2.2.2.2.1.2.1), (.bool ip.2.2.2.2.1.2.2.1), (.int .u8 ip.2.2.2.2.2.1.1), (.bool ip.2.2.2.2.2.1.2.1)])), (1, (.agg #[(.string ip.1), (.string ip.2.1), (.int .u8 ip.2.2.1), (.int .u32 ip.2.2.2.1), (.int .u32 ip.2.2.2.2.1.1), (.int .u32 ip.2.2.2.2.1.2.1), (.bool ip.2.2.2.2.1.2.2.1), (.int .u8 ip.2.2.2.2.2.1.1), (.bool ip.2.2.2.2.2.1.2.1)]))]) Try.func103 rfl rfl rfl rfl (fun fa hf => ?_)
  have hb : Below w.heap.size w w := Below.refl _ _
  refine wp_seq_k (fun K1 hK1 => ?_)
  refine wp_region_lit ?_
  refine sqdt hf (d_box (cs := #[(.string ip.1), (.string ip.2.1), (.int .u8 ip.2.2.1), (.int .u32 ip.2.2.2.1), (.int .u32 ip.2.2.2.2.1.1), (.int .u32 ip.2.2.2.2.1.2.1), (.bool ip.2.2.2.2.1.2.2.1), (.int .u8 ip.2.2.2.2.2.1.1), (.bool ip.2.2.2.2.2.1.2.1)]) rfl rfl) rfl rfl rfl ?_; clear hf fa; rintro fa _ w1 ⟨b1, rfl, hle1, hk1, he1⟩ hf
  have hBb1 : w.heap.size ≤ b1 := Nat.le_trans hb.size hle1
  replace hb := hb.trans (Below.mono he1 hb.size)
  refine sqdt hf (d_box (cs := #[(.string ip.1), (.string ip.2.1), (.int .u8 ip.2.2.1), (.int .u32 ip.2.2.2.1), (.int .u32 ip.2.2.2.2.1.1), (.int .u32 ip.2.2.2.2.1.2.1), (.bool ip.2.2.2.2.1.2.2.1), (.int .u8 ip.2.2.2.2.2.1.1), (.bool ip.2.2.2.2.2.1.2.1)]) rfl rfl) rfl rfl rfl ?_; clear hf fa; rintro fa _ w2 ⟨b2, rfl, hle2, hk2, he2⟩ hf
  have hBb2 : w.heap.size ≤ b2 := Nat.le_trans hb.size hle2
  have : b1 < b2 := Nat.lt_of_lt_of_le (blk_lt hk1) hle2
  replace hk1 := blk_ext hk1 he2
  replace hb := hb.trans (Below.mono he2 hb.size)
  refine sqv hf (r_assign rfl) rfl rfl rfl ?_; clear hf fa; intro fa hf
  apply wpList_nil
  (try simp only [Exit.then, Exit.inBlock, ↓reduceIte, Nat.reduceEqDiff])
  refine hK1 _ _ ?_
  refine wp_seq_k (fun K2 hK2 => ?_)
  refine wp_region_lit ?_
  refine sqv hf (r_loadA (cs := [(.string ip.1), (.string ip.2.1), (.int .u8 ip.2.2.1), (.int .u32 ip.2.2.2.1), (.int .u32 ip.2.2.2.2.1.1), (.int .u32 ip.2.2.2.2.1.2.1), (.bool ip.2.2.2.2.1.2.2.1), (.int .u8 ip.2.2.2.2.2.1.1), (.bool ip.2.2.2.2.2.1.2.1)]) rfl Try.underlying81 rfl (by kernel_rfl) (cellsAt_blk hk1)) rfl rfl rfl ?_; clear hf fa; intro fa hf
  refine sqv hf (r_loadA (cs := [(.string ip.1), (.string ip.2.1), (.int .u8 ip.2.2.1), (.int .u32 ip.2.2.2.1), (.int .u32 ip.2.2.2.2.1.1), (.int .u32 ip.2.2.2.2.1.2.1), (.bool ip.2.2.2.2.1.2.2.1), (.int .u8 ip.2.2.2.2.2.1.1), (.bool ip.2.2.2.2.2.1.2.1)]) rfl Try.underlying81 rfl (by kernel_rfl) (cellsAt_blk hk2)) rfl rfl rfl ?_; clear hf fa; intro fa hf
  refine sqv hf (r_aeq (k := 5) rfl rfl (by kernel_rfl) (eqt_struct (xs := #[(.string ip.1), (.string ip.2.1), (.int .u8 ip.2.2.1), (.int .u32 ip.2.2.2.1), (.int .u32 ip.2.2.2.2.1.1), (.int .u32 ip.2.2.2.2.1.2.1), (.bool ip.2.2.2.2.1.2.2.1), (.int .u8 ip.2.2.2.2.2.1.1), (.bool ip.2.2.2.2.2.1.2.1)]) (ys := #[(.string ip.1), (.string ip.2.1), (.int .u8 ip.2.2.1), (.int .u32 ip.2.2.2.1), (.int .u32 ip.2.2.2.2.1.1), (.int .u32 ip.2.2.2.2.1.2.1), (.bool ip.2.2.2.2.1.2.2.1), (.int .u8 ip.2.2.2.2.2.1.1), (.bool ip.2.2.2.2.2.1.2.1)]) Try.underlying81 (by kernel_rfl) (eqf_cons (by kernel_rfl) (fun _ => by kernel_rfl) (fun _ => by kernel_rfl) (eqt_str (a := ip.1) (b := ip.1) Try.underlying9) (eqf_cons (by kernel_rfl) (fun _ => by kernel_rfl) (fun _ => by kernel_rfl) (eqt_str (a := ip.2.1) (b := ip.2.1) Try.underlying9) (eqf_cons (by kernel_rfl) (fun _ => by kernel_rfl) (fun _ => by kernel_rfl) (eqt_int (kk := .u8) (a := ip.2.2.1) (b := ip.2.2.1) Try.underlying5) (eqf_cons (by kernel_rfl) (fun _ => by kernel_rfl) (fun _ => by kernel_rfl) (eqt_int (kk := .u32) (a := ip.2.2.2.1) (b := ip.2.2.2.1) Try.underlying24) (eqf_cons (by kernel_rfl) (fun _ => by kernel_rfl) (fun _ => by kernel_rfl) (eqt_struct (xs := #[(.int .u32 ip.2.2.2.2.1.1), (.int .u32 ip.2.2.2.2.1.2.1), (.bool ip.2.2.2.2.1.2.2.1)]) (ys := #[(.int .u32 ip.2.2.2.2.1.1), (.int .u32 ip.2.2.2.2.1.2.1), (.bool ip.2.2.2.2.1.2.2.1)]) Try.underlying43 (by kernel_rfl) (eqf_cons (by kernel_rfl) (fun _ => by kernel_rfl) (fun _ => by kernel_rfl) (eqt_int (kk := .u32) (a := ip.2.2.2.2.1.1) (b := ip.2.2.2.2.1.1) Try.underlying24) (eqf_cons (by kernel_rfl) (fun _ => by kernel_rfl) (fun _ => by kernel_rfl) (eqt_int (kk := .u32) (a := ip.2.2.2.2.1.2.1) (b := ip.2.2.2.2.1.2.1) Try.underlying24) (eqf_one (by kernel_rfl) (fun _ => by kernel_rfl) (fun _ => by kernel_rfl) (eqt_bool (a := ip.2.2.2.2.1.2.2.1) (b := ip.2.2.2.2.1.2.2.1) Try.underlying4))))) (eqf_one (by kernel_rfl) (fun _ => by kernel_rfl) (fun _ => by kernel_rfl) (eqt_struct (xs := #[(.int .u8 ip.2.2.2.2.2.1.1), (.bool ip.2.2.2.2.2.1.2.1)]) (ys := #[(.int .u8 ip.2.2.2.2.2.1.1), (.bool ip.2.2.2.2.2.1.2.1)]) Try.underlying54 (by kernel_rfl) (eqf_cons (by kernel_rfl) (fun _ => by kernel_rfl) (fun _ => by kernel_rfl) (eqt_int (kk := .u8) (a := ip.2.2.2.2.2.1.1) (b := ip.2.2.2.2.2.1.1) Try.underlying5) (eqf_one (by kernel_rfl) (fun _ => by kernel_rfl) (fun _ => by kernel_rfl) (eqt_bool (a := ip.2.2.2.2.2.1.2.1) (b := ip.2.2.2.2.2.1.2.1) Try.underlying4))))))))))) rfl) rfl rfl rfl ?_; clear hf fa; intro fa hf
  refine sqv hf (r_assign rfl) rfl rfl rfl ?_; clear hf fa; intro fa hf
  apply wpList_nil
  (try simp only [Exit.then, Exit.inBlock, ↓reduceIte, Nat.reduceEqDiff])
  refine hK2 _ _ ?_
  refine wp_ret ?_
  (try simp only [Exit.then, Exit.inBlock])
  refine ret1 hf rfl rfl ?_
  exact ⟨by simp, hb⟩

set_option maxHeartbeats 1000000 in
set_option maxRecDepth 100000 in
theorem importsPuts_any (ip : MImp) (w : World) (hok : iokE ip) : Calls Try.prog 14 #[(.agg #[(.string ip.1), (.string ip.2.1), (.int .u8 ip.2.2.1), (.int .u32 ip.2.2.2.1), (.int .u32 ip.2.2.2.2.1.1), (.int .u32 ip.2.2.2.2.1.2.1), (.bool ip.2.2.2.2.1.2.2.1), (.int .u8 ip.2.2.2.2.2.1.1), (.bool ip.2.2.2.2.2.1.2.1)])] w fun e w' => e = .returned (.bool true) ∧ Below w.heap.size w w' := by
  refine sx_enter (L := [(0, (.agg #[(.string ip.1), (.string ip.2.1), (.int .u8 ip.2.2.1), (.int .u32 ip.2.2.2.1), (.int .u32 ip.2.2.2.2.1.1), (.int .u32 ip.2.2.2.2.1.2.1), (.bool ip.2.2.2.2.1.2.2.1), (.int .u8 ip.2.2.2.2.2.1.1), (.bool ip.2.2.2.2.2.1.2.1)]))]) Try.func14 rfl rfl rfl rfl (fun fa hf => ?_)
  have hb : Below w.heap.size w w := Below.refl _ _
  refine wp_seq_k (fun K1 hK1 => ?_)
  refine wp_region_lit ?_
  refine sqdt hf (d_box (cs := #[(.string ip.1), (.string ip.2.1), (.int .u8 ip.2.2.1), (.int .u32 ip.2.2.2.1), (.int .u32 ip.2.2.2.2.1.1), (.int .u32 ip.2.2.2.2.1.2.1), (.bool ip.2.2.2.2.1.2.2.1), (.int .u8 ip.2.2.2.2.2.1.1), (.bool ip.2.2.2.2.2.1.2.1)]) rfl rfl) rfl rfl rfl ?_; clear hf fa; rintro fa _ w1 ⟨b1, rfl, hle1, hk1, he1⟩ hf
  have hBb1 : w.heap.size ≤ b1 := Nat.le_trans hb.size hle1
  replace hb := hb.trans (Below.mono he1 hb.size)
  refine sqv hf (r_assign rfl) rfl rfl rfl ?_; clear hf fa; intro fa hf
  apply wpList_nil
  (try simp only [Exit.then, Exit.inBlock, ↓reduceIte, Nat.reduceEqDiff])
  refine hK1 _ _ ?_
  refine wp_seq_k (fun K2 hK2 => ?_)
  refine wp_seq_k (fun K3 hK3 => ?_)
  refine wp_region_lit ?_
  refine sqdt hf (d_callB (vs := []) rfl Try.func53 (by kernel_rfl) (by kernel_rfl) (awake10_any _)) rfl rfl rfl ?_; clear hf fa; rintro fa _ w2 ⟨rfl, he2⟩ hf
  replace hk1 := blk_ext hk1 he2
  replace hb := hb.trans (Below.mono he2 hb.size)
  refine sqv hf (Runs.veq (v' := (.bool false)) (r_not rfl) rfl) rfl rfl rfl ?_; clear hf fa; intro fa hf
  apply wpList_nil
  (try simp only [Exit.then, Exit.inBlock, ↓reduceIte, Nat.reduceEqDiff])
  refine hK3 _ _ ?_
  refine wp_cond_false (hf.ev rfl) ?_
  refine wp_skip ?_
  (try simp only [Exit.then, Exit.inBlock, ↓reduceIte, Nat.reduceEqDiff])
  refine hK2 _ _ ?_
  refine wp_seq_k (fun K4 hK4 => ?_)
  refine wp_seq_k (fun K5 hK5 => ?_)
  refine wp_region_lit ?_
  refine sqv hf (r_fa rfl Try.underlying81 (f := 0) (q := 0) rfl (by kernel_rfl) rfl) rfl rfl rfl ?_; clear hf fa; intro fa hf
  refine sqv hf (r_load (v := (.string ip.1)) rfl Try.underlying9 rfl (cell_blk hk1 rfl)) rfl rfl rfl ?_; clear hf fa; intro fa hf
  refine sqv hf (r_lens rfl Try.underlying9) rfl rfl rfl ?_; clear hf fa; intro fa hf
  refine sqv hf (r_gt rfl rfl) rfl rfl rfl ?_; clear hf fa; intro fa hf
  refine sqv hf (r_move rfl) rfl rfl rfl ?_; clear hf fa; intro fa hf
  refine sqgF (act := (!(decide ((400 : Int) < ((ip.1.size : Nat) : Int))))) (ag := true) (c := (decide ((400 : Int) < ((ip.1.size : Nat) : Int)))) (v := (.pointer (some ⟨b1, 1, none⟩))) hf rfl rfl rfl (fun hact => (r_fa rfl Try.underlying81 (f := 1) (q := 1) rfl (by kernel_rfl) rfl)) rfl rfl ?_; clear hf fa; intro fa hf
  refine sqgF (act := (!(decide ((400 : Int) < ((ip.1.size : Nat) : Int))))) (ag := true) (c := (decide ((400 : Int) < ((ip.1.size : Nat) : Int)))) (v := (.string ip.2.1)) hf rfl rfl rfl (fun hact => (r_load (v := (.string ip.2.1)) (gb_ev hact rfl) Try.underlying9 rfl (cell_blk hk1 rfl))) rfl rfl ?_; clear hf fa; intro fa hf
  refine sqgF (act := (!(decide ((400 : Int) < ((ip.1.size : Nat) : Int))))) (ag := true) (c := (decide ((400 : Int) < ((ip.1.size : Nat) : Int)))) (v := (.int .i64 ((ip.2.1.size : Nat) : Int))) hf rfl rfl rfl (fun hact => (r_lens (gb_ev hact rfl) Try.underlying9)) rfl rfl ?_; clear hf fa; intro fa hf
  refine sqgF (act := (!(decide ((400 : Int) < ((ip.1.size : Nat) : Int))))) (ag := true) (c := (decide ((400 : Int) < ((ip.1.size : Nat) : Int)))) (v := (.bool (decide ((400 : Int) < ((ip.2.1.size : Nat) : Int))))) hf rfl rfl rfl (fun hact => (r_gt (gb_ev hact rfl) rfl)) rfl rfl ?_; clear hf fa; intro fa hf
  refine sqv hf (r_pickO (b := (decide ((400 : Int) < ((ip.1.size : Nat) : Int)))) (e := (decide ((400 : Int) < ((ip.2.1.size : Nat) : Int)))) rfl rfl rfl) rfl rfl rfl ?_; clear hf fa; intro fa hf
  apply wpList_nil
  (try simp only [Exit.then, Exit.inBlock, ↓reduceIte, Nat.reduceEqDiff])
  refine hK5 _ _ ?_
  refine wp_cond_split (t := ((decide ((400 : Int) < ((ip.1.size : Nat) : Int))) || (decide ((400 : Int) < ((ip.2.1.size : Nat) : Int))))) (hf.ev rfl) (fun hqt20_1 => ?_) (fun hqt20_1 => ?_)
  · have hqt20_1b := hqt20_1
    try simp only [decide_eq_true_eq, Bool.and_eq_true, Bool.or_eq_true, Bool.not_eq_true', decide_eq_false_iff_not, ne_eq, Bool.not_eq_true] at hqt20_1
    refine wp_seq_k (fun K6 hK6 => ?_)
    refine wp_region_lit ?_
    refine sqv hf (r_assign rfl) rfl rfl rfl ?_; clear hf fa; intro fa hf
    apply wpList_nil
    (try simp only [Exit.then, Exit.inBlock, ↓reduceIte, Nat.reduceEqDiff])
    refine hK6 _ _ ?_
    refine wp_ret ?_
    (try simp only [Exit.then, Exit.inBlock])
    refine ret1 hf rfl rfl ?_
    exact ⟨rfl, hb⟩
  · have hqt20_1b := hqt20_1
    replace hqt20_1 := Bool.eq_false_iff.1 hqt20_1
    try simp only [ne_eq, decide_eq_true_eq, Bool.and_eq_true, Bool.or_eq_true, Bool.not_eq_true', decide_eq_false_iff_not] at hqt20_1
    refine wp_skip ?_
    (try simp only [Exit.then, Exit.inBlock, ↓reduceIte, Nat.reduceEqDiff])
    refine hK4 _ _ ?_
    refine wp_seq_k (fun K7 hK7 => ?_)
    have hs12 := hqt20_1
    have hzm1 : ip.1.size ≤ 400 := by omega
    have hzm2 : ip.2.1.size ≤ 400 := by omega
    refine wp_region_lit ?_
    refine sqv hf (r_loadA (cs := [(.string ip.1), (.string ip.2.1), (.int .u8 ip.2.2.1), (.int .u32 ip.2.2.2.1), (.int .u32 ip.2.2.2.2.1.1), (.int .u32 ip.2.2.2.2.1.2.1), (.bool ip.2.2.2.2.1.2.2.1), (.int .u8 ip.2.2.2.2.2.1.1), (.bool ip.2.2.2.2.2.1.2.1)]) rfl Try.underlying81 rfl (by kernel_rfl) (cellsAt_blk hk1)) rfl rfl rfl ?_; clear hf fa; intro fa hf
    refine sqdt hf (d_callB (vs := [(.agg #[(.string ip.1), (.string ip.2.1), (.int .u8 ip.2.2.1), (.int .u32 ip.2.2.2.1), (.int .u32 ip.2.2.2.2.1.1), (.int .u32 ip.2.2.2.2.1.2.1), (.bool ip.2.2.2.2.1.2.2.1), (.int .u8 ip.2.2.2.2.2.1.1), (.bool ip.2.2.2.2.2.1.2.1)])]) rfl Try.func96 (by kernel_rfl) (by kernel_rfl) (irr2_any ip _ hzm1 hzm2 hok.2.2.2.2 hok.1.1)) rfl rfl rfl ?_; clear hf fa; rintro fa _ w3 ⟨rfl, he3⟩ hf
    replace hk1 := blk_ext hk1 he3
    replace hb := hb.trans (Below.mono he3 hb.size)
    refine sqv hf (r_assign rfl) rfl rfl rfl ?_; clear hf fa; intro fa hf
    apply wpList_nil
    (try simp only [Exit.then, Exit.inBlock, ↓reduceIte, Nat.reduceEqDiff])
    refine hK7 _ _ ?_
    refine wp_seq_k (fun K8 hK8 => ?_)
    refine wp_region_lit ?_
    refine sqv hf (r_loadA (cs := [(.string ip.1), (.string ip.2.1), (.int .u8 ip.2.2.1), (.int .u32 ip.2.2.2.1), (.int .u32 ip.2.2.2.2.1.1), (.int .u32 ip.2.2.2.2.1.2.1), (.bool ip.2.2.2.2.1.2.2.1), (.int .u8 ip.2.2.2.2.2.1.1), (.bool ip.2.2.2.2.2.1.2.1)]) rfl Try.underlying81 rfl (by kernel_rfl) (cellsAt_blk hk1)) rfl rfl rfl ?_; clear hf fa; intro fa hf
    refine sqdt hf (d_callX (vs := [(.agg #[(.string ip.1), (.string ip.2.1), (.int .u8 ip.2.2.1), (.int .u32 ip.2.2.2.1), (.int .u32 ip.2.2.2.2.1.1), (.int .u32 ip.2.2.2.2.1.2.1), (.bool ip.2.2.2.2.1.2.2.1), (.int .u8 ip.2.2.2.2.2.1.1), (.bool ip.2.2.2.2.2.1.2.1)])]) rfl Try.func97 (by kernel_rfl) (by kernel_rfl) (iput_any ip _ hzm1 hzm2 hok)) rfl rfl rfl ?_; clear hf fa; rintro fa _ w4 ⟨pa1, pc1, rfl, hr1, he4⟩ hf
    replace hr1 := Row.rebase hr1 hb.size
    replace hk1 := blk_ext hk1 he4
    replace hb := hb.trans (Below.mono he4 hb.size)
    have hchr1 := Row.caps hr1
    refine sqv hf (r_move rfl) rfl rfl rfl ?_; clear hf fa; intro fa hf
    refine sqv hf (r_extract rfl (i := 0) rfl) rfl rfl rfl ?_; clear hf fa; intro fa hf
    refine sqv hf (r_extract rfl (i := 1) rfl) rfl rfl rfl ?_; clear hf fa; intro fa hf
    refine sqv hf (r_assign rfl) rfl rfl rfl ?_; clear hf fa; intro fa hf
    refine sqv hf (r_assign rfl) rfl rfl rfl ?_; clear hf fa; intro fa hf
    apply wpList_nil
    (try simp only [Exit.then, Exit.inBlock, ↓reduceIte, Nat.reduceEqDiff])
    refine hK8 _ _ ?_
    refine wp_seq_k (fun K9 hK9 => ?_)
    refine wp_seq_k (fun K10 hK10 => ?_)
    refine wp_region_lit ?_
    refine sqv hf (r_loadA (cs := [(.string ip.1), (.string ip.2.1), (.int .u8 ip.2.2.1), (.int .u32 ip.2.2.2.1), (.int .u32 ip.2.2.2.2.1.1), (.int .u32 ip.2.2.2.2.1.2.1), (.bool ip.2.2.2.2.1.2.2.1), (.int .u8 ip.2.2.2.2.2.1.1), (.bool ip.2.2.2.2.2.1.2.1)]) rfl Try.underlying81 rfl (by kernel_rfl) (cellsAt_blk hk1)) rfl rfl rfl ?_; clear hf fa; intro fa hf
    refine sqdt hf (d_callB (vs := [(.agg #[(.string ip.1), (.string ip.2.1), (.int .u8 ip.2.2.1), (.int .u32 ip.2.2.2.1), (.int .u32 ip.2.2.2.2.1.1), (.int .u32 ip.2.2.2.2.1.2.1), (.bool ip.2.2.2.2.1.2.2.1), (.int .u8 ip.2.2.2.2.2.1.1), (.bool ip.2.2.2.2.2.1.2.1)])]) rfl Try.func98 (by kernel_rfl) (by kernel_rfl) (iright_any ip _ hzm1 hzm2)) rfl rfl rfl ?_; clear hf fa; rintro fa _ w5 ⟨rfl, he5⟩ hf
    replace hk1 := blk_ext hk1 he5
    replace hr1 := Row.ext hr1 he5
    replace hb := hb.trans (Below.mono he5 hb.size)
    refine sqv hf (r_move rfl) rfl rfl rfl ?_; clear hf fa; intro fa hf
    refine sqv hf (r_ne rfl rfl) rfl rfl rfl ?_; clear hf fa; intro fa hf
    refine sqv hf (r_move rfl) rfl rfl rfl ?_; clear hf fa; intro fa hf
    refine sqgF (act := (!(decide (((irightP ip)) ≠ ((irightP ip)))))) (ag := true) (c := (decide (((irightP ip)) ≠ ((irightP ip))))) (v := (.int .i64 ((irightP ip)))) hf rfl rfl rfl (fun hact => (r_move rfl)) rfl rfl ?_; clear hf fa; intro fa hf
    refine sqgF (act := (!(decide (((irightP ip)) ≠ ((irightP ip)))))) (ag := true) (c := (decide (((irightP ip)) ≠ ((irightP ip))))) (v := (.int .i64 ((irightP ip)))) hf rfl rfl rfl (fun hact => (r_move rfl)) rfl rfl ?_; clear hf fa; intro fa hf
    refine sqgF (act := (!(decide (((irightP ip)) ≠ ((irightP ip)))))) (ag := true) (c := (decide (((irightP ip)) ≠ ((irightP ip))))) (v := (.bool (decide (((irightP ip)) ≠ ((irightP ip)))))) hf rfl rfl rfl (fun hact => (r_ne (gb_ev hact rfl) (gb_ev hact rfl))) rfl rfl ?_; clear hf fa; intro fa hf
    refine sqv hf (r_pickO (b := (decide (((irightP ip)) ≠ ((irightP ip))))) (e := (decide (((irightP ip)) ≠ ((irightP ip))))) rfl rfl rfl) rfl rfl rfl ?_; clear hf fa; intro fa hf
    apply wpList_nil
    (try simp only [Exit.then, Exit.inBlock, ↓reduceIte, Nat.reduceEqDiff])
    refine hK10 _ _ ?_
    refine wp_cond_false ((hf.ev rfl).trans (congrArg Value.bool (show ((decide (((irightP ip)) ≠ ((irightP ip)))) || (decide (((irightP ip)) ≠ ((irightP ip))))) = false from (by simp)))) ?_
    refine wp_skip ?_
    (try simp only [Exit.then, Exit.inBlock, ↓reduceIte, Nat.reduceEqDiff])
    refine hK9 _ _ ?_
    refine wp_seq_k (fun K11 hK11 => ?_)
    refine wp_seq_k (fun K12 hK12 => ?_)
    refine wp_region_lit ?_
    refine sqv hf (r_move rfl) rfl rfl rfl ?_; clear hf fa; intro fa hf
    refine sqv hf (r_ne rfl rfl) rfl rfl rfl ?_; clear hf fa; intro fa hf
    apply wpList_nil
    (try simp only [Exit.then, Exit.inBlock, ↓reduceIte, Nat.reduceEqDiff])
    refine hK12 _ _ ?_
    refine wp_cond_split (t := (decide (((irightP ip)) ≠ (0 : Int)))) (hf.ev rfl) (fun hqt38_1 => ?_) (fun hqt38_1 => ?_)
    · have hqt38_1b := hqt38_1
      try simp only [decide_eq_true_eq, Bool.and_eq_true, Bool.or_eq_true, Bool.not_eq_true', decide_eq_false_iff_not, ne_eq, Bool.not_eq_true] at hqt38_1
      refine wp_seq_k (fun K13 hK13 => ?_)
      refine wp_region_lit ?_
      refine sqv hf (r_move rfl) rfl rfl rfl ?_; clear hf fa; intro fa hf
      refine sqv hf (r_lensl rfl Try.underlying47) rfl rfl rfl ?_; clear hf fa; intro fa hf
      refine sqv hf (r_eq rfl rfl) rfl rfl rfl ?_; clear hf fa; intro fa hf
      refine sqv hf (r_assign rfl) rfl rfl rfl ?_; clear hf fa; intro fa hf
      apply wpList_nil
      (try simp only [Exit.then, Exit.inBlock, ↓reduceIte, Nat.reduceEqDiff])
      refine hK13 _ _ ?_
      refine wp_ret ?_
      (try simp only [Exit.then, Exit.inBlock])
      refine ret1 hf rfl rfl ?_
      rw [iput_no (by have h := hqt38_1; omega)]
      exact ⟨rfl, hb⟩
    · have hqt38_1b := hqt38_1
      replace hqt38_1 := Bool.eq_false_iff.1 hqt38_1
      try simp only [ne_eq, decide_eq_true_eq, Bool.and_eq_true, Bool.or_eq_true, Bool.not_eq_true', decide_eq_false_iff_not] at hqt38_1
      refine wp_skip ?_
      (try simp only [Exit.then, Exit.inBlock, ↓reduceIte, Nat.reduceEqDiff])
      refine hK11 _ _ ?_
      refine wp_seq_k (fun K14 hK14 => ?_)
      have hz : irightP ip = 0 := by have h := hqt38_1; omega
      have hpz := iput_ok hz
      have hEl := encI_len hok hzm1 hzm2
      have hpl := iput_len hok hzm1 hzm2
      have hpl2 := congrArg List.length hpz
      refine wp_region_lit ?_
      refine sqdt hf (d_bslice0 (sz := 1) Try.underlying47 (by kernel_rfl)) rfl rfl rfl ?_; clear hf fa; rintro fa _ w6 ⟨b2, rfl, hle2, hk2, he6⟩ hf
      have hBb2 : w.heap.size ≤ b2 := Nat.le_trans hb.size hle2
      have : b1 < b2 := Nat.lt_of_lt_of_le (blk_lt hk1) hle2
      have hnr1 : (Value.slice pa1 ((((iputL ip)).length)) pc1).ownBlock ≠ some b2 := fun hq => by have := (Row.lt hr1 _ hq).2; omega
      have hnl1 : ∀ q, (Value.slice pa1 ((((iputL ip)).length)) pc1).ownBlock = some q → q < b2 := fun q hq => Nat.lt_of_lt_of_le (Row.lt hr1 q hq).2 hle2
      replace hk1 := blk_ext hk1 he6
      replace hr1 := Row.ext hr1 he6
      replace hb := hb.trans (Below.mono he6 hb.size)
      refine sqv hf (r_move rfl) rfl rfl rfl ?_; clear hf fa; intro fa hf
      have hr2 := Row.of_new (k := 1) (V := (vInt .u8)) (l := []) hk2 (Nat.le_refl _) rfl rfl (Nat.le_of_ble_eq_true rfl)
      refine sqdt hf (d_append (V := (vInt .u8)) (k := 1) (e := 5) (bytes := 1) (z := (.int .u8 (0 : Int))) (news := (iputL ip)) (base := b2) (by intros; rfl) (by intro x u hu; simp only [vInt, List.mem_singleton] at hu; subst hu; rfl) rfl rfl Try.underlying47 (by kernel_rfl) rfl rfl rfl hr2 (Row.rd (by intros; rfl) hr1) rfl (fun h => Row.nocap hr1 h) (by first | omega | (simp only [List.length_cons, List.length_nil, List.length_append, nums_len]; omega)) (by first | (have := hb.size; have : b2 < w6.heap.size := (Row.lt hr2 _ rfl).2; omega) | (have := Row.base_le hr2 (by first | omega | (simp only [Sl.list_length, List.length_set, List.length_take, List.length_append, List.length_replicate, List.length_cons, List.length_nil, List.length_map, nums_len]; omega)); omega))) rfl rfl rfl ?_; clear hf fa; rintro fa v w7 ⟨hr3, hg1⟩ hf; obtain ⟨ra1, rc1, rfl, hcrc1, hmrc1⟩ := Row.slice hr3
      replace hk1 := blk_row' hk1 hg1 (Row.ne_type hr2 hk1 rfl)
      replace hr1 := Row.grown' hr1 hg1 (fun q h1 h2 => Row.ne_base hr2 (hnl1 q h1) h2)
      replace hb := hb.trans (row_below hr2 hg1 hb.size (by have := hb.size; omega))
      simp only [List.nil_append] at hr3
      refine sqdt hf (d_bslice (z := (.int .u8 (0 : Int))) (sz := 1) (vs := [(0, (.int .u8 (7 : Int)))]) (cs := #[(.int .u8 (7 : Int))]) rfl Try.underlying47 (by kernel_rfl) rfl (by kernel_rfl)) rfl rfl rfl ?_; clear hf fa; rintro fa _ w8 ⟨b3, rfl, hle3, hk3, he7⟩ hf
      have hBb3 : w.heap.size ≤ b3 := Nat.le_trans hb.size hle3
      have : b1 < b3 := Nat.lt_of_lt_of_le (blk_lt hk1) hle3
      have hnr2 : (Value.slice pa1 ((((iputL ip)).length)) pc1).ownBlock ≠ some b3 := fun hq => by have := (Row.lt hr1 _ hq).2; omega
      have hnl2 : ∀ q, (Value.slice pa1 ((((iputL ip)).length)) pc1).ownBlock = some q → q < b3 := fun q hq => Nat.lt_of_lt_of_le (Row.lt hr1 q hq).2 hle3
      have hnr3 : (Value.slice ra1 ((((iputL ip)).length)) rc1).ownBlock ≠ some b3 := fun hq => by have := (Row.lt hr3 _ hq).2; omega
      have hnl3 : ∀ q, (Value.slice ra1 ((((iputL ip)).length)) rc1).ownBlock = some q → q < b3 := fun q hq => Nat.lt_of_lt_of_le (Row.lt hr3 q hq).2 hle3
      replace hk1 := blk_ext hk1 he7
      replace hr1 := Row.ext hr1 he7
      replace hr3 := Row.ext hr3 he7
      replace hb := hb.trans (Below.mono he7 hb.size)
      have hs1 := Row.rd (by intros; rfl) (Row.of_new (k := 1) (V := (vInt .u8)) (l := [(7 : Int)]) hk3 (Nat.le_refl _) rfl rfl (Nat.le_of_ble_eq_true rfl))
      refine sqdt hf (d_append (V := (vInt .u8)) (k := 1) (e := 5) (bytes := 1) (z := (.int .u8 (0 : Int))) (news := [(7 : Int)]) (base := b2) (by intros; rfl) (by intro x u hu; simp only [vInt, List.mem_singleton] at hu; subst hu; rfl) rfl rfl Try.underlying47 (by kernel_rfl) rfl rfl rfl hr3 hs1 rfl (fun h => by cases h) (by first | omega | (simp only [List.length_cons, List.length_nil, List.length_append, nums_len]; omega)) (by first | (have := hb.size; omega) | (have := Row.base_le hr3 (by first | omega | (simp only [Sl.list_length, List.length_set, List.length_take, List.length_append, List.length_replicate, List.length_cons, List.length_nil, List.length_map, nums_len]; omega)); omega))) rfl rfl rfl ?_; clear hf fa; rintro fa v w9 ⟨hr4, hg2⟩ hf; obtain ⟨ra2, rc2, rfl, hcrc2, hmrc2⟩ := Row.slice hr4
      replace hk1 := blk_row' hk1 hg2 (Row.ne_type hr3 hk1 rfl)
      replace hr1 := Row.grown' hr1 hg2 (fun q h1 h2 => Row.ne_base hr3 (hnl1 q h1) h2)
      replace hb := hb.trans (row_below hr3 hg2 hb.size (by have := hb.size; omega))
      refine sqdt hf (d_callX (vs := [(.slice ra2 ((((iputL ip) ++ [(7 : Int)])).length) rc2)]) rfl Try.func58 (by kernel_rfl) (by kernel_rfl) (over_any ra2 rc2 ((iputL ip) ++ [(7 : Int)]) _ (Row.rd (by intros; rfl) hr4) (by first | omega | (simp only [Sl.list_length, List.length_set, List.length_take, List.length_append, List.length_replicate, List.length_cons, List.length_nil, List.length_map, nums_len]; omega)) (fun h => Row.nocap hr4 h))) rfl rfl rfl ?_; clear hf fa; rintro fa _ w10 ⟨sb1, sa1, sc1, rfl, hle4, hk4, hr5, he8⟩ hf
      have hBsb1 : w.heap.size ≤ sb1 := Nat.le_trans hb.size hle4
      have : b1 < sb1 := Nat.lt_of_lt_of_le (blk_lt hk1) hle4
      replace hr5 := Row.rebase hr5 hb.size
      replace hk1 := blk_ext hk1 he8
      replace hr1 := Row.ext hr1 he8
      replace hr4 := Row.ext hr4 he8
      replace hb := hb.trans (Below.mono he8 hb.size)
      refine sqdt hf (d_alloc (z := (.pointer none)) (cs := #[(.pointer none)]) (by kernel_rfl) rfl) rfl rfl rfl ?_; clear hf fa; rintro fa _ w11 ⟨b4, rfl, hle5, hk5, he9⟩ hf
      have hBb4 : w.heap.size ≤ b4 := Nat.le_trans hb.size hle5
      have : b1 < b4 := Nat.lt_of_lt_of_le (blk_lt hk1) hle5
      have : sb1 < b4 := Nat.lt_of_lt_of_le (blk_lt hk4) hle5
      replace hk1 := blk_ext hk1 he9
      replace hk4 := blk_ext hk4 he9
      replace hr1 := Row.ext hr1 he9
      replace hr4 := Row.ext hr4 he9
      replace hr5 := Row.ext hr5 he9
      replace hb := hb.trans (Below.mono he9 hb.size)
      refine sqn hf (d_storeK (T := 87) (v := (.pointer (some ⟨sb1, 0, none⟩))) (cs := #[(.pointer none)]) (cs' := #[(.pointer (some ⟨sb1, 0, none⟩))]) rfl rfl (by kernel_rfl) (by kernel_rfl) hk5 (by kernel_rfl) (by kernel_rfl)) rfl rfl ?_; clear hf fa; rintro fa _ w12 ⟨hk6, hg3⟩ hf
      replace hk1 := blk_grown hk1 hg3 (by omega)
      replace hk4 := blk_grown hk4 hg3 (by omega)
      replace hr1 := Row.grown hr1 hg3 (Row.ne_type hr1 hk5 rfl)
      replace hr4 := Row.grown hr4 hg3 (Row.ne_type hr4 hk5 rfl)
      replace hr5 := Row.grown hr5 hg3 (Row.ne_type hr5 hk5 rfl)
      replace hb := hb.trans (grown_below hg3 hb.size hBb4)
      apply wpList_nil
      (try simp only [Exit.then, Exit.inBlock, ↓reduceIte, Nat.reduceEqDiff])
      refine hK14 _ _ ?_
      refine wp_seq_k (fun K15 hK15 => ?_)
      have hLe : ((iputL ip) ++ [(7 : Int)]) = encI ip ++ [(7 : Int)] := by rw [hpz]
      have hL2 : (((iputL ip) ++ [(7 : Int)])).length = (encI ip).length + 1 := by rw [hLe]; simp only [List.length_append, List.length_cons, List.length_nil]
      have hl6 : ∀ y ∈ ((iputL ip) ++ [(7 : Int)]), 0 ≤ y ∧ y < 256 := by
        rw [hLe]; intro y hy
        simp only [List.mem_append, List.mem_singleton] at hy
        rcases hy with h | rfl
        · exact encI_rng hok y h
        · omega
      have hlm : (((iputL ip) ++ [(7 : Int)])).length ≤ 1000000 := by omega
      have hAt : At (((iputL ip) ++ [(7 : Int)])) 0 (encI ip) := by rw [hLe]; exact (At.all _).fst
      refine wp_region_lit ?_
      refine sqv hf (r_makeFunc (vs := [(.pointer (some ⟨b4, 0, none⟩))]) rfl) rfl rfl rfl ?_; clear hf fa; intro fa hf
      refine sqdt hf (d_callW (v := (.tuple #[(.agg #[(.string ip.1), (.string ip.2.1), (.int .u8 ip.2.2.1), (.int .u32 ip.2.2.2.1), (.int .u32 ip.2.2.2.2.1.1), (.int .u32 ip.2.2.2.2.1.2.1), (.bool ip.2.2.2.2.1.2.2.1), (.int .u8 ip.2.2.2.2.2.1.1), (.bool ip.2.2.2.2.2.1.2.1)]), (.agg #[(.int .i64 (0 : Int)), (.int .i64 (0 : Int))])])) (b := sb1) (T := 161) (cs := #[(.slice sa1 ((((iputL ip) ++ [(7 : Int)])).length) sc1), (.int .i64 (((0 + (encI ip).length) : Nat) : Int))]) (vs := [(.func (.func 100) #[] #[(.pointer (some ⟨b4, 0, none⟩))])]) rfl Try.func99 (by kernel_rfl) (by kernel_rfl) (val_imp sb1 161 100 #[(.pointer (some ⟨b4, 0, none⟩))] #[(.slice sa1 ((((iputL ip) ++ [(7 : Int)])).length) sc1), (.int .i64 (((0 + (encI ip).length) : Nat) : Int))] ip.1 ip.2.1 ip.2.2.1 ip.2.2.2.1 ip.2.2.2.2.1.1 ip.2.2.2.2.1.2.1 ip.2.2.2.2.1.2.2.1 ip.2.2.2.2.2.1.1 ip.2.2.2.2.2.1.2.1 _ (blk_lt hk4) (enters Try.func100 (by kernel_rfl) (by kernel_rfl)) (fun w1 hw1 => c10x_any b4 sb1 w.heap.size 0 sa1 sc1 ((iputL ip) ++ [(7 : Int)]) w1 (blk_ext hk4 hw1) (Row.ext hr5 hw1) (by omega) (by omega) (blk_ext hk6 hw1) hl6 hlm ip hAt hok hz))) rfl rfl rfl ?_; clear hf fa; rintro fa _ w13 ⟨rfl, hk7, hg4⟩ hf
      replace hk1 := blk_grown hk1 hg4 (by omega)
      replace hk6 := blk_grown hk6 hg4 (by omega)
      replace hr1 := Row.grown hr1 hg4 (Row.ne_type hr1 hk4 rfl)
      replace hr4 := Row.grown hr4 hg4 (Row.ne_type hr4 hk4 rfl)
      replace hr5 := Row.grown hr5 hg4 (Row.ne_type hr5 hk4 rfl)
      replace hb := hb.trans (grown_below hg4 hb.size hBsb1)
      refine sqv hf (r_move rfl) rfl rfl rfl ?_; clear hf fa; intro fa hf
      refine sqv hf (r_extract rfl (i := 0) rfl) rfl rfl rfl ?_; clear hf fa; intro fa hf
      refine sqv hf (r_extract rfl (i := 1) rfl) rfl rfl rfl ?_; clear hf fa; intro fa hf
      refine sqdt hf (d_alloc (z := (.agg #[(.string ⟨#[]⟩), (.string ⟨#[]⟩), (.int .u8 (0 : Int)), (.int .u32 (0 : Int)), (.int .u32 (0 : Int)), (.int .u32 (0 : Int)), (.bool false), (.int .u8 (0 : Int)), (.bool false)])) (cs := #[(.string ⟨#[]⟩), (.string ⟨#[]⟩), (.int .u8 (0 : Int)), (.int .u32 (0 : Int)), (.int .u32 (0 : Int)), (.int .u32 (0 : Int)), (.bool false), (.int .u8 (0 : Int)), (.bool false)]) (by kernel_rfl) rfl) rfl rfl rfl ?_; clear hf fa; rintro fa _ w14 ⟨b5, rfl, hle6, hk8, he10⟩ hf
      have hBb5 : w.heap.size ≤ b5 := Nat.le_trans hb.size hle6
      have : b1 < b5 := Nat.lt_of_lt_of_le (blk_lt hk1) hle6
      have : sb1 < b5 := Nat.lt_of_lt_of_le (blk_lt hk7) hle6
      have : b4 < b5 := Nat.lt_of_lt_of_le (blk_lt hk6) hle6
      replace hk1 := blk_ext hk1 he10
      replace hk7 := blk_ext hk7 he10
      replace hk6 := blk_ext hk6 he10
      replace hr1 := Row.ext hr1 he10
      replace hr4 := Row.ext hr4 he10
      replace hr5 := Row.ext hr5 he10
      replace hb := hb.trans (Below.mono he10 hb.size)
      refine sqdt hf (d_alloc (z := (.agg #[(.int .i64 (0 : Int)), (.int .i64 (0 : Int))])) (cs := #[(.int .i64 (0 : Int)), (.int .i64 (0 : Int))]) (by kernel_rfl) rfl) rfl rfl rfl ?_; clear hf fa; rintro fa _ w15 ⟨b6, rfl, hle7, hk9, he11⟩ hf
      have hBb6 : w.heap.size ≤ b6 := Nat.le_trans hb.size hle7
      have : b1 < b6 := Nat.lt_of_lt_of_le (blk_lt hk1) hle7
      have : sb1 < b6 := Nat.lt_of_lt_of_le (blk_lt hk7) hle7
      have : b4 < b6 := Nat.lt_of_lt_of_le (blk_lt hk6) hle7
      have : b5 < b6 := Nat.lt_of_lt_of_le (blk_lt hk8) hle7
      replace hk1 := blk_ext hk1 he11
      replace hk7 := blk_ext hk7 he11
      replace hk6 := blk_ext hk6 he11
      replace hk8 := blk_ext hk8 he11
      replace hr1 := Row.ext hr1 he11
      replace hr4 := Row.ext hr4 he11
      replace hr5 := Row.ext hr5 he11
      replace hb := hb.trans (Below.mono he11 hb.size)
      refine sqn hf (d_storeK (T := 81) (v := (.agg #[(.string ip.1), (.string ip.2.1), (.int .u8 ip.2.2.1), (.int .u32 ip.2.2.2.1), (.int .u32 ip.2.2.2.2.1.1), (.int .u32 ip.2.2.2.2.1.2.1), (.bool ip.2.2.2.2.1.2.2.1), (.int .u8 ip.2.2.2.2.2.1.1), (.bool ip.2.2.2.2.2.1.2.1)])) (cs := #[(.string ⟨#[]⟩), (.string ⟨#[]⟩), (.int .u8 (0 : Int)), (.int .u32 (0 : Int)), (.int .u32 (0 : Int)), (.int .u32 (0 : Int)), (.bool false), (.int .u8 (0 : Int)), (.bool false)]) (cs' := #[(.string ip.1), (.string ip.2.1), (.int .u8 ip.2.2.1), (.int .u32 ip.2.2.2.1), (.int .u32 ip.2.2.2.2.1.1), (.int .u32 ip.2.2.2.2.1.2.1), (.bool ip.2.2.2.2.1.2.2.1), (.int .u8 ip.2.2.2.2.2.1.1), (.bool ip.2.2.2.2.2.1.2.1)]) rfl rfl (by kernel_rfl) (by kernel_rfl) hk8 (by kernel_rfl) (by kernel_rfl)) rfl rfl ?_; clear hf fa; rintro fa _ w16 ⟨hk10, hg5⟩ hf
      replace hk1 := blk_grown hk1 hg5 (by omega)
      replace hk7 := blk_grown hk7 hg5 (by omega)
      replace hk6 := blk_grown hk6 hg5 (by omega)
      replace hk9 := blk_grown hk9 hg5 (by omega)
      replace hr1 := Row.grown hr1 hg5 (Row.ne_type hr1 hk8 rfl)
      replace hr4 := Row.grown hr4 hg5 (Row.ne_type hr4 hk8 rfl)
      replace hr5 := Row.grown hr5 hg5 (Row.ne_type hr5 hk8 rfl)
      replace hb := hb.trans (grown_below hg5 hb.size hBb5)
      refine sqn hf (d_storeK (T := 90) (v := (.agg #[(.int .i64 (0 : Int)), (.int .i64 (0 : Int))])) (cs := #[(.int .i64 (0 : Int)), (.int .i64 (0 : Int))]) (cs' := #[(.int .i64 (0 : Int)), (.int .i64 (0 : Int))]) rfl rfl (by kernel_rfl) (by kernel_rfl) hk9 (by kernel_rfl) (by kernel_rfl)) rfl rfl ?_; clear hf fa; rintro fa _ w17 ⟨hk11, hg6⟩ hf
      replace hk1 := blk_grown hk1 hg6 (by omega)
      replace hk7 := blk_grown hk7 hg6 (by omega)
      replace hk6 := blk_grown hk6 hg6 (by omega)
      replace hk10 := blk_grown hk10 hg6 (by omega)
      replace hr1 := Row.grown hr1 hg6 (Row.ne_type hr1 hk9 rfl)
      replace hr4 := Row.grown hr4 hg6 (Row.ne_type hr4 hk9 rfl)
      replace hr5 := Row.grown hr5 hg6 (Row.ne_type hr5 hk9 rfl)
      replace hb := hb.trans (grown_below hg6 hb.size hBb6)
      apply wpList_nil
      (try simp only [Exit.then, Exit.inBlock, ↓reduceIte, Nat.reduceEqDiff])
      refine hK15 _ _ ?_
      refine wp_seq_k (fun K16 hK16 => ?_)
      refine wp_region_un (fun wq => Below w17.heap.size w17 wq) (fun w w' => Below w.heap.size w w')
        (fun V => [(fun x _ => x = (.slice pa1 (((iputL ip)).length) pc1)), (fun x _ => x = (.string (strOfNums (iputL ip)))), (fun x _ => x = (.agg #[(.string ip.1), (.string ip.2.1), (.int .u8 ip.2.2.1), (.int .u32 ip.2.2.2.1), (.int .u32 ip.2.2.2.2.1.1), (.int .u32 ip.2.2.2.2.1.2.1), (.bool ip.2.2.2.2.1.2.2.1), (.int .u8 ip.2.2.2.2.2.1.1), (.bool ip.2.2.2.2.2.1.2.1)])), (fun x _ => x = (.string (strOfNums (encI ip)))), (fun x _ => x = (.bool true)), (fun x _ => x = (.bool true)), (fun x _ => x = (.pointer (some ⟨b6, 0, none⟩))), (fun x _ => x = (.int .i64 (0 : Int))), (fun x _ => x = (.bool true)), (fun x _ => x = (.bool true)), (fun x _ => x = (.bool true)), (fun x _ => x = (.agg #[(.string ip.1), (.string ip.2.1), (.int .u8 ip.2.2.1), (.int .u32 ip.2.2.2.1), (.int .u32 ip.2.2.2.2.1.1), (.int .u32 ip.2.2.2.2.1.2.1), (.bool ip.2.2.2.2.1.2.2.1), (.int .u8 ip.2.2.2.2.2.1.1), (.bool ip.2.2.2.2.2.1.2.1)])), (fun x _ => x = (.agg #[(.string ip.1), (.string ip.2.1), (.int .u8 ip.2.2.1), (.int .u32 ip.2.2.2.1), (.int .u32 ip.2.2.2.2.1.1), (.int .u32 ip.2.2.2.2.1.2.1), (.bool ip.2.2.2.2.1.2.2.1), (.int .u8 ip.2.2.2.2.2.1.1), (.bool ip.2.2.2.2.2.1.2.1)])), (fun x _ => x = (.bool true)), (fun x _ => x = (.bool true)), (fun x _ => x = (.bool true)), (fun x _ => x = (.pointer (some ⟨sb1, 0, none⟩))), (fun x _ => x = (.int .i64 ((((((iputL ip) ++ [(7 : Int)])).length : Nat) : Int) - ((((0 + (encI ip).length)) : Nat) : Int)))), (fun x _ => x = (.bool true)), (fun x _ => x = (.bool true)), (fun x _ => x = (.bool true))])
        []
        [[], [0], [], [2], [1, 3], [3, 4], [5], [5, 6], [5, 7], [5, 8], [5, 9], [10], [10], [10, 11, 12], [10, 13], [13, 14], [15], [15, 16], [15, 17], [15, 18], [0, 1, 2, 3, 4, 5, 6, 7, 8, 9, 10, 11, 12, 13, 14, 15, 16, 17, 18, 19]]
        hf (by kernel_rfl) (by kernel_rfl) (fun _ => rfl) ((Below.refl _ _).drew) (fun a b h1 h2 => h1.trans (h2.mono h1.size)) (fun _ _ h => h.size) (fun V => ⟨kept_eq, kept_eq, kept_eq, kept_eq, kept_eq, kept_eq, kept_eq, kept_eq, kept_eq, kept_eq, kept_eq, kept_eq, kept_eq, kept_eq, kept_eq, kept_eq, kept_eq, kept_eq, kept_eq, kept_eq, kept_eq, trivial⟩) (fun _ _ _ _ _ => rfl) ?_ ?_
      · skip
        intro V
        refine ⟨fun wu0 hC hd => ?_, ?_⟩
        · clear hd
          replace hb := hb.trans (hC.mono hb.size)
          replace hk1 := blk_ext hk1 hC
          replace hk7 := blk_ext hk7 hC
          replace hk6 := blk_ext hk6 hC
          replace hk10 := blk_ext hk10 hC
          replace hk11 := blk_ext hk11 hC
          replace hr1 := Row.ext hr1 hC
          replace hr4 := Row.ext hr4 hC
          replace hr5 := Row.ext hr5 hC
          exact Runs.does (r_move rfl) ⟨Below.refl _ _, rfl, nofr rfl⟩
        refine ⟨fun wu1 hC hd => ?_, ?_⟩
        · obtain ⟨h0, _⟩ := hd
          skip
          replace h0 : V 0 = (.slice pa1 (((iputL ip)).length) pc1) := h0
          replace hb := hb.trans (hC.mono hb.size)
          replace hk1 := blk_ext hk1 hC
          replace hk7 := blk_ext hk7 hC
          replace hk6 := blk_ext hk6 hC
          replace hk10 := blk_ext hk10 hC
          replace hk11 := blk_ext hk11 hC
          replace hr1 := Row.ext hr1 hC
          replace hr4 := Row.ext hr4 hC
          replace hr5 := Row.ext hr5 hC
          exact Runs.does (r_rowstr (congrArg some h0) Try.underlying47 Try.underlying5 Try.underlying9 hr1) ⟨Below.refl _ _, rfl, nofr rfl⟩
        refine ⟨fun wu2 hC hd => ?_, ?_⟩
        · clear hd
          replace hb := hb.trans (hC.mono hb.size)
          replace hk1 := blk_ext hk1 hC
          replace hk7 := blk_ext hk7 hC
          replace hk6 := blk_ext hk6 hC
          replace hk10 := blk_ext hk10 hC
          replace hk11 := blk_ext hk11 hC
          replace hr1 := Row.ext hr1 hC
          replace hr4 := Row.ext hr4 hC
          replace hr5 := Row.ext hr5 hC
          exact Runs.does (r_loadA (cs := [(.string ip.1), (.string ip.2.1), (.int .u8 ip.2.2.1), (.int .u32 ip.2.2.2.1), (.int .u32 ip.2.2.2.2.1.1), (.int .u32 ip.2.2.2.2.1.2.1), (.bool ip.2.2.2.2.1.2.2.1), (.int .u8 ip.2.2.2.2.2.1.1), (.bool ip.2.2.2.2.2.1.2.1)]) rfl Try.underlying81 rfl (by kernel_rfl) (cellsAt_blk hk1)) ⟨Below.refl _ _, rfl, nofr rfl⟩
        refine ⟨fun wu3 hC hd => ?_, ?_⟩
        · obtain ⟨h2, _⟩ := hd
          skip
          replace h2 : V 2 = (.agg #[(.string ip.1), (.string ip.2.1), (.int .u8 ip.2.2.1), (.int .u32 ip.2.2.2.1), (.int .u32 ip.2.2.2.2.1.1), (.int .u32 ip.2.2.2.2.1.2.1), (.bool ip.2.2.2.2.1.2.2.1), (.int .u8 ip.2.2.2.2.2.1.1), (.bool ip.2.2.2.2.2.1.2.1)]) := h2
          replace hb := hb.trans (hC.mono hb.size)
          replace hk1 := blk_ext hk1 hC
          replace hk7 := blk_ext hk7 hC
          replace hk6 := blk_ext hk6 hC
          replace hk10 := blk_ext hk10 hC
          replace hk11 := blk_ext hk11 hC
          replace hr1 := Row.ext hr1 hC
          replace hr4 := Row.ext hr4 hC
          replace hr5 := Row.ext hr5 hC
          refine Does.mono (d_callB (vs := [(.agg #[(.string ip.1), (.string ip.2.1), (.int .u8 ip.2.2.1), (.int .u32 ip.2.2.2.1), (.int .u32 ip.2.2.2.2.1.1), (.int .u32 ip.2.2.2.2.1.2.1), (.bool ip.2.2.2.2.1.2.2.1), (.int .u8 ip.2.2.2.2.2.1.1), (.bool ip.2.2.2.2.2.1.2.1)])]) (show [some (V 2)] = [some (.agg #[(.string ip.1), (.string ip.2.1), (.int .u8 ip.2.2.1), (.int .u32 ip.2.2.2.1), (.int .u32 ip.2.2.2.2.1.1), (.int .u32 ip.2.2.2.2.1.2.1), (.bool ip.2.2.2.2.1.2.2.1), (.int .u8 ip.2.2.2.2.2.1.1), (.bool ip.2.2.2.2.2.1.2.1)])] from by rw [h2]) Try.func102 (by kernel_rfl) (by kernel_rfl) (riput_any ip _ hzm1 hzm2 hok)) (fun _ _ h => ⟨h.2, h.1, nofr rfl⟩)
        refine ⟨fun wu4 hC hd => ?_, ?_⟩
        · obtain ⟨h1, h3, _⟩ := hd
          skip
          skip
          replace h1 : V 1 = (.string (strOfNums (iputL ip))) := h1
          replace h3 : V 3 = (.string (strOfNums (encI ip))) := h3
          replace hb := hb.trans (hC.mono hb.size)
          replace hk1 := blk_ext hk1 hC
          replace hk7 := blk_ext hk7 hC
          replace hk6 := blk_ext hk6 hC
          replace hk10 := blk_ext hk10 hC
          replace hk11 := blk_ext hk11 hC
          replace hr1 := Row.ext hr1 hC
          replace hr4 := Row.ext hr4 hC
          replace hr5 := Row.ext hr5 hC
          exact Runs.does (Runs.veq (r_seq (congrArg some h1) (congrArg some h3)) (congrArg Value.bool (show _ = true from (by rw [hpz]; simp)))) ⟨Below.refl _ _, rfl, nofr rfl⟩
        refine ⟨fun wu5 hC hd => ?_, ?_⟩
        · obtain ⟨h3, h4, _⟩ := hd
          skip
          skip
          replace h3 : V 3 = (.string (strOfNums (encI ip))) := h3
          replace h4 : V 4 = (.bool true) := h4
          replace hb := hb.trans (hC.mono hb.size)
          replace hk1 := blk_ext hk1 hC
          replace hk7 := blk_ext hk7 hC
          replace hk6 := blk_ext hk6 hC
          replace hk10 := blk_ext hk10 hC
          replace hk11 := blk_ext hk11 hC
          replace hr1 := Row.ext hr1 hC
          replace hr4 := Row.ext hr4 hC
          replace hr5 := Row.ext hr5 hC
          exact Runs.does (r_move (congrArg some h4)) ⟨Below.refl _ _, rfl, nofr rfl⟩
        refine ⟨fun wu6 hC hd => ?_, ?_⟩
        · obtain ⟨h5, _⟩ := hd
          skip
          replace h5 : V 5 = (.bool true) := h5
          replace hb := hb.trans (hC.mono hb.size)
          replace hk1 := blk_ext hk1 hC
          replace hk7 := blk_ext hk7 hC
          replace hk6 := blk_ext hk6 hC
          replace hk10 := blk_ext hk10 hC
          replace hk11 := blk_ext hk11 hC
          replace hr1 := Row.ext hr1 hC
          replace hr4 := Row.ext hr4 hC
          replace hr5 := Row.ext hr5 hC
          refine ⟨true, true, congrArg some h5, fun hact => ?_, fun hact => ?_⟩
          · exact Runs.does (r_fa rfl Try.underlying90 (f := 0) (q := 0) rfl (by kernel_rfl) rfl) ⟨Below.refl _ _, rfl, nofr rfl⟩
          · exfalso; simp at hact
        refine ⟨fun wu7 hC hd => ?_, ?_⟩
        · obtain ⟨h5, h6, _⟩ := hd
          skip
          skip
          replace h5 : V 5 = (.bool true) := h5
          replace h6 : V 6 = (.pointer (some ⟨b6, 0, none⟩)) := h6
          replace hb := hb.trans (hC.mono hb.size)
          replace hk1 := blk_ext hk1 hC
          replace hk7 := blk_ext hk7 hC
          replace hk6 := blk_ext hk6 hC
          replace hk10 := blk_ext hk10 hC
          replace hk11 := blk_ext hk11 hC
          replace hr1 := Row.ext hr1 hC
          replace hr4 := Row.ext hr4 hC
          replace hr5 := Row.ext hr5 hC
          refine ⟨true, true, congrArg some h5, fun hact => ?_, fun hact => ?_⟩
          · exact Runs.does (r_load (v := (.int .i64 (0 : Int))) (congrArg some h6) Try.underlying39 rfl (cell_blk hk11 rfl)) ⟨Below.refl _ _, rfl, nofr rfl⟩
          · exfalso; simp at hact
        refine ⟨fun wu8 hC hd => ?_, ?_⟩
        · obtain ⟨h5, h7, _⟩ := hd
          skip
          skip
          replace h5 : V 5 = (.bool true) := h5
          replace h7 : V 7 = (.int .i64 (0 : Int)) := h7
          replace hb := hb.trans (hC.mono hb.size)
          replace hk1 := blk_ext hk1 hC
          replace hk7 := blk_ext hk7 hC
          replace hk6 := blk_ext hk6 hC
          replace hk10 := blk_ext hk10 hC
          replace hk11 := blk_ext hk11 hC
          replace hr1 := Row.ext hr1 hC
          replace hr4 := Row.ext hr4 hC
          replace hr5 := Row.ext hr5 hC
          refine ⟨true, true, congrArg some h5, fun hact => ?_, fun hact => ?_⟩
          · exact Runs.does (Runs.veq (r_eq (congrArg some h7) rfl) (congrArg Value.bool (show _ = true from (by simp)))) ⟨Below.refl _ _, rfl, nofr rfl⟩
          · exfalso; simp at hact
        refine ⟨fun wu9 hC hd => ?_, ?_⟩
        · obtain ⟨h5, h8, _⟩ := hd
          skip
          skip
          replace h5 : V 5 = (.bool true) := h5
          replace h8 : V 8 = (.bool true) := h8
          replace hb := hb.trans (hC.mono hb.size)
          replace hk1 := blk_ext hk1 hC
          replace hk7 := blk_ext hk7 hC
          replace hk6 := blk_ext hk6 hC
          replace hk10 := blk_ext hk10 hC
          replace hk11 := blk_ext hk11 hC
          replace hr1 := Row.ext hr1 hC
          replace hr4 := Row.ext hr4 hC
          replace hr5 := Row.ext hr5 hC
          exact Runs.does (r_pick (b := true) (congrArg some h5) (congrArg some h8) rfl rfl) ⟨Below.refl _ _, rfl, nofr rfl⟩
        refine ⟨fun wu10 hC hd => ?_, ?_⟩
        · obtain ⟨h5, h9, _⟩ := hd
          skip
          skip
          replace h5 : V 5 = (.bool true) := h5
          replace h9 : V 9 = (.bool true) := h9
          replace hb := hb.trans (hC.mono hb.size)
          replace hk1 := blk_ext hk1 hC
          replace hk7 := blk_ext hk7 hC
          replace hk6 := blk_ext hk6 hC
          replace hk10 := blk_ext hk10 hC
          replace hk11 := blk_ext hk11 hC
          replace hr1 := Row.ext hr1 hC
          replace hr4 := Row.ext hr4 hC
          replace hr5 := Row.ext hr5 hC
          exact Runs.does (r_move (congrArg some h9)) ⟨Below.refl _ _, rfl, nofr rfl⟩
        refine ⟨fun wu11 hC hd => ?_, ?_⟩
        · obtain ⟨h10, _⟩ := hd
          skip
          replace h10 : V 10 = (.bool true) := h10
          replace hb := hb.trans (hC.mono hb.size)
          replace hk1 := blk_ext hk1 hC
          replace hk7 := blk_ext hk7 hC
          replace hk6 := blk_ext hk6 hC
          replace hk10 := blk_ext hk10 hC
          replace hk11 := blk_ext hk11 hC
          replace hr1 := Row.ext hr1 hC
          replace hr4 := Row.ext hr4 hC
          replace hr5 := Row.ext hr5 hC
          refine ⟨true, true, congrArg some h10, fun hact => ?_, fun hact => ?_⟩
          · exact Runs.does (r_loadA (cs := [(.string ip.1), (.string ip.2.1), (.int .u8 ip.2.2.1), (.int .u32 ip.2.2.2.1), (.int .u32 ip.2.2.2.2.1.1), (.int .u32 ip.2.2.2.2.1.2.1), (.bool ip.2.2.2.2.1.2.2.1), (.int .u8 ip.2.2.2.2.2.1.1), (.bool ip.2.2.2.2.2.1.2.1)]) rfl Try.underlying81 rfl (by kernel_rfl) (cellsAt_blk hk10)) ⟨Below.refl _ _, rfl, nofr rfl⟩
          · exfalso; simp at hact
        refine ⟨fun wu12 hC hd => ?_, ?_⟩
        · obtain ⟨h10, _⟩ := hd
          skip
          replace h10 : V 10 = (.bool true) := h10
          replace hb := hb.trans (hC.mono hb.size)
          replace hk1 := blk_ext hk1 hC
          replace hk7 := blk_ext hk7 hC
          replace hk6 := blk_ext hk6 hC
          replace hk10 := blk_ext hk10 hC
          replace hk11 := blk_ext hk11 hC
          replace hr1 := Row.ext hr1 hC
          replace hr4 := Row.ext hr4 hC
          replace hr5 := Row.ext hr5 hC
          refine ⟨true, true, congrArg some h10, fun hact => ?_, fun hact => ?_⟩
          · exact Runs.does (r_loadA (cs := [(.string ip.1), (.string ip.2.1), (.int .u8 ip.2.2.1), (.int .u32 ip.2.2.2.1), (.int .u32 ip.2.2.2.2.1.1), (.int .u32 ip.2.2.2.2.1.2.1), (.bool ip.2.2.2.2.1.2.2.1), (.int .u8 ip.2.2.2.2.2.1.1), (.bool ip.2.2.2.2.2.1.2.1)]) rfl Try.underlying81 rfl (by kernel_rfl) (cellsAt_blk hk1)) ⟨Below.refl _ _, rfl, nofr rfl⟩
          · exfalso; simp at hact
        refine ⟨fun wu13 hC hd => ?_, ?_⟩
        · obtain ⟨h10, h11, h12, _⟩ := hd
          skip
          skip
          skip
          replace h10 : V 10 = (.bool true) := h10
          replace h11 : V 11 = (.agg #[(.string ip.1), (.string ip.2.1), (.int .u8 ip.2.2.1), (.int .u32 ip.2.2.2.1), (.int .u32 ip.2.2.2.2.1.1), (.int .u32 ip.2.2.2.2.1.2.1), (.bool ip.2.2.2.2.1.2.2.1), (.int .u8 ip.2.2.2.2.2.1.1), (.bool ip.2.2.2.2.2.1.2.1)]) := h11
          replace h12 : V 12 = (.agg #[(.string ip.1), (.string ip.2.1), (.int .u8 ip.2.2.1), (.int .u32 ip.2.2.2.1), (.int .u32 ip.2.2.2.2.1.1), (.int .u32 ip.2.2.2.2.1.2.1), (.bool ip.2.2.2.2.1.2.2.1), (.int .u8 ip.2.2.2.2.2.1.1), (.bool ip.2.2.2.2.2.1.2.1)]) := h12
          replace hb := hb.trans (hC.mono hb.size)
          replace hk1 := blk_ext hk1 hC
          replace hk7 := blk_ext hk7 hC
          replace hk6 := blk_ext hk6 hC
          replace hk10 := blk_ext hk10 hC
          replace hk11 := blk_ext hk11 hC
          replace hr1 := Row.ext hr1 hC
          replace hr4 := Row.ext hr4 hC
          replace hr5 := Row.ext hr5 hC
          refine ⟨true, true, congrArg some h10, fun hact => ?_, fun hact => ?_⟩
          · refine Does.mono (d_callB (vs := [(.agg #[(.string ip.1), (.string ip.2.1), (.int .u8 ip.2.2.1), (.int .u32 ip.2.2.2.1), (.int .u32 ip.2.2.2.2.1.1), (.int .u32 ip.2.2.2.2.1.2.1), (.bool ip.2.2.2.2.1.2.2.1), (.int .u8 ip.2.2.2.2.2.1.1), (.bool ip.2.2.2.2.2.1.2.1)]), (.agg #[(.string ip.1), (.string ip.2.1), (.int .u8 ip.2.2.1), (.int .u32 ip.2.2.2.1), (.int .u32 ip.2.2.2.2.1.1), (.int .u32 ip.2.2.2.2.1.2.1), (.bool ip.2.2.2.2.1.2.2.1), (.int .u8 ip.2.2.2.2.2.1.1), (.bool ip.2.2.2.2.2.1.2.1)])]) (show [some (V 11), some (V 12)] = [some (.agg #[(.string ip.1), (.string ip.2.1), (.int .u8 ip.2.2.1), (.int .u32 ip.2.2.2.1), (.int .u32 ip.2.2.2.2.1.1), (.int .u32 ip.2.2.2.2.1.2.1), (.bool ip.2.2.2.2.1.2.2.1), (.int .u8 ip.2.2.2.2.2.1.1), (.bool ip.2.2.2.2.2.1.2.1)]), some (.agg #[(.string ip.1), (.string ip.2.1), (.int .u8 ip.2.2.1), (.int .u32 ip.2.2.2.1), (.int .u32 ip.2.2.2.2.1.1), (.int .u32 ip.2.2.2.2.1.2.1), (.bool ip.2.2.2.2.1.2.2.1), (.int .u8 ip.2.2.2.2.2.1.1), (.bool ip.2.2.2.2.2.1.2.1)])] from by rw [h11, h12]) Try.func103 (by kernel_rfl) (by kernel_rfl) (isame_any ip _)) (fun _ _ h => ⟨h.2, h.1, nofr rfl⟩)
          · exfalso; simp at hact
        refine ⟨fun wu14 hC hd => ?_, ?_⟩
        · obtain ⟨h10, h13, _⟩ := hd
          skip
          skip
          replace h10 : V 10 = (.bool true) := h10
          replace h13 : V 13 = (.bool true) := h13
          replace hb := hb.trans (hC.mono hb.size)
          replace hk1 := blk_ext hk1 hC
          replace hk7 := blk_ext hk7 hC
          replace hk6 := blk_ext hk6 hC
          replace hk10 := blk_ext hk10 hC
          replace hk11 := blk_ext hk11 hC
          replace hr1 := Row.ext hr1 hC
          replace hr4 := Row.ext hr4 hC
          replace hr5 := Row.ext hr5 hC
          exact Runs.does (r_pick (b := true) (congrArg some h10) (congrArg some h13) rfl rfl) ⟨Below.refl _ _, rfl, nofr rfl⟩
        refine ⟨fun wu15 hC hd => ?_, ?_⟩
        · obtain ⟨h13, h14, _⟩ := hd
          skip
          skip
          replace h13 : V 13 = (.bool true) := h13
          replace h14 : V 14 = (.bool true) := h14
          replace hb := hb.trans (hC.mono hb.size)
          replace hk1 := blk_ext hk1 hC
          replace hk7 := blk_ext hk7 hC
          replace hk6 := blk_ext hk6 hC
          replace hk10 := blk_ext hk10 hC
          replace hk11 := blk_ext hk11 hC
          replace hr1 := Row.ext hr1 hC
          replace hr4 := Row.ext hr4 hC
          replace hr5 := Row.ext hr5 hC
          exact Runs.does (r_move (congrArg some h14)) ⟨Below.refl _ _, rfl, nofr rfl⟩
        refine ⟨fun wu16 hC hd => ?_, ?_⟩
        · obtain ⟨h15, _⟩ := hd
          skip
          replace h15 : V 15 = (.bool true) := h15
          replace hb := hb.trans (hC.mono hb.size)
          replace hk1 := blk_ext hk1 hC
          replace hk7 := blk_ext hk7 hC
          replace hk6 := blk_ext hk6 hC
          replace hk10 := blk_ext hk10 hC
          replace hk11 := blk_ext hk11 hC
          replace hr1 := Row.ext hr1 hC
          replace hr4 := Row.ext hr4 hC
          replace hr5 := Row.ext hr5 hC
          refine ⟨true, true, congrArg some h15, fun hact => ?_, fun hact => ?_⟩
          · exact Runs.does (r_load (v := (.pointer (some ⟨sb1, 0, none⟩))) rfl Try.underlying87 rfl (cell_blk hk6 rfl)) ⟨Below.refl _ _, rfl, nofr rfl⟩
          · exfalso; simp at hact
        refine ⟨fun wu17 hC hd => ?_, ?_⟩
        · obtain ⟨h15, h16, _⟩ := hd
          skip
          skip
          replace h15 : V 15 = (.bool true) := h15
          replace h16 : V 16 = (.pointer (some ⟨sb1, 0, none⟩)) := h16
          replace hb := hb.trans (hC.mono hb.size)
          replace hk1 := blk_ext hk1 hC
          replace hk7 := blk_ext hk7 hC
          replace hk6 := blk_ext hk6 hC
          replace hk10 := blk_ext hk10 hC
          replace hk11 := blk_ext hk11 hC
          replace hr1 := Row.ext hr1 hC
          replace hr4 := Row.ext hr4 hC
          replace hr5 := Row.ext hr5 hC
          refine ⟨true, true, congrArg some h15, fun hact => ?_, fun hact => ?_⟩
          · refine Does.mono (d_callB (vs := [(.pointer (some ⟨sb1, 0, none⟩))]) (show [some (V 16)] = [some (.pointer (some ⟨sb1, 0, none⟩))] from by rw [h16]) Try.func67 (by kernel_rfl) (by kernel_rfl) (left_any sb1 w.heap.size ((0 + (encI ip).length)) sa1 sc1 ((iputL ip) ++ [(7 : Int)]) _ hk7 hr5 (by omega))) (fun _ _ h => ⟨h.2, h.1, nofr rfl⟩)
          · exfalso; simp at hact
        refine ⟨fun wu18 hC hd => ?_, ?_⟩
        · obtain ⟨h15, h17, _⟩ := hd
          skip
          skip
          replace h15 : V 15 = (.bool true) := h15
          replace h17 : V 17 = (.int .i64 ((((((iputL ip) ++ [(7 : Int)])).length : Nat) : Int) - ((((0 + (encI ip).length)) : Nat) : Int))) := h17
          replace hb := hb.trans (hC.mono hb.size)
          replace hk1 := blk_ext hk1 hC
          replace hk7 := blk_ext hk7 hC
          replace hk6 := blk_ext hk6 hC
          replace hk10 := blk_ext hk10 hC
          replace hk11 := blk_ext hk11 hC
          replace hr1 := Row.ext hr1 hC
          replace hr4 := Row.ext hr4 hC
          replace hr5 := Row.ext hr5 hC
          refine ⟨true, true, congrArg some h15, fun hact => ?_, fun hact => ?_⟩
          · exact Runs.does (Runs.veq (r_eq (congrArg some h17) rfl) (congrArg Value.bool (show _ = true from (decide_eq_true (by omega))))) ⟨Below.refl _ _, rfl, nofr rfl⟩
          · exfalso; simp at hact
        refine ⟨fun wu19 hC hd => ?_, ?_⟩
        · obtain ⟨h15, h18, _⟩ := hd
          skip
          skip
          replace h15 : V 15 = (.bool true) := h15
          replace h18 : V 18 = (.bool true) := h18
          replace hb := hb.trans (hC.mono hb.size)
          replace hk1 := blk_ext hk1 hC
          replace hk7 := blk_ext hk7 hC
          replace hk6 := blk_ext hk6 hC
          replace hk10 := blk_ext hk10 hC
          replace hk11 := blk_ext hk11 hC
          replace hr1 := Row.ext hr1 hC
          replace hr4 := Row.ext hr4 hC
          replace hr5 := Row.ext hr5 hC
          exact Runs.does (r_pick (b := true) (congrArg some h15) (congrArg some h18) rfl rfl) ⟨Below.refl _ _, rfl, nofr rfl⟩
        refine ⟨fun wu20 hC hd => ?_, ?_⟩
        · obtain ⟨h0, h1, h2, h3, h4, h5, h6, h7, h8, h9, h10, h11, h12, h13, h14, h15, h16, h17, h18, h19, _⟩ := hd
          skip
          skip
          skip
          skip
          skip
          skip
          skip
          skip
          skip
          skip
          skip
          skip
          skip
          skip
          skip
          skip
          skip
          skip
          skip
          skip
          replace h0 : V 0 = (.slice pa1 (((iputL ip)).length) pc1) := h0
          replace h1 : V 1 = (.string (strOfNums (iputL ip))) := h1
          replace h2 : V 2 = (.agg #[(.string ip.1), (.string ip.2.1), (.int .u8 ip.2.2.1), (.int .u32 ip.2.2.2.1), (.int .u32 ip.2.2.2.2.1.1), (.int .u32 ip.2.2.2.2.1.2.1), (.bool ip.2.2.2.2.1.2.2.1), (.int .u8 ip.2.2.2.2.2.1.1), (.bool ip.2.2.2.2.2.1.2.1)]) := h2
          replace h3 : V 3 = (.string (strOfNums (encI ip))) := h3
          replace h4 : V 4 = (.bool true) := h4
          replace h5 : V 5 = (.bool true) := h5
          replace h6 : V 6 = (.pointer (some ⟨b6, 0, none⟩)) := h6
          replace h7 : V 7 = (.int .i64 (0 : Int)) := h7
          replace h8 : V 8 = (.bool true) := h8
          replace h9 : V 9 = (.bool true) := h9
          replace h10 : V 10 = (.bool true) := h10
          replace h11 : V 11 = (.agg #[(.string ip.1), (.string ip.2.1), (.int .u8 ip.2.2.1), (.int .u32 ip.2.2.2.1), (.int .u32 ip.2.2.2.2.1.1), (.int .u32 ip.2.2.2.2.1.2.1), (.bool ip.2.2.2.2.1.2.2.1), (.int .u8 ip.2.2.2.2.2.1.1), (.bool ip.2.2.2.2.2.1.2.1)]) := h11
          replace h12 : V 12 = (.agg #[(.string ip.1), (.string ip.2.1), (.int .u8 ip.2.2.1), (.int .u32 ip.2.2.2.1), (.int .u32 ip.2.2.2.2.1.1), (.int .u32 ip.2.2.2.2.1.2.1), (.bool ip.2.2.2.2.1.2.2.1), (.int .u8 ip.2.2.2.2.2.1.1), (.bool ip.2.2.2.2.2.1.2.1)]) := h12
          replace h13 : V 13 = (.bool true) := h13
          replace h14 : V 14 = (.bool true) := h14
          replace h15 : V 15 = (.bool true) := h15
          replace h16 : V 16 = (.pointer (some ⟨sb1, 0, none⟩)) := h16
          replace h17 : V 17 = (.int .i64 ((((((iputL ip) ++ [(7 : Int)])).length : Nat) : Int) - ((((0 + (encI ip).length)) : Nat) : Int))) := h17
          replace h18 : V 18 = (.bool true) := h18
          replace h19 : V 19 = (.bool true) := h19
          replace hb := hb.trans (hC.mono hb.size)
          replace hk1 := blk_ext hk1 hC
          replace hk7 := blk_ext hk7 hC
          replace hk6 := blk_ext hk6 hC
          replace hk10 := blk_ext hk10 hC
          replace hk11 := blk_ext hk11 hC
          replace hr1 := Row.ext hr1 hC
          replace hr4 := Row.ext hr4 hC
          replace hr5 := Row.ext hr5 hC
          exact Runs.does (r_assign (congrArg some h19)) ⟨Below.refl _ _, rfl, nofr rfl⟩
        trivial
      · skip
        clear hf fa; intro V w18 fa he12 hp hnb hf
        have hv0 : V 0 = (.slice pa1 (((iputL ip)).length) pc1) := postsHold_at hp 0 rfl
        have hv1 : V 1 = (.string (strOfNums (iputL ip))) := postsHold_at hp 1 rfl
        have hv2 : V 2 = (.agg #[(.string ip.1), (.string ip.2.1), (.int .u8 ip.2.2.1), (.int .u32 ip.2.2.2.1), (.int .u32 ip.2.2.2.2.1.1), (.int .u32 ip.2.2.2.2.1.2.1), (.bool ip.2.2.2.2.1.2.2.1), (.int .u8 ip.2.2.2.2.2.1.1), (.bool ip.2.2.2.2.2.1.2.1)]) := postsHold_at hp 2 rfl
        have hv3 : V 3 = (.string (strOfNums (encI ip))) := postsHold_at hp 3 rfl
        have hv4 : V 4 = (.bool true) := postsHold_at hp 4 rfl
        have hv5 : V 5 = (.bool true) := postsHold_at hp 5 rfl
        have hv6 : V 6 = (.pointer (some ⟨b6, 0, none⟩)) := postsHold_at hp 6 rfl
        have hv7 : V 7 = (.int .i64 (0 : Int)) := postsHold_at hp 7 rfl
        have hv8 : V 8 = (.bool true) := postsHold_at hp 8 rfl
        have hv9 : V 9 = (.bool true) := postsHold_at hp 9 rfl
        have hv10 : V 10 = (.bool true) := postsHold_at hp 10 rfl
        have hv11 : V 11 = (.agg #[(.string ip.1), (.string ip.2.1), (.int .u8 ip.2.2.1), (.int .u32 ip.2.2.2.1), (.int .u32 ip.2.2.2.2.1.1), (.int .u32 ip.2.2.2.2.1.2.1), (.bool ip.2.2.2.2.1.2.2.1), (.int .u8 ip.2.2.2.2.2.1.1), (.bool ip.2.2.2.2.2.1.2.1)]) := postsHold_at hp 11 rfl
        have hv12 : V 12 = (.agg #[(.string ip.1), (.string ip.2.1), (.int .u8 ip.2.2.1), (.int .u32 ip.2.2.2.1), (.int .u32 ip.2.2.2.2.1.1), (.int .u32 ip.2.2.2.2.1.2.1), (.bool ip.2.2.2.2.1.2.2.1), (.int .u8 ip.2.2.2.2.2.1.1), (.bool ip.2.2.2.2.2.1.2.1)]) := postsHold_at hp 12 rfl
        have hv13 : V 13 = (.bool true) := postsHold_at hp 13 rfl
        have hv14 : V 14 = (.bool true) := postsHold_at hp 14 rfl
        have hv15 : V 15 = (.bool true) := postsHold_at hp 15 rfl
        have hv16 : V 16 = (.pointer (some ⟨sb1, 0, none⟩)) := postsHold_at hp 16 rfl
        have hv17 : V 17 = (.int .i64 ((((((iputL ip) ++ [(7 : Int)])).length : Nat) : Int) - ((((0 + (encI ip).length)) : Nat) : Int))) := postsHold_at hp 17 rfl
        have hv18 : V 18 = (.bool true) := postsHold_at hp 18 rfl
        have hv19 : V 19 = (.bool true) := postsHold_at hp 19 rfl
        have hv20 : V 20 = (.bool true) := postsHold_at hp 20 rfl
        simp only [List.take_succ_cons, List.take_zero, insAll, ins, hv0, hv1, hv2, hv3, hv4, hv5, hv6, hv7, hv8, hv9, hv10, hv11, hv12, hv13, hv14, hv15, hv16, hv17, hv18, hv19, hv20] at hf
        clear hp hnb hv0 hv1 hv2 hv3 hv4 hv5 hv6 hv7 hv8 hv9 hv10 hv11 hv12 hv13 hv14 hv15 hv16 hv17 hv18 hv19 hv20
        replace hk1 := blk_ext hk1 he12
        replace hk7 := blk_ext hk7 he12
        replace hk6 := blk_ext hk6 he12
        replace hk10 := blk_ext hk10 he12
        replace hk11 := blk_ext hk11 he12
        replace hr1 := Row.ext hr1 he12
        replace hr4 := Row.ext hr4 he12
        replace hr5 := Row.ext hr5 he12
        replace hb := hb.trans (Below.mono he12 hb.size)
        (try simp only [Exit.then, Exit.inBlock, ↓reduceIte, Nat.reduceEqDiff])
        refine hK16 _ _ ?_
        refine wp_ret ?_
        (try simp only [Exit.then, Exit.inBlock])
        refine ret1 hf rfl rfl ?_
        exact ⟨rfl, hb⟩
end Go.Proofs.Ytcmdajkkdognfaa
