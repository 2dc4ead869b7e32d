/- What is proved here: imports: the example. -/
import Derived.Test.YtcmdajkkdognfaaImA
import Derived.Test.YtcmdajkkdognfaaSxV
namespace Go.Proofs.Ytcmdajkkdognfaa
open Go.RowKit
set_option linter.unusedVariables false
set_option linter.unusedSimpArgs false
def nameL (s : ByteArray) : List Int := uL s.size ++ nums s
theorem chk_env (w : World) : Calls Try.prog 109 #[.string ⟨#[101, 110, 118]⟩] w fun e w' => e = .returned (.int .i64 0) ∧ Below w.heap.size w w' := by
  have h := Ut.check_any ⟨#[101, 110, 118]⟩ w (by decide)
  rwa [show Ut.checkF ⟨#[101, 110, 118]⟩ = 0 from by decide +kernel] at h
theorem chk_f (w : World) : Calls Try.prog 109 #[.string ⟨#[102]⟩] w fun e w' => e = .returned (.int .i64 0) ∧ Below w.heap.size w w' := by
  have h := Ut.check_any ⟨#[102]⟩ w (by decide)
  rwa [show Ut.checkF ⟨#[102]⟩ = 0 from by decide +kernel] at h

set_option maxHeartbeats 1000000 in
set_option maxRecDepth 100000 in
theorem iright0 (w : World) : Calls Try.prog 98 #[(.agg #[(.string ⟨#[101, 110, 118]⟩), (.string ⟨#[102]⟩), (.int .u8 (0 : Int)), (.int .u32 (5 : Int)), (.int .u32 (0 : Int)), (.int .u32 (0 : Int)), (.bool false), (.int .u8 (0 : Int)), (.bool false)])] w fun e w' => e = .returned (.int .i64 0) ∧ Below w.heap.size w w' := by
  refine sx_enter (L := [(0, (.agg #[(.string ⟨#[101, 110, 118]⟩), (.string ⟨#[102]⟩), (.int .u8 (0 : Int)), (.int .u32 (5 : Int)), (.int .u32 (0 : Int)), (.int .u32 (0 : Int)), (.bool false), (.int .u8 (0 : Int)), (.bool false)]))]) Try.func98 rfl rfl rfl rfl (fun fa hf => ?_)
  have hb : Below w.heap.size w w := Below.refl _ _
  refine wp_seq_k (fun K1 hK1 => ?_)
  refine wp_region_lit ?_
  refine sqdt hf (d_box (cs := #[(.string ⟨#[101, 110, 118]⟩), (.string ⟨#[102]⟩), (.int .u8 (0 : Int)), (.int .u32 (5 : Int)), (.int .u32 (0 : Int)), (.int .u32 (0 : Int)), (.bool false), (.int .u8 (0 : Int)), (.bool false)]) rfl rfl) rfl rfl rfl ?_; clear hf fa; rintro fa _ w1 ⟨b1, rfl, hle1, hk1, he1⟩ hf
  have hBb1 : w.heap.size ≤ b1 := Nat.le_trans hb.size hle1
  replace hb := hb.trans (Below.mono he1 hb.size)
  refine sqv hf (r_assign rfl) rfl rfl rfl ?_; clear hf fa; intro fa hf
  apply wpList_nil
  (try simp only [Exit.then, Exit.inBlock, ↓reduceIte, Nat.reduceEqDiff])
  refine hK1 _ _ ?_
  refine wp_seq_k (fun K2 hK2 => ?_)
  refine wp_seq_k (fun K3 hK3 => ?_)
  refine wp_region_lit ?_
  refine sqv hf (r_fa rfl Try.underlying81 (f := 0) (q := 0) rfl (by kernel_rfl) rfl) rfl rfl rfl ?_; clear hf fa; intro fa hf
  refine sqv hf (r_load (v := (.string ⟨#[101, 110, 118]⟩)) rfl Try.underlying9 rfl (cell_blk hk1 rfl)) rfl rfl rfl ?_; clear hf fa; intro fa hf
  refine sqdt hf (d_callB (vs := [(.string ⟨#[101, 110, 118]⟩)]) rfl Try.func109 (by kernel_rfl) (by kernel_rfl) (chk_env _)) rfl rfl rfl ?_; clear hf fa; rintro fa _ w2 ⟨rfl, he2⟩ hf
  replace hk1 := blk_ext hk1 he2
  replace hb := hb.trans (Below.mono he2 hb.size)
  refine sqv hf (r_assign rfl) rfl rfl rfl ?_; clear hf fa; intro fa hf
  apply wpList_nil
  (try simp only [Exit.then, Exit.inBlock, ↓reduceIte, Nat.reduceEqDiff])
  refine hK3 _ _ ?_
  refine wp_seq_k (fun K4 hK4 => ?_)
  refine wp_region_lit ?_
  refine sqv hf (r_move rfl) rfl rfl rfl ?_; clear hf fa; intro fa hf
  refine sqv hf (r_ne rfl rfl) rfl rfl rfl ?_; clear hf fa; intro fa hf
  apply wpList_nil
  (try simp only [Exit.then, Exit.inBlock, ↓reduceIte, Nat.reduceEqDiff])
  refine hK4 _ _ ?_
  refine wp_cond_false ((hf.ev rfl).trans (congrArg Value.bool (show (decide ((0 : Int) ≠ (0 : Int))) = false from rfl))) ?_
  refine wp_skip ?_
  (try simp only [Exit.then, Exit.inBlock, ↓reduceIte, Nat.reduceEqDiff])
  refine hK2 _ _ ?_
  refine wp_seq_k (fun K5 hK5 => ?_)
  refine wp_seq_k (fun K6 hK6 => ?_)
  refine wp_region_lit ?_
  refine sqv hf (r_fa rfl Try.underlying81 (f := 1) (q := 1) rfl (by kernel_rfl) rfl) rfl rfl rfl ?_; clear hf fa; intro fa hf
  refine sqv hf (r_load (v := (.string ⟨#[102]⟩)) rfl Try.underlying9 rfl (cell_blk hk1 rfl)) rfl rfl rfl ?_; clear hf fa; intro fa hf
  refine sqdt hf (d_callB (vs := [(.string ⟨#[102]⟩)]) rfl Try.func109 (by kernel_rfl) (by kernel_rfl) (chk_f _)) rfl rfl rfl ?_; clear hf fa; rintro fa _ w3 ⟨rfl, he3⟩ hf
  replace hk1 := blk_ext hk1 he3
  replace hb := hb.trans (Below.mono he3 hb.size)
  refine sqv hf (r_assign rfl) rfl rfl rfl ?_; clear hf fa; intro fa hf
  apply wpList_nil
  (try simp only [Exit.then, Exit.inBlock, ↓reduceIte, Nat.reduceEqDiff])
  refine hK6 _ _ ?_
  refine wp_seq_k (fun K7 hK7 => ?_)
  refine wp_region_lit ?_
  refine sqv hf (r_move rfl) rfl rfl rfl ?_; clear hf fa; intro fa hf
  refine sqv hf (r_ne rfl rfl) rfl rfl rfl ?_; clear hf fa; intro fa hf
  apply wpList_nil
  (try simp only [Exit.then, Exit.inBlock, ↓reduceIte, Nat.reduceEqDiff])
  refine hK7 _ _ ?_
  refine wp_cond_false ((hf.ev rfl).trans (congrArg Value.bool (show (decide ((0 : Int) ≠ (0 : Int))) = false from rfl))) ?_
  refine wp_skip ?_
  (try simp only [Exit.then, Exit.inBlock, ↓reduceIte, Nat.reduceEqDiff])
  refine hK5 _ _ ?_
  refine wp_seq_k (fun K8 hK8 => ?_)
  refine wp_seq_k (fun K9 hK9 => ?_)
  refine wp_region_lit ?_
  refine sqv hf (r_fa rfl Try.underlying81 (f := 2) (q := 2) rfl (by kernel_rfl) rfl) rfl rfl rfl ?_; clear hf fa; intro fa hf
  refine sqv hf (r_load (v := (.int .u8 (0 : Int))) rfl Try.underlying5 rfl (cell_blk hk1 rfl)) rfl rfl rfl ?_; clear hf fa; intro fa hf
  refine sqv hf (r_gt rfl rfl) rfl rfl rfl ?_; clear hf fa; intro fa hf
  apply wpList_nil
  (try simp only [Exit.then, Exit.inBlock, ↓reduceIte, Nat.reduceEqDiff])
  refine hK9 _ _ ?_
  refine wp_cond_false ((hf.ev rfl).trans (congrArg Value.bool (show (decide ((3 : Int) < (0 : Int))) = false from rfl))) ?_
  refine wp_skip ?_
  (try simp only [Exit.then, Exit.inBlock, ↓reduceIte, Nat.reduceEqDiff])
  refine hK8 _ _ ?_
  refine wp_seq_k (fun K10 hK10 => ?_)
  refine wp_region_lit ?_
  refine sqv hf (r_fa rfl Try.underlying81 (f := 0) (q := 0) rfl (by kernel_rfl) rfl) rfl rfl rfl ?_; clear hf fa; intro fa hf
  refine sqv hf (r_load (v := (.string ⟨#[101, 110, 118]⟩)) rfl Try.underlying9 rfl (cell_blk hk1 rfl)) rfl rfl rfl ?_; clear hf fa; intro fa hf
  refine sqv hf (r_fa rfl Try.underlying81 (f := 1) (q := 1) rfl (by kernel_rfl) rfl) rfl rfl rfl ?_; clear hf fa; intro fa hf
  refine sqv hf (r_load (v := (.string ⟨#[102]⟩)) rfl Try.underlying9 rfl (cell_blk hk1 rfl)) rfl rfl rfl ?_; clear hf fa; intro fa hf
  refine sqv hf (r_fa rfl Try.underlying81 (f := 2) (q := 2) rfl (by kernel_rfl) rfl) rfl rfl rfl ?_; clear hf fa; intro fa hf
  refine sqv hf (r_load (v := (.int .u8 (0 : Int))) rfl Try.underlying5 rfl (cell_blk hk1 rfl)) rfl rfl rfl ?_; clear hf fa; intro fa hf
  refine sqv hf (r_build (vs := [(0, (.string ⟨#[101, 110, 118]⟩)), (1, (.string ⟨#[102]⟩)), (2, (.int .u8 (0 : Int)))]) (cs := #[(.string ⟨#[101, 110, 118]⟩), (.string ⟨#[102]⟩), (.int .u8 (0 : Int)), (.int .u32 (0 : Int)), (.int .u32 (0 : Int)), (.int .u32 (0 : Int)), (.bool false), (.int .u8 (0 : Int)), (.bool false)]) rfl (fun _ => by kernel_rfl)) rfl rfl rfl ?_; clear hf fa; intro fa hf
  refine sqdt hf (d_alloc (z := (.agg #[(.string ⟨#[]⟩), (.string ⟨#[]⟩), (.int .u8 (0 : Int)), (.int .u32 (0 : Int)), (.int .u32 (0 : Int)), (.int .u32 (0 : Int)), (.bool false), (.int .u8 (0 : Int)), (.bool false)])) (cs := #[(.string ⟨#[]⟩), (.string ⟨#[]⟩), (.int .u8 (0 : Int)), (.int .u32 (0 : Int)), (.int .u32 (0 : Int)), (.int .u32 (0 : Int)), (.bool false), (.int .u8 (0 : Int)), (.bool false)]) (by kernel_rfl) rfl) rfl rfl rfl ?_; clear hf fa; rintro fa _ w4 ⟨b2, rfl, hle2, hk2, he4⟩ hf
  have hBb2 : w.heap.size ≤ b2 := Nat.le_trans hb.size hle2
  have : b1 < b2 := Nat.lt_of_lt_of_le (blk_lt hk1) hle2
  replace hk1 := blk_ext hk1 he4
  replace hb := hb.trans (Below.mono he4 hb.size)
  refine sqn hf (d_storeK (T := 81) (v := (.agg #[(.string ⟨#[101, 110, 118]⟩), (.string ⟨#[102]⟩), (.int .u8 (0 : Int)), (.int .u32 (0 : Int)), (.int .u32 (0 : Int)), (.int .u32 (0 : Int)), (.bool false), (.int .u8 (0 : Int)), (.bool false)])) (cs := #[(.string ⟨#[]⟩), (.string ⟨#[]⟩), (.int .u8 (0 : Int)), (.int .u32 (0 : Int)), (.int .u32 (0 : Int)), (.int .u32 (0 : Int)), (.bool false), (.int .u8 (0 : Int)), (.bool false)]) (cs' := #[(.string ⟨#[101, 110, 118]⟩), (.string ⟨#[102]⟩), (.int .u8 (0 : Int)), (.int .u32 (0 : Int)), (.int .u32 (0 : Int)), (.int .u32 (0 : Int)), (.bool false), (.int .u8 (0 : Int)), (.bool false)]) rfl rfl (by kernel_rfl) (by kernel_rfl) hk2 (by kernel_rfl) (by kernel_rfl)) rfl rfl ?_; clear hf fa; rintro fa _ w5 ⟨hk3, hg1⟩ hf
  replace hk1 := blk_grown hk1 hg1 (by omega)
  replace hb := hb.trans (grown_below hg1 hb.size hBb2)
  apply wpList_nil
  (try simp only [Exit.then, Exit.inBlock, ↓reduceIte, Nat.reduceEqDiff])
  refine hK10 _ _ ?_
  refine wp_seq_k (fun K11 hK11 => ?_)
  refine wp_seq_k (fun K12 hK12 => ?_)
  refine wp_region_lit ?_
  refine sqv hf (r_fa rfl Try.underlying81 (f := 2) (q := 2) rfl (by kernel_rfl) rfl) rfl rfl rfl ?_; clear hf fa; intro fa hf
  refine sqv hf (r_load (v := (.int .u8 (0 : Int))) rfl Try.underlying5 rfl (cell_blk hk1 rfl)) rfl rfl rfl ?_; clear hf fa; intro fa hf
  apply wpList_nil
  (try simp only [Exit.then, Exit.inBlock, ↓reduceIte, Nat.reduceEqDiff])
  refine hK12 _ _ ?_
  refine wp_block ?_
  refine wp_seq_k (fun K13 hK13 => ?_)
  refine wp_region_lit ?_
  refine sqv hf (r_eq rfl rfl) rfl rfl rfl ?_; clear hf fa; intro fa hf
  refine sqv hf (r_assign rfl) rfl rfl rfl ?_; clear hf fa; intro fa hf
  apply wpList_nil
  (try simp only [Exit.then, Exit.inBlock, ↓reduceIte, Nat.reduceEqDiff])
  refine hK13 _ _ ?_
  refine wp_cond_true ((hf.ev rfl).trans (congrArg Value.bool (show (decide ((0 : Int) = (0 : Int))) = true from rfl))) ?_
  refine wp_region_lit ?_
  refine sqv hf (r_fa rfl Try.underlying81 (f := 3) (q := 3) rfl (by kernel_rfl) rfl) rfl rfl rfl ?_; clear hf fa; intro fa hf
  refine sqv hf (r_load (v := (.int .u32 (5 : Int))) rfl Try.underlying24 rfl (cell_blk hk1 rfl)) rfl rfl rfl ?_; clear hf fa; intro fa hf
  refine sqv hf (r_fa rfl Try.underlying81 (f := 3) (q := 3) rfl (by kernel_rfl) rfl) rfl rfl rfl ?_; clear hf fa; intro fa hf
  refine sqn hf (d_storeK (T := 81) (v := (.int .u32 (5 : Int))) (cs := #[(.string ⟨#[101, 110, 118]⟩), (.string ⟨#[102]⟩), (.int .u8 (0 : Int)), (.int .u32 (0 : Int)), (.int .u32 (0 : Int)), (.int .u32 (0 : Int)), (.bool false), (.int .u8 (0 : Int)), (.bool false)]) (cs' := #[(.string ⟨#[101, 110, 118]⟩), (.string ⟨#[102]⟩), (.int .u8 (0 : Int)), (.int .u32 (5 : Int)), (.int .u32 (0 : Int)), (.int .u32 (0 : Int)), (.bool false), (.int .u8 (0 : Int)), (.bool false)]) rfl rfl (by kernel_rfl) (by kernel_rfl) hk3 (by kernel_rfl) (by kernel_rfl)) rfl rfl ?_; clear hf fa; rintro fa _ w6 ⟨hk4, hg2⟩ hf
  replace hk1 := blk_grown hk1 hg2 (by omega)
  replace hb := hb.trans (grown_below hg2 hb.size hBb2)
  apply wpList_nil
  (try simp only [Exit.then, Exit.inBlock, ↓reduceIte, Nat.reduceEqDiff])
  refine hK11 _ _ ?_
  refine wp_seq_k (fun K14 hK14 => ?_)
  refine wp_block ?_
  refine wp_seq_k (fun K15 hK15 => ?_)
  refine wp_region_lit ?_
  refine sqv hf (r_loadA (cs := [(.string ⟨#[101, 110, 118]⟩), (.string ⟨#[102]⟩), (.int .u8 (0 : Int)), (.int .u32 (5 : Int)), (.int .u32 (0 : Int)), (.int .u32 (0 : Int)), (.bool false), (.int .u8 (0 : Int)), (.bool false)]) rfl Try.underlying81 rfl (by kernel_rfl) (cellsAt_blk hk4)) rfl rfl rfl ?_; clear hf fa; intro fa hf
  refine sqv hf (r_loadA (cs := [(.string ⟨#[101, 110, 118]⟩), (.string ⟨#[102]⟩), (.int .u8 (0 : Int)), (.int .u32 (5 : Int)), (.int .u32 (0 : Int)), (.int .u32 (0 : Int)), (.bool false), (.int .u8 (0 : Int)), (.bool false)]) rfl Try.underlying81 rfl (by kernel_rfl) (cellsAt_blk hk1)) rfl rfl rfl ?_; clear hf fa; intro fa hf
  refine sqv hf (Runs.veq (r_ane (k := 5) rfl rfl (by kernel_rfl) (eqt_struct (xs := #[(.string ⟨#[101, 110, 118]⟩), (.string ⟨#[102]⟩), (.int .u8 (0 : Int)), (.int .u32 (5 : Int)), (.int .u32 (0 : Int)), (.int .u32 (0 : Int)), (.bool false), (.int .u8 (0 : Int)), (.bool false)]) (ys := #[(.string ⟨#[101, 110, 118]⟩), (.string ⟨#[102]⟩), (.int .u8 (0 : Int)), (.int .u32 (5 : Int)), (.int .u32 (0 : Int)), (.int .u32 (0 : Int)), (.bool false), (.int .u8 (0 : Int)), (.bool false)]) Try.underlying81 (by kernel_rfl) (eqf_cons (by kernel_rfl) (fun _ => by kernel_rfl) (fun _ => by kernel_rfl) (eqt_str (a := ⟨#[101, 110, 118]⟩) (b := ⟨#[101, 110, 118]⟩) Try.underlying9) (eqf_cons (by kernel_rfl) (fun _ => by kernel_rfl) (fun _ => by kernel_rfl) (eqt_str (a := ⟨#[102]⟩) (b := ⟨#[102]⟩) Try.underlying9) (eqf_cons (by kernel_rfl) (fun _ => by kernel_rfl) (fun _ => by kernel_rfl) (eqt_int (kk := .u8) (a := (0 : Int)) (b := (0 : Int)) Try.underlying5) (eqf_cons (by kernel_rfl) (fun _ => by kernel_rfl) (fun _ => by kernel_rfl) (eqt_int (kk := .u32) (a := (5 : Int)) (b := (5 : Int)) Try.underlying24) (eqf_cons (by kernel_rfl) (fun _ => by kernel_rfl) (fun _ => by kernel_rfl) (eqt_struct (xs := #[(.int .u32 (0 : Int)), (.int .u32 (0 : Int)), (.bool false)]) (ys := #[(.int .u32 (0 : Int)), (.int .u32 (0 : Int)), (.bool false)]) Try.underlying43 (by kernel_rfl) (eqf_cons (by kernel_rfl) (fun _ => by kernel_rfl) (fun _ => by kernel_rfl) (eqt_int (kk := .u32) (a := (0 : Int)) (b := (0 : Int)) Try.underlying24) (eqf_cons (by kernel_rfl) (fun _ => by kernel_rfl) (fun _ => by kernel_rfl) (eqt_int (kk := .u32) (a := (0 : Int)) (b := (0 : Int)) Try.underlying24) (eqf_one (by kernel_rfl) (fun _ => by kernel_rfl) (fun _ => by kernel_rfl) (eqt_bool (a := false) (b := false) Try.underlying4))))) (eqf_one (by kernel_rfl) (fun _ => by kernel_rfl) (fun _ => by kernel_rfl) (eqt_struct (xs := #[(.int .u8 (0 : Int)), (.bool false)]) (ys := #[(.int .u8 (0 : Int)), (.bool false)]) Try.underlying54 (by kernel_rfl) (eqf_cons (by kernel_rfl) (fun _ => by kernel_rfl) (fun _ => by kernel_rfl) (eqt_int (kk := .u8) (a := (0 : Int)) (b := (0 : Int)) Try.underlying5) (eqf_one (by kernel_rfl) (fun _ => by kernel_rfl) (fun _ => by kernel_rfl) (eqt_bool (a := false) (b := false) Try.underlying4))))))))))) rfl) (congrArg Value.bool (show _ = false from (by simp)))) rfl rfl rfl ?_; clear hf fa; intro fa hf
  refine sqv hf (r_move rfl) rfl rfl rfl ?_; clear hf fa; intro fa hf
  refine sqgd (act := true) (g := 3) (want := false) (ag := true) (c := false) hf (by rfl) (by rfl) rfl (fun _ =>  Runs.does (R := fun vq wq => vq = (.pointer (some ⟨b1, 4, none⟩)) ∧ w6 = wq) (r_fa rfl Try.underlying81 (f := 4) (q := 4) rfl (by kernel_rfl) rfl) ⟨rfl, rfl⟩) (fun h => by cases h) rfl ?_; clear hf fa; rintro fa _ _ ⟨rfl, rfl⟩ hf
  change Fr _ _ ((48, (.pointer (some ⟨b1, 4, none⟩))) :: _) at hf
  refine sqgd (act := true) (g := 3) (want := false) (ag := true) (c := false) hf (by rfl) (by rfl) rfl (fun _ =>  Runs.does (R := fun vq wq => vq = (.pointer (some ⟨b1, 6, none⟩)) ∧ w6 = wq) (r_fa rfl Try.underlying43 (f := 2) (q := 6) rfl (by kernel_rfl) rfl) ⟨rfl, rfl⟩) (fun h => by cases h) rfl ?_; clear hf fa; rintro fa _ _ ⟨rfl, rfl⟩ hf
  change Fr _ _ ((49, (.pointer (some ⟨b1, 6, none⟩))) :: _) at hf
  refine sqgd (act := true) (g := 3) (want := false) (ag := true) (c := false) hf (by rfl) (by rfl) rfl (fun _ =>  Runs.does (R := fun vq wq => vq = (.bool false) ∧ w6 = wq) (r_load (v := (.bool false)) rfl Try.underlying4 rfl (cell_blk hk1 rfl)) ⟨rfl, rfl⟩) (fun h => by cases h) rfl ?_; clear hf fa; rintro fa _ _ ⟨rfl, rfl⟩ hf
  change Fr _ _ ((50, (.bool false)) :: _) at hf
  refine sqgd (act := true) (g := 3) (want := false) (ag := true) (c := false) hf (by rfl) (by rfl) rfl (fun _ =>  Runs.does (R := fun vq wq => vq = (.bool true) ∧ w6 = wq) (Runs.veq (v' := (.bool true)) (r_not rfl) rfl) ⟨rfl, rfl⟩) (fun h => by cases h) rfl ?_; clear hf fa; rintro fa _ _ ⟨rfl, rfl⟩ hf
  change Fr _ _ ((51, (.bool true)) :: _) at hf
  refine sqgd (act := true) (g := 3) (want := false) (ag := true) (c := false) hf (by rfl) (by rfl) rfl (fun _ =>  Runs.does (R := fun vq wq => vq = (.bool true) ∧ w6 = wq) (r_move rfl) ⟨rfl, rfl⟩) (fun h => by cases h) rfl ?_; clear hf fa; rintro fa _ _ ⟨rfl, rfl⟩ hf
  change Fr _ _ ((52, (.bool true)) :: _) at hf
  refine sqgd (act := true) (g := 8) (want := true) (ag := true) (c := true) hf (by rfl) (by rfl) rfl (fun _ =>  Runs.does (R := fun vq wq => vq = (.pointer (some ⟨b1, 4, none⟩)) ∧ w6 = wq) (r_fa rfl Try.underlying81 (f := 4) (q := 4) rfl (by kernel_rfl) rfl) ⟨rfl, rfl⟩) (fun h => by cases h) rfl ?_; clear hf fa; rintro fa _ _ ⟨rfl, rfl⟩ hf
  change Fr _ _ ((53, (.pointer (some ⟨b1, 4, none⟩))) :: _) at hf
  refine sqgd (act := true) (g := 8) (want := true) (ag := true) (c := true) hf (by rfl) (by rfl) rfl (fun _ =>  Runs.does (R := fun vq wq => vq = (.pointer (some ⟨b1, 5, none⟩)) ∧ w6 = wq) (r_fa rfl Try.underlying43 (f := 1) (q := 5) rfl (by kernel_rfl) rfl) ⟨rfl, rfl⟩) (fun h => by cases h) rfl ?_; clear hf fa; rintro fa _ _ ⟨rfl, rfl⟩ hf
  change Fr _ _ ((54, (.pointer (some ⟨b1, 5, none⟩))) :: _) at hf
  refine sqgd (act := true) (g := 8) (want := true) (ag := true) (c := true) hf (by rfl) (by rfl) rfl (fun _ =>  Runs.does (R := fun vq wq => vq = (.int .u32 (0 : Int)) ∧ w6 = wq) (r_load (v := (.int .u32 (0 : Int))) rfl Try.underlying24 rfl (cell_blk hk1 rfl)) ⟨rfl, rfl⟩) (fun h => by cases h) rfl ?_; clear hf fa; rintro fa _ _ ⟨rfl, rfl⟩ hf
  change Fr _ _ ((55, (.int .u32 (0 : Int))) :: _) at hf
  refine sqgd (act := true) (g := 8) (want := true) (ag := true) (c := true) hf (by rfl) (by rfl) rfl (fun _ =>  Runs.does (R := fun vq wq => vq = (.bool (decide ((0 : Int) ≠ (0 : Int)))) ∧ w6 = wq) (r_ne rfl rfl) ⟨rfl, rfl⟩) (fun h => by cases h) rfl ?_; clear hf fa; rintro fa _ _ ⟨rfl, rfl⟩ hf
  change Fr _ _ ((56, (.bool (decide ((0 : Int) ≠ (0 : Int))))) :: _) at hf
  refine sqgd (act := true) (g := 3) (want := false) (ag := true) (c := false) hf (by rfl) (by rfl) rfl (fun _ =>  Runs.does (R := fun vq wq => vq = (.bool (decide ((0 : Int) ≠ (0 : Int)))) ∧ w6 = wq) (r_pick (b := true) rfl rfl rfl rfl) ⟨rfl, rfl⟩) (fun h => by cases h) rfl ?_; clear hf fa; rintro fa _ _ ⟨rfl, rfl⟩ hf
  change Fr _ _ ((57, (.bool (decide ((0 : Int) ≠ (0 : Int))))) :: _) at hf
  refine sqv hf (Runs.veq (r_pick (b := false) rfl rfl rfl rfl) (congrArg Value.bool (show _ = false from (by simp)))) rfl rfl rfl ?_; clear hf fa; intro fa hf
  refine sqv hf (r_assign rfl) rfl rfl rfl ?_; clear hf fa; intro fa hf
  apply wpList_nil
  (try simp only [Exit.then, Exit.inBlock, ↓reduceIte, Nat.reduceEqDiff])
  refine hK15 _ _ ?_
  refine wp_cond_false (hf.ev rfl) ?_
  refine wp_seq_k (fun K16 hK16 => ?_)
  refine wp_region_lit ?_
  refine sqv hf (r_fa rfl Try.underlying81 (f := 2) (q := 2) rfl (by kernel_rfl) rfl) rfl rfl rfl ?_; clear hf fa; intro fa hf
  refine sqv hf (r_load (v := (.int .u8 (0 : Int))) rfl Try.underlying5 rfl (cell_blk hk1 rfl)) rfl rfl rfl ?_; clear hf fa; intro fa hf
  refine sqv hf (r_eq rfl rfl) rfl rfl rfl ?_; clear hf fa; intro fa hf
  refine sqv hf (r_assign rfl) rfl rfl rfl ?_; clear hf fa; intro fa hf
  apply wpList_nil
  (try simp only [Exit.then, Exit.inBlock, ↓reduceIte, Nat.reduceEqDiff])
  refine hK16 _ _ ?_
  refine wp_cond_false ((hf.ev rfl).trans (congrArg Value.bool (show (decide ((0 : Int) = (3 : Int))) = false from rfl))) ?_
  refine wp_skip ?_
  (try simp only [Exit.then, Exit.inBlock, ↓reduceIte, Nat.reduceEqDiff])
  refine hK14 _ _ ?_
  refine wp_seq_k (fun K17 hK17 => ?_)
  refine wp_region_lit ?_
  refine sqv hf (r_assign rfl) rfl rfl rfl ?_; clear hf fa; intro fa hf
  apply wpList_nil
  (try simp only [Exit.then, Exit.inBlock, ↓reduceIte, Nat.reduceEqDiff])
  refine hK17 _ _ ?_
  refine wp_ret ?_
  (try simp only [Exit.then, Exit.inBlock])
  refine ret1 hf rfl rfl ?_
  exact ⟨rfl, hb⟩

set_option maxHeartbeats 1000000 in
set_option maxRecDepth 100000 in
theorem name_any (s : ByteArray) (w : World) (hs : s.size ≤ 1000) : Calls Try.prog 142 #[(.string s)] w fun e w' => ∃ v, e = .returned v ∧ Row 1 (vInt .u8) 5 w.heap.size w' v (nameL s) ∧ Below w.heap.size w w' := by
  have hu1 := uL_len s.size (by omega)
  refine sx_enter (L := [(0, (.string s))]) Try.func142 rfl rfl rfl rfl (fun fa hf => ?_)
  have hb : Below w.heap.size w w := Below.refl _ _
  refine wp_seq_k (fun K1 hK1 => ?_)
  refine wp_region_lit ?_
  refine sqv hf (r_assign rfl) rfl rfl rfl ?_; clear hf fa; intro fa hf
  apply wpList_nil
  (try simp only [Exit.then, Exit.inBlock, ↓reduceIte, Nat.reduceEqDiff])
  refine hK1 _ _ ?_
  refine wp_seq_k (fun K2 hK2 => ?_)
  refine wp_region_lit ?_
  refine sqv hf (r_move rfl) rfl rfl rfl ?_; clear hf fa; intro fa hf
  refine sqv hf (r_lens rfl Try.underlying9) rfl rfl rfl ?_; clear hf fa; intro fa hf
  refine sqv hf (r_conv (C := ((s.size : Nat) : Int)) rfl Try.underlying3 Try.underlying55 (by rw [IntKind.wrap_u64]; omega)) rfl rfl rfl ?_; clear hf fa; intro fa hf
  refine sqdt hf (d_callX (vs := [(.int .u64 ((s.size : Nat) : Int))]) rfl Try.func110 (by kernel_rfl) (by kernel_rfl) (uint_row s.size (by omega) _)) rfl rfl rfl ?_; clear hf fa; rintro fa v w1 ⟨hr1, he1⟩ hf; obtain ⟨ra1, rc1, rfl, hcrc1, hmrc1⟩ := Row.slice hr1
  replace hr1 := Row.rebase hr1 hb.size
  replace hb := hb.trans (Below.mono he1 hb.size)
  refine sqv hf (r_move rfl) rfl rfl rfl ?_; clear hf fa; intro fa hf
  refine sqdt hf (d_appendS (base := w.heap.size) (l := (uL s.size)) rfl rfl Try.underlying47 Try.underlying9 (by kernel_rfl) hr1 (by first | omega | (simp only [List.length_cons, List.length_nil, List.length_append, nums_len, List.length_replicate]; omega)) (by have := hb.size; omega)) rfl rfl rfl ?_; clear hf fa; rintro fa v w2 ⟨hr2, hg1⟩ hf; obtain ⟨ra2, rc2, rfl, hcrc2, hmrc2⟩ := Row.slice hr2
  replace hb := hb.trans (row_below hr1 hg1 hb.size (by have := hb.size; omega))
  refine sqv hf (r_assign rfl) rfl rfl rfl ?_; clear hf fa; intro fa hf
  apply wpList_nil
  (try simp only [Exit.then, Exit.inBlock, ↓reduceIte, Nat.reduceEqDiff])
  refine hK2 _ _ ?_
  refine wp_ret ?_
  (try simp only [Exit.then, Exit.inBlock])
  refine ret1 hf rfl rfl ?_
  exact ⟨_, rfl, hr2, hb⟩

set_option maxHeartbeats 1000000 in
set_option maxRecDepth 100000 in
theorem iput0_any (w : World) : Calls Try.prog 97 #[(.agg #[(.string ⟨#[101, 110, 118]⟩), (.string ⟨#[102]⟩), (.int .u8 (0 : Int)), (.int .u32 (5 : Int)), (.int .u32 (0 : Int)), (.int .u32 (0 : Int)), (.bool false), (.int .u8 (0 : Int)), (.bool false)])] w fun e w' => ∃ v, e = .returned v ∧ ∃ a1 c1, v = (.tuple #[.slice a1 ([3, 101, 110, 118, 1, 102, 0, 5] : List Int).length c1, .int .i64 0]) ∧ Row 1 (vInt .u8) 5 w.heap.size w' (.slice a1 ([3, 101, 110, 118, 1, 102, 0, 5] : List Int).length c1) [3, 101, 110, 118, 1, 102, 0, 5] ∧ Below w.heap.size w w' := by
  have hn1 : (nameL ⟨#[101, 110, 118]⟩).length = 4 := (by decide +kernel); have hn2 : (nameL ⟨#[102]⟩).length = 2 := (by decide +kernel); have hu5 : (uL (5 : Int).toNat).length = 1 := (by decide +kernel)
  refine sx_enter (L := [(0, (.agg #[(.string ⟨#[101, 110, 118]⟩), (.string ⟨#[102]⟩), (.int .u8 (0 : Int)), (.int .u32 (5 : Int)), (.int .u32 (0 : Int)), (.int .u32 (0 : Int)), (.bool false), (.int .u8 (0 : Int)), (.bool false)]))]) Try.func97 rfl rfl rfl rfl (fun fa hf => ?_)
  have hb : Below w.heap.size w w := Below.refl _ _
  refine wp_seq_k (fun K1 hK1 => ?_)
  refine wp_region_lit ?_
  refine sqdt hf (d_box (cs := #[(.string ⟨#[101, 110, 118]⟩), (.string ⟨#[102]⟩), (.int .u8 (0 : Int)), (.int .u32 (5 : Int)), (.int .u32 (0 : Int)), (.int .u32 (0 : Int)), (.bool false), (.int .u8 (0 : Int)), (.bool false)]) rfl rfl) rfl rfl rfl ?_; clear hf fa; rintro fa _ w1 ⟨b1, rfl, hle1, hk1, he1⟩ hf
  have hBb1 : w.heap.size ≤ b1 := Nat.le_trans hb.size hle1
  replace hb := hb.trans (Below.mono he1 hb.size)
  refine sqv hf (r_assign rfl) rfl rfl rfl ?_; clear hf fa; intro fa hf
  refine sqv hf (r_assign rfl) rfl rfl rfl ?_; clear hf fa; intro fa hf
  apply wpList_nil
  (try simp only [Exit.then, Exit.inBlock, ↓reduceIte, Nat.reduceEqDiff])
  refine hK1 _ _ ?_
  refine wp_seq_k (fun K2 hK2 => ?_)
  refine wp_seq_k (fun K3 hK3 => ?_)
  refine wp_region_lit ?_
  refine sqv hf (r_loadA (cs := [(.string ⟨#[101, 110, 118]⟩), (.string ⟨#[102]⟩), (.int .u8 (0 : Int)), (.int .u32 (5 : Int)), (.int .u32 (0 : Int)), (.int .u32 (0 : Int)), (.bool false), (.int .u8 (0 : Int)), (.bool false)]) rfl Try.underlying81 rfl (by kernel_rfl) (cellsAt_blk hk1)) rfl rfl rfl ?_; clear hf fa; intro fa hf
  refine sqdt hf (d_callB (vs := [(.agg #[(.string ⟨#[101, 110, 118]⟩), (.string ⟨#[102]⟩), (.int .u8 (0 : Int)), (.int .u32 (5 : Int)), (.int .u32 (0 : Int)), (.int .u32 (0 : Int)), (.bool false), (.int .u8 (0 : Int)), (.bool false)])]) rfl Try.func98 (by kernel_rfl) (by kernel_rfl) (iright0 _)) rfl rfl rfl ?_; clear hf fa; rintro fa _ w2 ⟨rfl, he2⟩ hf
  replace hk1 := blk_ext hk1 he2
  replace hb := hb.trans (Below.mono he2 hb.size)
  refine sqv hf (r_assign rfl) rfl rfl rfl ?_; clear hf fa; intro fa hf
  apply wpList_nil
  (try simp only [Exit.then, Exit.inBlock, ↓reduceIte, Nat.reduceEqDiff])
  refine hK3 _ _ ?_
  refine wp_seq_k (fun K4 hK4 => ?_)
  refine wp_region_lit ?_
  refine sqv hf (r_move rfl) rfl rfl rfl ?_; clear hf fa; intro fa hf
  refine sqv hf (r_ne rfl rfl) rfl rfl rfl ?_; clear hf fa; intro fa hf
  apply wpList_nil
  (try simp only [Exit.then, Exit.inBlock, ↓reduceIte, Nat.reduceEqDiff])
  refine hK4 _ _ ?_
  refine wp_cond_false ((hf.ev rfl).trans (congrArg Value.bool (show (decide ((0 : Int) ≠ (0 : Int))) = false from rfl))) ?_
  refine wp_skip ?_
  (try simp only [Exit.then, Exit.inBlock, ↓reduceIte, Nat.reduceEqDiff])
  refine hK2 _ _ ?_
  refine wp_seq_k (fun K5 hK5 => ?_)
  refine wp_region_vnT 10 (fun _ wq => Below w2.heap.size w2 wq)
    (fun V S => [(fun x _ => x = (.pointer (some ⟨b1, 0, none⟩))), (fun x _ => x = (.string ⟨#[101, 110, 118]⟩)), (fun x wq => ∃ b, (∃ c, x = .slice (some ⟨b, 0, none⟩) (((nameL ⟨#[101, 110, 118]⟩)).length) c) ∧ w2.heap.size ≤ b ∧ (¬ S 6 → Row 1 (vInt .u8) 5 w2.heap.size wq x (nameL ⟨#[101, 110, 118]⟩))), (fun x _ => x = (.pointer (some ⟨b1, 1, none⟩))), (fun x _ => x = (.string ⟨#[102]⟩)), (fun x wq => ∃ b, (∃ c, x = .slice (some ⟨b, 0, none⟩) (((nameL ⟨#[102]⟩)).length) c) ∧ w2.heap.size ≤ b ∧ (¬ S 6 → Row 1 (vInt .u8) 5 w2.heap.size wq x (nameL ⟨#[102]⟩))), (fun x wq => ∃ b, (∃ c, x = .slice (some ⟨b, 0, none⟩) ((nameL ⟨#[101, 110, 118]⟩) ++ (nameL ⟨#[102]⟩)).length c) ∧ w2.heap.size ≤ b ∧ Row 1 (vInt .u8) 5 w2.heap.size wq x ((nameL ⟨#[101, 110, 118]⟩) ++ (nameL ⟨#[102]⟩))), (fun x _ => x = (.pointer (some ⟨b1, 2, none⟩))), (fun x _ => x = (.int .u8 (0 : Int))), (fun x wq => ∃ b, x = .slice (some ⟨b, 0, none⟩) 1 1 ∧ w2.heap.size ≤ b ∧ wq.heap[b]? = some (.cells #[(.int .u8 (0 : Int))] 5 (0, 0)))])
    [2, 5, 9]
    [[], [0], [1], [], [3], [2, 4], [2, 5], [], [7], [8], [], []]
    hf (by kernel_rfl) (by kernel_rfl) (by kernel_rfl) (fun _ _ => rfl) (fun _ _ => (Below.refl _ _).drew) (fun _ _ _ _ _ _ => rfl) ?_ ?_
  · skip
    intro V
    have hKP : ∀ (i : Nat) (S : Nat → Prop) (w : World), (∀ q ∈ ([6] : List Nat), q ≠ i) → ∀ j v w', (((fun (S : Nat → Prop) => ([(fun x _ => x = (.pointer (some ⟨b1, 0, none⟩))), (fun x _ => x = (.string ⟨#[101, 110, 118]⟩)), (fun x wq => ∃ b, (∃ c, x = .slice (some ⟨b, 0, none⟩) (((nameL ⟨#[101, 110, 118]⟩)).length) c) ∧ w2.heap.size ≤ b ∧ (¬ S 6 → Row 1 (vInt .u8) 5 w2.heap.size wq x (nameL ⟨#[101, 110, 118]⟩))), (fun x _ => x = (.pointer (some ⟨b1, 1, none⟩))), (fun x _ => x = (.string ⟨#[102]⟩)), (fun x wq => ∃ b, (∃ c, x = .slice (some ⟨b, 0, none⟩) (((nameL ⟨#[102]⟩)).length) c) ∧ w2.heap.size ≤ b ∧ (¬ S 6 → Row 1 (vInt .u8) 5 w2.heap.size wq x (nameL ⟨#[102]⟩))), (fun x wq => ∃ b, (∃ c, x = .slice (some ⟨b, 0, none⟩) ((nameL ⟨#[101, 110, 118]⟩) ++ (nameL ⟨#[102]⟩)).length c) ∧ w2.heap.size ≤ b ∧ Row 1 (vInt .u8) 5 w2.heap.size wq x ((nameL ⟨#[101, 110, 118]⟩) ++ (nameL ⟨#[102]⟩))), (fun x _ => x = (.pointer (some ⟨b1, 2, none⟩))), (fun x _ => x = (.int .u8 (0 : Int))), (fun x wq => ∃ b, x = .slice (some ⟨b, 0, none⟩) 1 1 ∧ w2.heap.size ≤ b ∧ wq.heap[b]? = some (.cells #[(.int .u8 (0 : Int))] 5 (0, 0)))] : List (Value → World → Prop))) S).getD j (fun _ _ => True)) v w → Below w.heap.size w w' → (((fun (S : Nat → Prop) => ([(fun x _ => x = (.pointer (some ⟨b1, 0, none⟩))), (fun x _ => x = (.string ⟨#[101, 110, 118]⟩)), (fun x wq => ∃ b, (∃ c, x = .slice (some ⟨b, 0, none⟩) (((nameL ⟨#[101, 110, 118]⟩)).length) c) ∧ w2.heap.size ≤ b ∧ (¬ S 6 → Row 1 (vInt .u8) 5 w2.heap.size wq x (nameL ⟨#[101, 110, 118]⟩))), (fun x _ => x = (.pointer (some ⟨b1, 1, none⟩))), (fun x _ => x = (.string ⟨#[102]⟩)), (fun x wq => ∃ b, (∃ c, x = .slice (some ⟨b, 0, none⟩) (((nameL ⟨#[102]⟩)).length) c) ∧ w2.heap.size ≤ b ∧ (¬ S 6 → Row 1 (vInt .u8) 5 w2.heap.size wq x (nameL ⟨#[102]⟩))), (fun x wq => ∃ b, (∃ c, x = .slice (some ⟨b, 0, none⟩) ((nameL ⟨#[101, 110, 118]⟩) ++ (nameL ⟨#[102]⟩)).length c) ∧ w2.heap.size ≤ b ∧ Row 1 (vInt .u8) 5 w2.heap.size wq x ((nameL ⟨#[101, 110, 118]⟩) ++ (nameL ⟨#[102]⟩))), (fun x _ => x = (.pointer (some ⟨b1, 2, none⟩))), (fun x _ => x = (.int .u8 (0 : Int))), (fun x wq => ∃ b, x = .slice (some ⟨b, 0, none⟩) 1 1 ∧ w2.heap.size ≤ b ∧ wq.heap[b]? = some (.cells #[(.int .u8 (0 : Int))] 5 (0, 0)))] : List (Value → World → Prop))) (ad i S)).getD j (fun _ _ => True)) v w' := by
      intro i S w hi j v w' h hB
      match j with
      | 0 =>
        exact h
      | 1 =>
        exact h
      | 2 =>
        obtain ⟨b, e1, e2, e3⟩ := h
        exact ⟨b, e1, e2, fun hn => Row.ext (e3 (fun hs => hn (.inr hs))) hB⟩
      | 3 =>
        exact h
      | 4 =>
        exact h
      | 5 =>
        obtain ⟨b, e1, e2, e3⟩ := h
        exact ⟨b, e1, e2, fun hn => Row.ext (e3 (fun hs => hn (.inr hs))) hB⟩
      | 6 =>
        obtain ⟨b, e1, e2, e3⟩ := h
        exact ⟨b, e1, e2, Row.ext e3 hB⟩
      | 7 =>
        exact h
      | 8 =>
        exact h
      | 9 =>
        obtain ⟨b, e1, e2, e3⟩ := h
        exact ⟨b, e1, e2, blk_ext e3 hB⟩
      | _ + 10 => trivial
    refine ⟨fun S wu0 hC hS hd hi => ?_, ?_⟩
    · skip
      replace hC : Below w2.heap.size w2 wu0 := hC
      refine uv_plain (C := fun _ wq => Below w2.heap.size w2 wq) (hKP 0 S wu0 (by decide)) (fun _ h1 h2 => Below.trans h1 (Below.mono h2 (Below.size h1))) hC hS ?_
      replace hb := hb.trans (hC.mono hb.size)
      replace hk1 := blk_ext hk1 hC
      exact Runs.does (r_fa rfl Try.underlying81 (f := 0) (q := 0) rfl (by kernel_rfl) rfl) ⟨Below.refl _ _, rfl, nofr rfl⟩
    refine ⟨fun S wu1 hC hS hd hi => ?_, ?_⟩
    · skip
      replace hC : Below w2.heap.size w2 wu1 := hC
      refine uv_plain (C := fun _ wq => Below w2.heap.size w2 wq) (hKP 1 S wu1 (by decide)) (fun _ h1 h2 => Below.trans h1 (Below.mono h2 (Below.size h1))) hC hS ?_
      have h0 := hS.post 0 (hd 0 (by decide))
      replace h0 : V 0 = (.pointer (some ⟨b1, 0, none⟩)) := h0
      replace hb := hb.trans (hC.mono hb.size)
      replace hk1 := blk_ext hk1 hC
      exact Runs.does (r_load (v := (.string ⟨#[101, 110, 118]⟩)) (congrArg some h0) Try.underlying9 rfl (cell_blk hk1 rfl)) ⟨Below.refl _ _, rfl, nofr rfl⟩
    refine ⟨fun S wu2 hC hS hd hi => ?_, ?_⟩
    · skip
      replace hC : Below w2.heap.size w2 wu2 := hC
      refine uv_plain (C := fun _ wq => Below w2.heap.size w2 wq) (hKP 2 S wu2 (by decide)) (fun _ h1 h2 => Below.trans h1 (Below.mono h2 (Below.size h1))) hC hS ?_
      have h1 := hS.post 1 (hd 1 (by decide))
      replace h1 : V 1 = (.string ⟨#[101, 110, 118]⟩) := h1
      replace hb := hb.trans (hC.mono hb.size)
      replace hk1 := blk_ext hk1 hC
      refine Does.mono (d_callX (vs := [(.string ⟨#[101, 110, 118]⟩)]) (show [some (V 1)] = [some (.string ⟨#[101, 110, 118]⟩)] from by rw [h1]) Try.func142 (by kernel_rfl) (by kernel_rfl) (name_any ⟨#[101, 110, 118]⟩ _ (by decide))) ?_
      rintro _ w' ⟨hF2, hF3⟩
      obtain ⟨ra, rc, rfl, _, _⟩ := Row.slice hF2
      obtain ⟨b, rfl, hF, hF4⟩ := Row.some hF2 (by first | omega | (simp only [Sl.list_length, List.length_set, List.length_take, List.length_append, List.length_replicate, List.length_cons, List.length_nil, List.length_map, nums_len]; omega))
      exact ⟨hF3, ⟨b, ⟨rc, rfl⟩, Nat.le_trans hC.size hF, fun _ => hF2.rebase hC.size⟩, isfr rfl hF (Row.lt hF2 _ rfl).2⟩
    refine ⟨fun S wu3 hC hS hd hi => ?_, ?_⟩
    · skip
      replace hC : Below w2.heap.size w2 wu3 := hC
      refine uv_plain (C := fun _ wq => Below w2.heap.size w2 wq) (hKP 3 S wu3 (by decide)) (fun _ h1 h2 => Below.trans h1 (Below.mono h2 (Below.size h1))) hC hS ?_
      replace hb := hb.trans (hC.mono hb.size)
      replace hk1 := blk_ext hk1 hC
      exact Runs.does (r_fa rfl Try.underlying81 (f := 1) (q := 1) rfl (by kernel_rfl) rfl) ⟨Below.refl _ _, rfl, nofr rfl⟩
    refine ⟨fun S wu4 hC hS hd hi => ?_, ?_⟩
    · skip
      replace hC : Below w2.heap.size w2 wu4 := hC
      refine uv_plain (C := fun _ wq => Below w2.heap.size w2 wq) (hKP 4 S wu4 (by decide)) (fun _ h1 h2 => Below.trans h1 (Below.mono h2 (Below.size h1))) hC hS ?_
      have h3 := hS.post 3 (hd 3 (by decide))
      replace h3 : V 3 = (.pointer (some ⟨b1, 1, none⟩)) := h3
      replace hb := hb.trans (hC.mono hb.size)
      replace hk1 := blk_ext hk1 hC
      exact Runs.does (r_load (v := (.string ⟨#[102]⟩)) (congrArg some h3) Try.underlying9 rfl (cell_blk hk1 rfl)) ⟨Below.refl _ _, rfl, nofr rfl⟩
    refine ⟨fun S wu5 hC hS hd hi => ?_, ?_⟩
    · skip
      replace hC : Below w2.heap.size w2 wu5 := hC
      refine uv_plain (C := fun _ wq => Below w2.heap.size w2 wq) (hKP 5 S wu5 (by decide)) (fun _ h1 h2 => Below.trans h1 (Below.mono h2 (Below.size h1))) hC hS ?_
      have h2 := hS.post 2 (hd 2 (by decide))
      obtain ⟨mb1, ⟨mc1, h2⟩, hle2, hr1⟩ := h2
      replace hr1 := hr1 (fun h => hi (hS.down 6 h 5 (by decide)))
      rw [h2] at hr1
      have h4 := hS.post 4 (hd 4 (by decide))
      replace h4 : V 4 = (.string ⟨#[102]⟩) := h4
      replace hb := hb.trans (hC.mono hb.size)
      replace hk1 := blk_ext hk1 hC
      refine Does.mono (d_callX (vs := [(.string ⟨#[102]⟩)]) (show [some (V 4)] = [some (.string ⟨#[102]⟩)] from by rw [h4]) Try.func142 (by kernel_rfl) (by kernel_rfl) (name_any ⟨#[102]⟩ _ (by decide))) ?_
      rintro _ w' ⟨hF2, hF3⟩
      obtain ⟨ra, rc, rfl, _, _⟩ := Row.slice hF2
      obtain ⟨b, rfl, hF, hF4⟩ := Row.some hF2 (by first | omega | (simp only [Sl.list_length, List.length_set, List.length_take, List.length_append, List.length_replicate, List.length_cons, List.length_nil, List.length_map, nums_len]; omega))
      exact ⟨hF3, ⟨b, ⟨rc, rfl⟩, Nat.le_trans hC.size hF, fun _ => hF2.rebase hC.size⟩, isfr rfl hF (Row.lt hF2 _ rfl).2⟩
    refine ⟨fun S wu6 hC hS hd hi => ?_, ?_⟩
    · skip
      replace hC : Below w2.heap.size w2 wu6 := hC
      have h2 := hS.post 2 (hd 2 (by decide))
      obtain ⟨mb1, ⟨mc1, h2⟩, hle2, hr1⟩ := h2
      replace hr1 := hr1 hi
      rw [h2] at hr1
      have h5 := hS.post 5 (hd 5 (by decide))
      obtain ⟨mb2, ⟨mc2, h5⟩, hle3, hr2⟩ := h5
      replace hr2 := hr2 hi
      rw [h5] at hr2
      replace hb := hb.trans (hC.mono hb.size)
      replace hk1 := blk_ext hk1 hC
      refine Does.mono (d_append (V := (vInt .u8)) (k := 1) (e := 5) (bytes := 1) (z := (.int .u8 (0 : Int))) (news := (nameL ⟨#[102]⟩)) (base := w2.heap.size) (by intros; rfl) (by intro x u hu; simp only [vInt, List.mem_singleton] at hu; subst hu; rfl) (congrArg some h2) (congrArg some h5) Try.underlying47 (by kernel_rfl) rfl rfl rfl hr1 (Row.rd (by intros; rfl) hr2) rfl (fun h => by cases h) (by first | omega | (simp only [List.length_cons, List.length_nil, List.length_append, nums_len, List.length_replicate]; omega)) hC.size) ?_
      rintro v' wz ⟨hY, hgY⟩
      obtain ⟨ra, rc, rfl, _, _⟩ := Row.slice hY
      obtain ⟨br, rfl, hbr, _⟩ := Row.some hY (by first | omega | (simp only [Sl.list_length, List.length_set, List.length_take, List.length_append, List.length_replicate, List.length_cons, List.length_nil, List.length_map, nums_len]; omega))
      refine ⟨⟨hC.trans (row_below hr1 hgY hC.size (Nat.le_refl _)), fun j hj => ?_, hgY.size⟩, ⟨br, ⟨rc, rfl⟩, hbr, hY⟩, nofr rfl⟩
      match j with
      | 0 =>
        exact hS.post 0 hj
      | 1 =>
        exact hS.post 1 hj
      | 2 =>
        exact ⟨mb1, ⟨mc1, h2⟩, hle2, fun hn => absurd (.inl rfl) hn⟩
      | 3 =>
        exact hS.post 3 hj
      | 4 =>
        exact hS.post 4 hj
      | 5 =>
        exact ⟨mb2, ⟨mc2, h5⟩, hle3, fun hn => absurd (.inl rfl) hn⟩
      | 6 =>
        exact absurd hj hi
      | 7 =>
        exact hS.post 7 hj
      | 8 =>
        exact hS.post 8 hj
      | 9 =>
        obtain ⟨c, e1, e2, e3⟩ := hS.post 9 hj
        have hne : c ≠ mb1 := fun e => hS.ne 9 2 rfl rfl (by decide) hj (hd 2 (by decide)) (by rw [e1, h2, e] <;> rfl)
        exact ⟨c, e1, e2, blk_grown e3 hgY hne⟩
      | _ + 10 => trivial
    refine ⟨fun S wu7 hC hS hd hi => ?_, ?_⟩
    · skip
      replace hC : Below w2.heap.size w2 wu7 := hC
      refine uv_plain (C := fun _ wq => Below w2.heap.size w2 wq) (hKP 7 S wu7 (by decide)) (fun _ h1 h2 => Below.trans h1 (Below.mono h2 (Below.size h1))) hC hS ?_
      replace hb := hb.trans (hC.mono hb.size)
      replace hk1 := blk_ext hk1 hC
      exact Runs.does (r_fa rfl Try.underlying81 (f := 2) (q := 2) rfl (by kernel_rfl) rfl) ⟨Below.refl _ _, rfl, nofr rfl⟩
    refine ⟨fun S wu8 hC hS hd hi => ?_, ?_⟩
    · skip
      replace hC : Below w2.heap.size w2 wu8 := hC
      refine uv_plain (C := fun _ wq => Below w2.heap.size w2 wq) (hKP 8 S wu8 (by decide)) (fun _ h1 h2 => Below.trans h1 (Below.mono h2 (Below.size h1))) hC hS ?_
      have h7 := hS.post 7 (hd 7 (by decide))
      replace h7 : V 7 = (.pointer (some ⟨b1, 2, none⟩)) := h7
      replace hb := hb.trans (hC.mono hb.size)
      replace hk1 := blk_ext hk1 hC
      exact Runs.does (r_load (v := (.int .u8 (0 : Int))) (congrArg some h7) Try.underlying5 rfl (cell_blk hk1 rfl)) ⟨Below.refl _ _, rfl, nofr rfl⟩
    refine ⟨fun S wu9 hC hS hd hi => ?_, ?_⟩
    · skip
      replace hC : Below w2.heap.size w2 wu9 := hC
      refine uv_plain (C := fun _ wq => Below w2.heap.size w2 wq) (hKP 9 S wu9 (by decide)) (fun _ h1 h2 => Below.trans h1 (Below.mono h2 (Below.size h1))) hC hS ?_
      have h8 := hS.post 8 (hd 8 (by decide))
      replace h8 : V 8 = (.int .u8 (0 : Int)) := h8
      replace hb := hb.trans (hC.mono hb.size)
      replace hk1 := blk_ext hk1 hC
      refine Does.mono (d_bslice (z := (.int .u8 (0 : Int))) (sz := 1) (vs := [(0, (.int .u8 (0 : Int)))]) (cs := #[(.int .u8 (0 : Int))]) (show [(0, some (V 8))] = [(0, some (.int .u8 (0 : Int)))] from by rw [h8]) Try.underlying47 (by kernel_rfl) rfl (by kernel_rfl)) ?_
      rintro _ w' ⟨b, rfl, hF⟩
      exact ⟨hF.2.2, ⟨b, rfl, Nat.le_trans hC.size hF.1, hF.2.1⟩, isfr rfl hF.1 (blk_lt hF.2.1)⟩
    trivial
  · skip
    clear hf fa; intro V S w3 fa hall he3 hp hnb hf
    have hv0 := postsHold_at hp 0 rfl
    replace hv0 : V 0 = (.pointer (some ⟨b1, 0, none⟩)) := hv0
    have hv1 := postsHold_at hp 1 rfl
    replace hv1 : V 1 = (.string ⟨#[101, 110, 118]⟩) := hv1
    have hv2 := postsHold_at hp 2 rfl
    obtain ⟨mb1, ⟨mc1, hv2⟩, hle2, hr1⟩ := hv2
    clear hr1
    have hBmb1 : w.heap.size ≤ mb1 := Nat.le_trans hb.size hle2
    have hv3 := postsHold_at hp 3 rfl
    replace hv3 : V 3 = (.pointer (some ⟨b1, 1, none⟩)) := hv3
    have hv4 := postsHold_at hp 4 rfl
    replace hv4 : V 4 = (.string ⟨#[102]⟩) := hv4
    have hv5 := postsHold_at hp 5 rfl
    obtain ⟨mb2, ⟨mc2, hv5⟩, hle3, hr2⟩ := hv5
    clear hr2
    have hBmb2 : w.heap.size ≤ mb2 := Nat.le_trans hb.size hle3
    have hv6 := postsHold_at hp 6 rfl
    obtain ⟨mb3, ⟨mc3, hv6⟩, hle4, hr3⟩ := hv6
    rw [hv6] at hr3
    replace hr3 := Row.rebase hr3 hb.size
    have hcmc3 := Row.caps hr3
    have hBmb3 : w.heap.size ≤ mb3 := Nat.le_trans hb.size hle4
    have hv7 := postsHold_at hp 7 rfl
    replace hv7 : V 7 = (.pointer (some ⟨b1, 2, none⟩)) := hv7
    have hv8 := postsHold_at hp 8 rfl
    replace hv8 : V 8 = (.int .u8 (0 : Int)) := hv8
    have hv9 := postsHold_at hp 9 rfl
    obtain ⟨b2, hv9, hle5, hk2⟩ := hv9
    have hBb2 : w.heap.size ≤ b2 := Nat.le_trans hb.size hle5
    simp only [List.take_succ_cons, List.take_zero, insAll, ins, hv0, hv1, hv2, hv3, hv4, hv5, hv6, hv7, hv8, hv9] at hf
    have : mb1 ≠ mb2 := two_blk (i := 2) (j := 5) hnb rfl rfl rfl rfl rfl (by rw [hv2]; rfl) (by rw [hv5]; rfl)
    have : mb1 ≠ b2 := two_blk (i := 2) (j := 9) hnb rfl rfl rfl rfl rfl (by rw [hv2]; rfl) (by rw [hv9]; rfl)
    have : mb2 ≠ b2 := two_blk (i := 5) (j := 9) hnb rfl rfl rfl rfl rfl (by rw [hv5]; rfl) (by rw [hv9]; rfl)
    have : b1 < mb1 := Nat.lt_of_lt_of_le (blk_lt hk1) hle2
    have : b1 < mb2 := Nat.lt_of_lt_of_le (blk_lt hk1) hle3
    have : b1 < b2 := Nat.lt_of_lt_of_le (blk_lt hk1) hle5
    clear hp hnb hall hv0 hv1 hv2 hv3 hv4 hv5 hv6 hv7 hv8 hv9
    replace hk1 := blk_ext hk1 he3
    replace hb := hb.trans (Below.mono he3 hb.size)
    simp only [List.drop_succ_cons, List.drop_zero]
    have hs1 := Row.rd (by intros; rfl) (Row.of_new (k := 1) (V := (vInt .u8)) (l := [(0 : Int)]) hk2 (Nat.le_refl _) rfl rfl (Nat.le_of_ble_eq_true rfl))
    refine sqdt hf (d_append (V := (vInt .u8)) (k := 1) (e := 5) (bytes := 1) (z := (.int .u8 (0 : Int))) (news := [(0 : Int)]) (base := w.heap.size) (by intros; rfl) (by intro x u hu; simp only [vInt, List.mem_singleton] at hu; subst hu; rfl) rfl rfl Try.underlying47 (by kernel_rfl) rfl rfl rfl hr3 hs1 rfl (fun h => by cases h) (by first | omega | (simp only [List.length_cons, List.length_nil, List.length_append, nums_len, List.length_replicate]; omega)) (by have := hb.size; omega)) rfl rfl rfl ?_; clear hf fa; rintro fa v w4 ⟨hr4, hg1⟩ hf; obtain ⟨ra1, rc1, rfl, hcrc1, hmrc1⟩ := Row.slice hr4
    replace hk1 := blk_row' hk1 hg1 (Row.ne_type hr3 hk1 rfl)
    replace hb := hb.trans (row_below hr3 hg1 hb.size (by have := hb.size; omega))
    refine sqv hf (r_assign rfl) rfl rfl rfl ?_; clear hf fa; intro fa hf
    apply wpList_nil
    (try simp only [Exit.then, Exit.inBlock, ↓reduceIte, Nat.reduceEqDiff])
    refine hK5 _ _ ?_
    refine wp_seq_k (fun K6 hK6 => ?_)
    refine wp_seq_k (fun K7 hK7 => ?_)
    refine wp_region_lit ?_
    refine sqv hf (r_fa rfl Try.underlying81 (f := 2) (q := 2) rfl (by kernel_rfl) rfl) rfl rfl rfl ?_; clear hf fa; intro fa hf
    refine sqv hf (r_load (v := (.int .u8 (0 : Int))) rfl Try.underlying5 rfl (cell_blk hk1 rfl)) rfl rfl rfl ?_; clear hf fa; intro fa hf
    apply wpList_nil
    (try simp only [Exit.then, Exit.inBlock, ↓reduceIte, Nat.reduceEqDiff])
    refine hK7 _ _ ?_
    refine wp_block ?_
    refine wp_seq_k (fun K8 hK8 => ?_)
    refine wp_region_lit ?_
    refine sqv hf (r_eq rfl rfl) rfl rfl rfl ?_; clear hf fa; intro fa hf
    refine sqv hf (r_assign rfl) rfl rfl rfl ?_; clear hf fa; intro fa hf
    apply wpList_nil
    (try simp only [Exit.then, Exit.inBlock, ↓reduceIte, Nat.reduceEqDiff])
    refine hK8 _ _ ?_
    refine wp_cond_true ((hf.ev rfl).trans (congrArg Value.bool (show (decide ((0 : Int) = (0 : Int))) = true from rfl))) ?_
    refine wp_region_lit ?_
    refine sqv hf (r_move rfl) rfl rfl rfl ?_; clear hf fa; intro fa hf
    refine sqv hf (r_fa rfl Try.underlying81 (f := 3) (q := 3) rfl (by kernel_rfl) rfl) rfl rfl rfl ?_; clear hf fa; intro fa hf
    refine sqv hf (r_load (v := (.int .u32 (5 : Int))) rfl Try.underlying24 rfl (cell_blk hk1 rfl)) rfl rfl rfl ?_; clear hf fa; intro fa hf
    refine sqv hf (r_conv (C := (5 : Int)) rfl Try.underlying24 Try.underlying55 (by rw [IntKind.wrap_u64]; omega)) rfl rfl rfl ?_; clear hf fa; intro fa hf
    refine sqdt hf (d_callX (vs := [(.int .u64 (5 : Int))]) rfl Try.func110 (by kernel_rfl) (by kernel_rfl) (uint_rowI (5 : Int) (by omega) (by omega) _)) rfl rfl rfl ?_; clear hf fa; rintro fa v w5 ⟨hr5, he4⟩ hf; obtain ⟨ra2, rc2, rfl, hcrc2, hmrc2⟩ := Row.slice hr5
    replace hr5 := Row.rebase hr5 hb.size
    replace hk1 := blk_ext hk1 he4
    replace hr4 := Row.ext hr4 he4
    replace hb := hb.trans (Below.mono he4 hb.size)
    refine sqdt hf (d_append (V := (vInt .u8)) (k := 1) (e := 5) (bytes := 1) (z := (.int .u8 (0 : Int))) (news := (uL (5 : Int).toNat)) (base := w.heap.size) (by intros; rfl) (by intro x u hu; simp only [vInt, List.mem_singleton] at hu; subst hu; rfl) rfl rfl Try.underlying47 (by kernel_rfl) rfl rfl rfl hr4 (Row.rd (by intros; rfl) hr5) rfl (fun h => Row.nocap hr5 h) (by first | omega | (simp only [List.length_cons, List.length_nil, List.length_append, nums_len, List.length_replicate]; omega)) (by have := hb.size; omega)) rfl rfl rfl ?_; clear hf fa; rintro fa v w6 ⟨hr6, hg2⟩ hf; obtain ⟨ra3, rc3, rfl, hcrc3, hmrc3⟩ := Row.slice hr6
    replace hk1 := blk_row' hk1 hg2 (Row.ne_type hr4 hk1 rfl)
    replace hb := hb.trans (row_below hr4 hg2 hb.size (by have := hb.size; omega))
    refine sqv hf (r_assign rfl) rfl rfl rfl ?_; clear hf fa; intro fa hf
    apply wpList_nil
    (try simp only [Exit.then, Exit.inBlock, ↓reduceIte, Nat.reduceEqDiff])
    refine hK6 _ _ ?_
    refine wp_seq_k (fun K9 hK9 => ?_)
    refine wp_region_lit ?_
    refine sqv hf (r_move rfl) rfl rfl rfl ?_; clear hf fa; intro fa hf
    refine sqv hf (r_assign rfl) rfl rfl rfl ?_; clear hf fa; intro fa hf
    refine sqv hf (r_assign rfl) rfl rfl rfl ?_; clear hf fa; intro fa hf
    apply wpList_nil
    (try simp only [Exit.then, Exit.inBlock, ↓reduceIte, Nat.reduceEqDiff])
    refine hK9 _ _ ?_
    refine wp_ret ?_
    (try simp only [Exit.then, Exit.inBlock])
    refine ret2 hf rfl rfl rfl ?_
    have hE : ((((nameL ⟨#[101, 110, 118]⟩) ++ (nameL ⟨#[102]⟩)) ++ [(0 : Int)]) ++ (uL (5 : Int).toNat)) = [3, 101, 110, 118, 1, 102, 0, 5] := by decide +kernel
    exact ⟨_, rfl, _, _, (by rw [hE]), rowToI hr6 hE, hb⟩

set_option maxHeartbeats 1000000 in
set_option maxRecDepth 100000 in
theorem awake10_any (w : World) : Calls Try.prog 53 #[] w fun e w' => e = .returned (.bool true) ∧ Below w.heap.size w w' := by
  refine sx_enter (L := []) Try.func53 rfl rfl rfl rfl (fun fa hf => ?_)
  have hb : Below w.heap.size w w := Below.refl _ _
  refine wp_seq_k (fun K1 hK1 => ?_)
  refine wp_region_lit ?_
  refine sqv hf (r_assign rfl) rfl rfl rfl ?_; clear hf fa; intro fa hf
  apply wpList_nil
  (try simp only [Exit.then, Exit.inBlock, ↓reduceIte, Nat.reduceEqDiff])
  refine hK1 _ _ ?_
  refine wp_seq_k (fun K2 hK2 => ?_)
  refine wp_region_lit ?_
  refine sqv hf (r_build (vs := [(0, (.string ⟨#[101, 110, 118]⟩)), (1, (.string ⟨#[102]⟩)), (3, (.int .u32 (5 : Int)))]) (cs := #[(.string ⟨#[101, 110, 118]⟩), (.string ⟨#[102]⟩), (.int .u8 (0 : Int)), (.int .u32 (5 : Int)), (.int .u32 (0 : Int)), (.int .u32 (0 : Int)), (.bool false), (.int .u8 (0 : Int)), (.bool false)]) rfl (fun _ => by kernel_rfl)) rfl rfl rfl ?_; clear hf fa; intro fa hf
  refine sqdt hf (d_callX (vs := [(.agg #[(.string ⟨#[101, 110, 118]⟩), (.string ⟨#[102]⟩), (.int .u8 (0 : Int)), (.int .u32 (5 : Int)), (.int .u32 (0 : Int)), (.int .u32 (0 : Int)), (.bool false), (.int .u8 (0 : Int)), (.bool false)])]) rfl Try.func97 (by kernel_rfl) (by kernel_rfl) (iput0_any _)) rfl rfl rfl ?_; clear hf fa; rintro fa _ w1 ⟨ra1, rc1, rfl, hr1, he1⟩ hf
  replace hr1 := Row.rebase hr1 hb.size
  replace hb := hb.trans (Below.mono he1 hb.size)
  have hchr1 := Row.caps hr1
  refine sqv hf (r_move rfl) rfl rfl rfl ?_; clear hf fa; intro fa hf
  refine sqv hf (r_extract rfl (i := 0) rfl) rfl rfl rfl ?_; clear hf fa; intro fa hf
  refine sqv hf (r_extract rfl (i := 1) rfl) rfl rfl rfl ?_; clear hf fa; intro fa hf
  refine sqv hf (r_assign rfl) rfl rfl rfl ?_; clear hf fa; intro fa hf
  refine sqv hf (r_assign rfl) rfl rfl rfl ?_; clear hf fa; intro fa hf
  apply wpList_nil
  (try simp only [Exit.then, Exit.inBlock, ↓reduceIte, Nat.reduceEqDiff])
  refine hK2 _ _ ?_
  refine wp_seq_k (fun K3 hK3 => ?_)
  refine wp_region_lit ?_
  refine sqv hf (r_move rfl) rfl rfl rfl ?_; clear hf fa; intro fa hf
  refine sqv hf (Runs.veq (r_eq rfl rfl) (congrArg Value.bool (show _ = true from rfl))) rfl rfl rfl ?_; clear hf fa; intro fa hf
  refine sqv hf (r_move rfl) rfl rfl rfl ?_; clear hf fa; intro fa hf
  refine sqgd (act := true) (g := 2) (want := true) (ag := true) (c := true) hf (by rfl) (by rfl) rfl (fun _ =>  Runs.does (R := fun vq wq => vq = (.slice ra1 (([3, 101, 110, 118, 1, 102, 0, 5] : List Int).length) rc1) ∧ w1 = wq) (r_move rfl) ⟨rfl, rfl⟩) (fun h => by cases h) rfl ?_; clear hf fa; rintro fa _ _ ⟨rfl, rfl⟩ hf
  change Fr _ _ ((11, (.slice ra1 (([3, 101, 110, 118, 1, 102, 0, 5] : List Int).length) rc1)) :: _) at hf
  refine sqgd (act := true) (g := 2) (want := true) (ag := true) (c := true) hf (by rfl) (by rfl) rfl (fun _ =>  Runs.does (R := fun vq wq => vq = (.string (strOfNums [3, 101, 110, 118, 1, 102, 0, 5])) ∧ w1 = wq) (r_rowstr rfl Try.underlying47 Try.underlying5 Try.underlying9 hr1) ⟨rfl, rfl⟩) (fun h => by cases h) rfl ?_; clear hf fa; rintro fa _ _ ⟨rfl, rfl⟩ hf
  change Fr _ _ ((12, (.string (strOfNums [3, 101, 110, 118, 1, 102, 0, 5]))) :: _) at hf
  refine sqgd (act := true) (g := 2) (want := true) (ag := true) (c := true) hf (by rfl) (by rfl) rfl (fun _ =>  Runs.does (R := fun vq wq => vq = (.bool true) ∧ w1 = wq) (Runs.veq (r_seq rfl rfl) (congrArg Value.bool (show _ = true from rfl))) ⟨rfl, rfl⟩) (fun h => by cases h) rfl ?_; clear hf fa; rintro fa _ _ ⟨rfl, rfl⟩ hf
  change Fr _ _ ((13, (.bool true)) :: _) at hf
  refine sqv hf (r_pick (b := true) rfl rfl rfl rfl) rfl rfl rfl ?_; clear hf fa; intro fa hf
  refine sqv hf (r_assign rfl) rfl rfl rfl ?_; clear hf fa; intro fa hf
  apply wpList_nil
  (try simp only [Exit.then, Exit.inBlock, ↓reduceIte, Nat.reduceEqDiff])
  refine hK3 _ _ ?_
  refine wp_ret ?_
  (try simp only [Exit.then, Exit.inBlock])
  refine ret1 hf rfl rfl ?_
  exact ⟨congrArg (fun b => Ending.returned (.bool b)) (by first | rfl | decide +kernel), hb⟩
end Go.Proofs.Ytcmdajkkdognfaa
