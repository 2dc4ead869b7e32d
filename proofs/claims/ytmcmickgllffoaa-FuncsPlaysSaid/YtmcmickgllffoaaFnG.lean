/- What is proved here: the reference of chapter 29. -/
import Derived.Test.YtmcmickgllffoaaFnE
import Derived.Test.YtmcmickgllffoaaCvN
import Derived.Test.YtmcmickgllffoaaCvM
namespace Go.Proofs.Ytmcmickgllffoaa
open Go.RowKit
set_option linter.unusedVariables false
set_option linter.unusedSimpArgs false
abbrev MRf := (MFt × Int × Int × Int × Bool × Unit)
def zMRf : MRf := (zMFt, 0, 0, 0, false, ())
def vMRf : MRf → List Value := (fun d => vMFt d.1 ++ (fun d => (vInt .i64) d.1 ++ (fun d => (vInt .u64) d.1 ++ (fun d => (vInt .i64) d.1 ++ (fun d => vBool d.1 ++ (fun _ => []) d.2) d.2) d.2) d.2) d.2)
theorem vMRf_len (x : MRf) : (vMRf x).length = 6 := rfl
theorem oneMRf : ∀ x, ∀ u ∈ vMRf x, u.oneCell' = true := by
  intro x u hu
  have hu : u ∈ [(.string x.1.1), (.string x.1.2.1), (.int .i64 x.2.1), (.int .u64 x.2.2.1), (.int .i64 x.2.2.2.1), (.bool x.2.2.2.2.1)] := hu
  simp only [List.mem_cons, List.not_mem_nil, or_false] at hu
  rcases hu with rfl | rfl | rfl | rfl | rfl | rfl <;> rfl
def rlB (R : List MRf) (i : Int) : Bool := decide (0 ≤ i ∧ i < ((R.length : Nat) : Int)) && (R.getD i.toNat zMRf).2.2.2.2.1

set_option maxHeartbeats 1000000 in
set_option maxRecDepth 100000 in
theorem rlive_any (a : Option Addr) (R : List MRf) (c : Nat) (w : World) (hl : RdS 6 vMRf w a R) (hlc : R.length ≤ 1000) (hcc : R.length ≤ c ∧ c ≤ 9223372036854775807) (hcn : a = none → c = 0) (i : Int) : Calls Try.prog 68 #[(.slice a R.length c), (.int .i64 i)] w fun e w' => e = .returned (.bool (rlB R i)) ∧ Below w.heap.size w w' := by
  refine sx_enter (L := [(0, (.slice a R.length c)), (1, (.int .i64 i))]) Try.func68 rfl rfl rfl rfl (fun fa hf => ?_)
  have hb : Below w.heap.size w w := Below.refl _ _
  refine wp_seq_k (fun K1 hK1 => ?_)
  refine wp_region_lit ?_
  refine sqv hf (r_assign rfl) rfl rfl rfl ?_; clear hf fa; intro fa hf
  apply wpList_nil
  (try simp only [Exit.then, Exit.inBlock, ↓reduceIte, Nat.reduceEqDiff])
  refine hK1 _ _ ?_
  refine wp_seq_k (fun K2 hK2 => ?_)
  skip
  by_cases hsp1 : 0 ≤ i ∧ i < ((R.length : Nat) : Int)
  · have hsp1b : decide (0 ≤ i ∧ i < ((R.length : Nat) : Int)) = true := decide_eq_true hsp1
    obtain ⟨y, hy⟩ : ∃ x, R[i.toNat]? = some x := ⟨_, List.getElem?_eq_getElem (by have h := hsp1; omega)⟩
    skip
    refine wp_region_lit ?_
    refine sqv hf (r_move rfl) rfl rfl rfl ?_; clear hf fa; intro fa hf
    refine sqv hf (Runs.veq (r_ge rfl rfl) (congrArg Value.bool (show _ = true from (by have h := hsp1; simp; omega)))) rfl rfl rfl ?_; clear hf fa; intro fa hf
    refine sqv hf (r_move rfl) rfl rfl rfl ?_; clear hf fa; intro fa hf
    refine sqgd (act := true) (g := 2) (want := true) (ag := true) (c := true) hf (by rfl) (by rfl) rfl (fun _ =>  Runs.does (R := fun vq wq => vq = (.int .i64 i) ∧ w = wq) (r_move rfl) ⟨rfl, rfl⟩) (fun h => by cases h) rfl ?_; clear hf fa; rintro fa _ _ ⟨rfl, rfl⟩ hf
    change Fr _ _ ((8, (.int .i64 i)) :: _) at hf
    refine sqgd (act := true) (g := 2) (want := true) (ag := true) (c := true) hf (by rfl) (by rfl) rfl (fun _ =>  Runs.does (R := fun vq wq => vq = (.slice a R.length c) ∧ w = wq) (r_move rfl) ⟨rfl, rfl⟩) (fun h => by cases h) rfl ?_; clear hf fa; rintro fa _ _ ⟨rfl, rfl⟩ hf
    change Fr _ _ ((9, (.slice a R.length c)) :: _) at hf
    refine sqgd (act := true) (g := 2) (want := true) (ag := true) (c := true) hf (by rfl) (by rfl) rfl (fun _ =>  Runs.does (R := fun vq wq => vq = (.int .i64 ((R.length : Nat) : Int)) ∧ w = wq) (r_lensl rfl Try.underlying76) ⟨rfl, rfl⟩) (fun h => by cases h) rfl ?_; clear hf fa; rintro fa _ _ ⟨rfl, rfl⟩ hf
    change Fr _ _ ((10, (.int .i64 ((R.length : Nat) : Int))) :: _) at hf
    refine sqgd (act := true) (g := 2) (want := true) (ag := true) (c := true) hf (by rfl) (by rfl) rfl (fun _ =>  Runs.does (R := fun vq wq => vq = (.bool true) ∧ w = wq) (Runs.veq (r_lt rfl rfl) (congrArg Value.bool (show _ = true from (by have h := hsp1; simp; omega)))) ⟨rfl, rfl⟩) (fun h => by cases h) rfl ?_; clear hf fa; rintro fa _ _ ⟨rfl, rfl⟩ hf
    change Fr _ _ ((11, (.bool true)) :: _) at hf
    refine sqv hf (r_pick (b := true) rfl rfl rfl rfl) rfl rfl rfl ?_; clear hf fa; intro fa hf
    refine sqv hf (r_move rfl) rfl rfl rfl ?_; clear hf fa; intro fa hf
    refine sqgd (act := true) (g := 8) (want := true) (ag := true) (c := true) hf (by rfl) (by rfl) rfl (fun _ =>  Runs.does (R := fun vq wq => vq = (.slice a R.length c) ∧ w = wq) (r_move rfl) ⟨rfl, rfl⟩) (fun h => by cases h) rfl ?_; clear hf fa; rintro fa _ _ ⟨rfl, rfl⟩ hf
    change Fr _ _ ((14, (.slice a R.length c)) :: _) at hf
    refine sqgd (act := true) (g := 8) (want := true) (ag := true) (c := true) hf (by rfl) (by rfl) rfl (fun _ =>  Runs.does (R := fun vq wq => vq = (.int .i64 i) ∧ w = wq) (r_move rfl) ⟨rfl, rfl⟩) (fun h => by cases h) rfl ?_; clear hf fa; rintro fa _ _ ⟨rfl, rfl⟩ hf
    change Fr _ _ ((15, (.int .i64 i)) :: _) at hf
    have hy1 : (R)[(i).toNat]? = some y := hy
    obtain ⟨ab1, aoff1, hat1, hlb1, hel1⟩ := RdS.at hl hy1
    refine sqgd (act := true) (g := 8) (want := true) (ag := true) (c := true) hf (by rfl) (by rfl) rfl (fun _ =>  Runs.does (R := fun vq wq => vq = (.pointer (some ⟨ab1, (aoff1 + (i).toNat * 6), none⟩)) ∧ w = wq) (r_ixa (sz := 6) (j := (i).toNat) (evAt rfl hat1) rfl Try.underlying76 (by kernel_rfl) (by omega) (by omega) rfl) ⟨rfl, rfl⟩) (fun h => by cases h) rfl ?_; clear hf fa; rintro fa _ _ ⟨rfl, rfl⟩ hf
    change Fr _ _ ((16, (.pointer (some ⟨ab1, (aoff1 + (i).toNat * 6), none⟩))) :: _) at hf
    refine sqgd (act := true) (g := 8) (want := true) (ag := true) (c := true) hf (by rfl) (by rfl) rfl (fun _ =>  Runs.does (R := fun vq wq => vq = (.pointer (some ⟨ab1, ((aoff1 + (i).toNat * 6) + 5), none⟩)) ∧ w = wq) (r_fa rfl Try.underlying132 (f := 4) (q := ((aoff1 + (i).toNat * 6) + 5)) rfl (by kernel_rfl) rfl) ⟨rfl, rfl⟩) (fun h => by cases h) rfl ?_; clear hf fa; rintro fa _ _ ⟨rfl, rfl⟩ hf
    change Fr _ _ ((17, (.pointer (some ⟨ab1, ((aoff1 + (i).toNat * 6) + 5), none⟩))) :: _) at hf
    refine sqgd (act := true) (g := 8) (want := true) (ag := true) (c := true) hf (by rfl) (by rfl) rfl (fun _ =>  Runs.does (R := fun vq wq => vq = (.bool y.2.2.2.2.1) ∧ w = wq) (r_load (v := (.bool y.2.2.2.2.1)) rfl Try.underlying4 rfl (cellsAt_cell (cellsAt_below hel1 hb hlb1) (i := 5) rfl rfl)) ⟨rfl, rfl⟩) (fun h => by cases h) rfl ?_; clear hf fa; rintro fa _ _ ⟨rfl, rfl⟩ hf
    change Fr _ _ ((18, (.bool y.2.2.2.2.1)) :: _) at hf
    refine sqv hf (r_pick (b := true) rfl rfl rfl rfl) rfl rfl rfl ?_; clear hf fa; intro fa hf
    refine sqv hf (r_assign rfl) rfl rfl rfl ?_; clear hf fa; intro fa hf
    apply wpList_nil
    (try simp only [Exit.then, Exit.inBlock, ↓reduceIte, Nat.reduceEqDiff])
    refine hK2 _ _ ?_
    refine wp_ret ?_
    (try simp only [Exit.then, Exit.inBlock])
    refine ret1 hf rfl rfl ?_
    have hD : rlB R i = y.2.2.2.2.1 := by unfold rlB; rw [decide_eq_true hsp1, List.getD_eq_getElem?_getD, hy]; rfl
    rw [hD]; exact ⟨rfl, hb⟩
  · have hsp1b : decide (0 ≤ i ∧ i < ((R.length : Nat) : Int)) = false := decide_eq_false hsp1
    skip
    refine wp_region_lit ?_
    refine sqv hf (r_move rfl) rfl rfl rfl ?_; clear hf fa; intro fa hf
    refine sqv hf (r_ge rfl rfl) rfl rfl rfl ?_; clear hf fa; intro fa hf
    refine sqv hf (r_move rfl) rfl rfl rfl ?_; clear hf fa; intro fa hf
    refine sqgT (act := (decide ((0 : Int) ≤ i))) (ag := true) (c := (decide ((0 : Int) ≤ i))) (v := (.int .i64 i)) hf rfl rfl rfl (fun hact => (r_move rfl)) rfl rfl ?_; clear hf fa; intro fa hf
    refine sqgT (act := (decide ((0 : Int) ≤ i))) (ag := true) (c := (decide ((0 : Int) ≤ i))) (v := (.slice a R.length c)) hf rfl rfl rfl (fun hact => (r_move rfl)) rfl rfl ?_; clear hf fa; intro fa hf
    refine sqgT (act := (decide ((0 : Int) ≤ i))) (ag := true) (c := (decide ((0 : Int) ≤ i))) (v := (.int .i64 ((R.length : Nat) : Int))) hf rfl rfl rfl (fun hact => (r_lensl (gb_ev hact rfl) Try.underlying76)) rfl rfl ?_; clear hf fa; intro fa hf
    refine sqgT (act := (decide ((0 : Int) ≤ i))) (ag := true) (c := (decide ((0 : Int) ≤ i))) (v := (.bool (decide (i < ((R.length : Nat) : Int))))) hf rfl rfl rfl (fun hact => (r_lt (gb_ev hact rfl) (gb_ev hact rfl))) rfl rfl ?_; clear hf fa; intro fa hf
    refine sqv hf (Runs.veq (r_pickA (b := (decide ((0 : Int) ≤ i))) (e := (decide (i < ((R.length : Nat) : Int)))) rfl rfl rfl) (congrArg Value.bool (show _ = false from (by have h := hsp1; simp; omega)))) rfl rfl rfl ?_; clear hf fa; intro fa hf
    refine sqv hf (r_move rfl) rfl rfl rfl ?_; clear hf fa; intro fa hf
    refine sqgT (act := false) (ag := true) (c := false) (v := .bool false) hf rfl rfl rfl (fun hact => by cases hact) rfl rfl ?_; clear hf fa; intro fa hf
    refine sqgT (act := false) (ag := true) (c := false) (v := .bool false) hf rfl rfl rfl (fun hact => by cases hact) rfl rfl ?_; clear hf fa; intro fa hf
    refine sqgT (act := false) (ag := true) (c := false) (v := .bool false) hf rfl rfl rfl (fun hact => by cases hact) rfl rfl ?_; clear hf fa; intro fa hf
    refine sqgT (act := false) (ag := true) (c := false) (v := .bool false) hf rfl rfl rfl (fun hact => by cases hact) rfl rfl ?_; clear hf fa; intro fa hf
    refine sqgT (act := false) (ag := true) (c := false) (v := .bool false) hf rfl rfl rfl (fun hact => by cases hact) rfl rfl ?_; clear hf fa; intro fa hf
    refine sqv hf (r_pick (b := false) rfl rfl rfl rfl) rfl rfl rfl ?_; clear hf fa; intro fa hf
    refine sqv hf (r_assign rfl) rfl rfl rfl ?_; clear hf fa; intro fa hf
    apply wpList_nil
    (try simp only [Exit.then, Exit.inBlock, ↓reduceIte, Nat.reduceEqDiff])
    refine hK2 _ _ ?_
    refine wp_ret ?_
    (try simp only [Exit.then, Exit.inBlock])
    refine ret1 hf rfl rfl ?_
    have hD : rlB R i = false := by unfold rlB; rw [decide_eq_false (by have h := hsp1; exact h)]; rfl
    rw [hD]; exact ⟨rfl, hb⟩

set_option maxHeartbeats 1000000 in
set_option maxRecDepth 100000 in
theorem rset_any (a : Option Addr) (R : List MRf) (c : Nat) (w : World) (hl : RdS 6 vMRf w a R) (hlc : R.length ≤ 1000) (hcc : R.length ≤ c ∧ c ≤ 9223372036854775807) (hcn : a = none → c = 0) (i : Int) (x : MRf) (hi : 0 ≤ i ∧ i < ((R.length : Nat) : Int)) : Calls Try.prog 69 #[(.slice a R.length c), (.int .i64 i), (.agg #[(.string x.1.1), (.string x.1.2.1), (.int .i64 x.2.1), (.int .u64 x.2.2.1), (.int .i64 x.2.2.2.1), (.bool x.2.2.2.2.1)])] w fun e w' => ∃ v, e = .returned v ∧ Row 6 vMRf 132 w.heap.size w' v (R.set i.toNat x) ∧ Below w.heap.size w w' := by
  refine sx_enter (L := [(0, (.slice a R.length c)), (1, (.int .i64 i)), (2, (.agg #[(.string x.1.1), (.string x.1.2.1), (.int .i64 x.2.1), (.int .u64 x.2.2.1), (.int .i64 x.2.2.2.1), (.bool x.2.2.2.2.1)]))]) Try.func69 rfl rfl rfl rfl (fun fa hf => ?_)
  have hb : Below w.heap.size w w := Below.refl _ _
  refine wp_seq_k (fun K1 hK1 => ?_)
  refine wp_region_lit ?_
  refine sqdt hf (d_box (cs := #[(.string x.1.1), (.string x.1.2.1), (.int .i64 x.2.1), (.int .u64 x.2.2.1), (.int .i64 x.2.2.2.1), (.bool x.2.2.2.2.1)]) rfl rfl) rfl rfl rfl ?_; clear hf fa; rintro fa _ w1 ⟨b1, rfl, hle1, hk1, he1⟩ hf
  have hBb1 : w.heap.size ≤ b1 := Nat.le_trans hb.size hle1
  replace hb := hb.trans (Below.mono he1 hb.size)
  refine sqv hf (r_assign rfl) rfl rfl rfl ?_; clear hf fa; intro fa hf
  apply wpList_nil
  (try simp only [Exit.then, Exit.inBlock, ↓reduceIte, Nat.reduceEqDiff])
  refine hK1 _ _ ?_
  refine wp_seq_k (fun K2 hK2 => ?_)
  refine wp_region_lit ?_
  refine sqdt hf (d_bslice0 (sz := 6) Try.underlying76 (by kernel_rfl)) rfl rfl rfl ?_; clear hf fa; rintro fa _ w2 ⟨b2, rfl, hle2, hk2, he2⟩ hf
  have hBb2 : w.heap.size ≤ b2 := Nat.le_trans hb.size hle2
  have : b1 < b2 := Nat.lt_of_lt_of_le (blk_lt hk1) hle2
  replace hk1 := blk_ext hk1 he2
  replace hb := hb.trans (Below.mono he2 hb.size)
  refine sqv hf (r_move rfl) rfl rfl rfl ?_; clear hf fa; intro fa hf
  have hr1 := Row.of_new (k := 6) (V := vMRf) (l := []) hk2 (Nat.le_refl _) rfl rfl (Nat.le_of_ble_eq_true rfl)
  refine sqdt hf (d_append (V := vMRf) (k := 6) (e := 132) (bytes := 64) (z := (.agg #[(.string ⟨#[]⟩), (.string ⟨#[]⟩), (.int .i64 (0 : Int)), (.int .u64 (0 : Int)), (.int .i64 (0 : Int)), (.bool false)])) (news := R) (base := b2) (by intros; rfl) (by exact oneMRf) rfl rfl Try.underlying76 (by kernel_rfl) rfl rfl rfl hr1 (RdS.ext hl hb) (by omega) (by assumption) (by first | omega | (simp only [List.length_cons, List.length_nil, List.length_append, nums_len]; omega)) (by first | (have := hb.size; have : b2 < w2.heap.size := (Row.lt hr1 _ rfl).2; omega) | (have := Row.base_le hr1 (by first | omega | (simp only [Sl.list_length, List.length_set, List.length_take, List.length_append, List.length_replicate, List.length_cons, List.length_nil, List.length_map, nums_len]; omega)); omega))) rfl rfl rfl ?_; clear hf fa; rintro fa v w3 ⟨hr2, hg1⟩ hf; obtain ⟨ra1, rc1, rfl, hcrc1, hmrc1⟩ := Row.slice hr2
  replace hk1 := blk_row' hk1 hg1 (Row.ne_base hr1 (by omega))
  replace hb := hb.trans (row_below hr1 hg1 hb.size (by have := hb.size; omega))
  simp only [List.nil_append] at hr2
  refine sqv hf (r_assign rfl) rfl rfl rfl ?_; clear hf fa; intro fa hf
  apply wpList_nil
  (try simp only [Exit.then, Exit.inBlock, ↓reduceIte, Nat.reduceEqDiff])
  refine hK2 _ _ ?_
  refine wp_seq_k (fun K3 hK3 => ?_)
  have hnl : (([] : List MRf) ++ R).length = R.length := rfl
  refine wp_region_lit ?_
  refine sqv hf (r_move rfl) rfl rfl rfl ?_; clear hf fa; intro fa hf
  refine sqv hf (r_move rfl) rfl rfl rfl ?_; clear hf fa; intro fa hf
  refine sqv hf (r_loadA (cs := [(.string x.1.1), (.string x.1.2.1), (.int .i64 x.2.1), (.int .u64 x.2.2.1), (.int .i64 x.2.2.2.1), (.bool x.2.2.2.2.1)]) rfl Try.underlying132 rfl (by kernel_rfl) (cellsAt_blk hk1)) rfl rfl rfl ?_; clear hf fa; intro fa hf
  obtain ⟨rb1, rfl, hbbrb1, hlbrb1⟩ := Row.some hr2 (by first | omega | (simp only [Sl.list_length, List.length_set, List.length_take, List.length_append, List.length_replicate, List.length_cons, List.length_nil, List.length_map, nums_len]; omega))
  have hy1 := getD_at (l := R) (j := (i).toNat) zMRf (by first | omega | (simp only [Sl.list_length, List.length_set, List.length_take, List.length_append, List.length_replicate, List.length_cons, List.length_nil, List.length_map, nums_len]; omega))
  have hel1 := RdS.at (Row.rd (by intros; rfl) hr2) hy1
  obtain ⟨_, _, hab, hlr1, hel1⟩ := hel1
  cases hab
  refine sqv hf (r_ixa (sz := 6) (j := (i).toNat) rfl rfl Try.underlying76 (by kernel_rfl) (by omega) (by omega) rfl) rfl rfl rfl ?_; clear hf fa; intro fa hf
  refine sqn hf (d_rowset (u := x) (j := (i).toNat) (by intros; rfl) (by exact oneMRf) rfl rfl (by first | rfl | (simp; done) | (simp; omega)) (by kernel_rfl) hr2 (by first | omega | (simp only [Sl.list_length, List.length_set, List.length_take, List.length_append, List.length_replicate, List.length_cons, List.length_nil, List.length_map, nums_len]; omega)) (by omega)) rfl rfl ?_; clear hf fa; rintro fa _ w4 ⟨hr3, hg2⟩ hf
  replace hk1 := blk_grown hk1 hg2 (by omega)
  replace hb := hb.trans (grown_below hg2 hb.size (by first | omega | (have := Row.lt hr2 _ rfl; omega)))
  apply wpList_nil
  (try simp only [Exit.then, Exit.inBlock, ↓reduceIte, Nat.reduceEqDiff])
  refine hK3 _ _ ?_
  refine wp_seq_k (fun K4 hK4 => ?_)
  refine wp_region_lit ?_
  refine sqv hf (r_move rfl) rfl rfl rfl ?_; clear hf fa; intro fa hf
  refine sqv hf (r_assign rfl) rfl rfl rfl ?_; clear hf fa; intro fa hf
  apply wpList_nil
  (try simp only [Exit.then, Exit.inBlock, ↓reduceIte, Nat.reduceEqDiff])
  refine hK4 _ _ ?_
  refine wp_ret ?_
  (try simp only [Exit.then, Exit.inBlock])
  refine ret1 hf rfl rfl ?_
  have hzR := hr3
  exact ⟨_, rfl, hzR.rebase hBb2, hb⟩

def rswP (R : List MRf) (i j : Int) : List MRf × Int := if rlB R i = true ∧ rlB R j = true then (if (R.getD i.toNat zMRf).1 = (R.getD j.toNat zMRf).1 then (R.set i.toNat ((R.getD i.toNat zMRf).1, (R.getD i.toNat zMRf).2.1, (R.getD i.toNat zMRf).2.2.1, j, (R.getD i.toNat zMRf).2.2.2.2), 0) else (R, 66)) else (R, 47)

theorem rlB_in {R : List MRf} {i : Int} (h : rlB R i = true) : 0 ≤ i ∧ i < ((R.length : Nat) : Int) := by
  unfold rlB at h
  rw [Bool.and_eq_true, decide_eq_true_eq] at h
  exact h.1

set_option maxHeartbeats 1000000 in
set_option maxRecDepth 100000 in
theorem rswap_any (a : Option Addr) (R : List MRf) (c : Nat) (w : World) (hl : RdS 6 vMRf w a R) (hlc : R.length ≤ 1000) (hcc : R.length ≤ c ∧ c ≤ 9223372036854775807) (hcn : a = none → c = 0) (B : Nat) (hBw : B ≤ w.heap.size) (hRow : Row 6 vMRf 132 B w (.slice a R.length c) R) (i j : Int) : Calls Try.prog 67 #[(.slice a R.length c), (.int .i64 i), (.int .i64 j)] w fun e w' => ∃ v, e = .returned (.tuple #[v, .int .i64 (rswP R i j).2]) ∧ Row 6 vMRf 132 B w' v (rswP R i j).1 ∧ Below w.heap.size w w' := by
  refine sx_enter (L := [(0, (.slice a R.length c)), (1, (.int .i64 i)), (2, (.int .i64 j))]) Try.func67 rfl rfl rfl rfl (fun fa hf => ?_)
  have hb : Below w.heap.size w w := Below.refl _ _
  refine wp_seq_k (fun K1 hK1 => ?_)
  refine wp_region_lit ?_
  refine sqv hf (r_assign rfl) rfl rfl rfl ?_; clear hf fa; intro fa hf
  refine sqv hf (r_assign rfl) rfl rfl rfl ?_; clear hf fa; intro fa hf
  apply wpList_nil
  (try simp only [Exit.then, Exit.inBlock, ↓reduceIte, Nat.reduceEqDiff])
  refine hK1 _ _ ?_
  refine wp_seq_k (fun K2 hK2 => ?_)
  refine wp_seq_k (fun K3 hK3 => ?_)
  refine wp_region_lit ?_
  refine sqv hf (r_move rfl) rfl rfl rfl ?_; clear hf fa; intro fa hf
  refine sqv hf (r_move rfl) rfl rfl rfl ?_; clear hf fa; intro fa hf
  refine sqdt hf (d_callB (vs := [(.slice a R.length c), (.int .i64 i)]) rfl Try.func68 (by kernel_rfl) (by kernel_rfl) (rlive_any a R c _ (RdS.ext hl hb) hlc hcc hcn i)) rfl rfl rfl ?_; clear hf fa; rintro fa _ w1 ⟨rfl, he1⟩ hf
  replace hb := hb.trans (Below.mono he1 hb.size)
  refine sqv hf (r_not rfl) rfl rfl rfl ?_; clear hf fa; intro fa hf
  refine sqv hf (r_move rfl) rfl rfl rfl ?_; clear hf fa; intro fa hf
  refine sqgF (act := (!(!(rlB R i)))) (ag := true) (c := (!(rlB R i))) (v := (.slice a R.length c)) hf rfl rfl rfl (fun hact => (r_move rfl)) rfl rfl ?_; clear hf fa; intro fa hf
  refine sqgF (act := (!(!(rlB R i)))) (ag := true) (c := (!(rlB R i))) (v := (.int .i64 j)) hf rfl rfl rfl (fun hact => (r_move rfl)) rfl rfl ?_; clear hf fa; intro fa hf
  refine sqgd (R := fun vq wq => vq = gb (!(!(rlB R i))) (.bool (rlB R j)) ∧ Below w1.heap.size w1 wq) (act := (!(!(rlB R i)))) (g := 4) (want := false) (ag := true) (c := (!(rlB R i))) hf (by rfl) (by rfl) (act_F _ _) (fun hact => (d_callB (vs := [(.slice a R.length c), (.int .i64 j)]) (cons_ev (gb_ev hact rfl) (cons_ev (gb_ev hact rfl) rfl)) Try.func68 (by kernel_rfl) (by kernel_rfl) (rlive_any a R c _ (RdS.ext hl hb) hlc hcc hcn j)).mono (fun _ _ h => ⟨by rw [h.1, hact]; rfl, h.2⟩)) (fun h => ⟨by rw [h]; rfl, Below.refl _ _⟩) rfl ?_; clear hf fa; rintro fa _ w2 ⟨rfl, he2⟩ hf
  replace hb := hb.trans (Below.mono he2 hb.size)
  change Fr _ _ ((16, (gb (!(!(rlB R i))) (.bool (rlB R j)))) :: _) at hf
  refine sqgF (act := (!(!(rlB R i)))) (ag := true) (c := (!(rlB R i))) (v := (.bool (!(rlB R j)))) hf rfl rfl rfl (fun hact => (r_not (gb_ev hact rfl))) rfl rfl ?_; clear hf fa; intro fa hf
  refine sqv hf (r_pickO (b := (!(rlB R i))) (e := (!(rlB R j))) rfl rfl rfl) rfl rfl rfl ?_; clear hf fa; intro fa hf
  apply wpList_nil
  (try simp only [Exit.then, Exit.inBlock, ↓reduceIte, Nat.reduceEqDiff])
  refine hK3 _ _ ?_
  refine wp_cond_split (t := ((!(rlB R i)) || (!(rlB R j)))) (hf.ev rfl) (fun hqt18_1 => ?_) (fun hqt18_1 => ?_)
  · have hqt18_1b := hqt18_1
    try simp only [decide_eq_true_eq, Bool.and_eq_true, Bool.or_eq_true, Bool.not_eq_true', decide_eq_false_iff_not, ne_eq, Bool.not_eq_true] at hqt18_1
    refine wp_seq_k (fun K4 hK4 => ?_)
    refine wp_region_lit ?_
    refine sqv hf (r_move rfl) rfl rfl rfl ?_; clear hf fa; intro fa hf
    refine sqv hf (r_assign rfl) rfl rfl rfl ?_; clear hf fa; intro fa hf
    refine sqv hf (r_assign rfl) rfl rfl rfl ?_; clear hf fa; intro fa hf
    apply wpList_nil
    (try simp only [Exit.then, Exit.inBlock, ↓reduceIte, Nat.reduceEqDiff])
    refine hK4 _ _ ?_
    refine wp_ret ?_
    (try simp only [Exit.then, Exit.inBlock])
    refine ret2 hf rfl rfl rfl ?_
    have hn : ¬ (rlB R i = true ∧ rlB R j = true) := by have h := hqt18_1; revert h; cases rlB R i <;> cases rlB R j <;> simp
    have hD : rswP R i j = (R, 47) := by unfold rswP; rw [if_neg hn]
    rw [hD]; exact ⟨_, rfl, hRow.ext hb, hb⟩
  · have hqt18_1b := hqt18_1
    replace hqt18_1 := Bool.eq_false_iff.1 hqt18_1
    try simp only [ne_eq, decide_eq_true_eq, Bool.and_eq_true, Bool.or_eq_true, Bool.not_eq_true', decide_eq_false_iff_not] at hqt18_1
    refine wp_skip ?_
    (try simp only [Exit.then, Exit.inBlock, ↓reduceIte, Nat.reduceEqDiff])
    refine hK2 _ _ ?_
    refine wp_seq_k (fun K5 hK5 => ?_)
    refine wp_seq_k (fun K6 hK6 => ?_)
    have hlb : rlB R i = true ∧ rlB R j = true := by have h := hqt18_1; revert h; cases rlB R i <;> cases rlB R j <;> simp
    have hi := rlB_in hlb.1
    have hj := rlB_in hlb.2
    obtain ⟨y1, hy1⟩ : ∃ x, R[i.toNat]? = some x := ⟨_, List.getElem?_eq_getElem (by omega)⟩
    obtain ⟨y2, hy2⟩ : ∃ x, R[j.toNat]? = some x := ⟨_, List.getElem?_eq_getElem (by omega)⟩
    have hd1 : R.getD i.toNat zMRf = y1 := by rw [List.getD_eq_getElem?_getD, hy1]; rfl
    have hd2 : R.getD j.toNat zMRf = y2 := by rw [List.getD_eq_getElem?_getD, hy2]; rfl
    skip
    have hy1 : (R)[(i).toNat]? = some y1 := hy1
    obtain ⟨ab1, aoff1, hat1, hlb1, hel1⟩ := RdS.at hl hy1
    have hy2 : (R)[(j).toNat]? = some y2 := hy2
    obtain ⟨_, _, hab1, hlb2, hel2⟩ := RdS.at hl hy2
    rw [hat1] at hab1; cases hab1
    refine wp_region_un (fun wq => Below w2.heap.size w2 wq) (fun w w' => Below w.heap.size w w')
      (fun V => [(fun x _ => x = (.slice a R.length c)), (fun x _ => x = (.int .i64 i)), (fun x _ => x = (.pointer (some ⟨ab1, (aoff1 + (i).toNat * 6), none⟩))), (fun x _ => x = (.pointer (some ⟨ab1, (aoff1 + (i).toNat * 6), none⟩))), (fun x _ => x = (.agg #[(.string y1.1.1), (.string y1.1.2.1)])), (fun x _ => x = (.slice a R.length c)), (fun x _ => x = (.int .i64 j)), (fun x _ => x = (.pointer (some ⟨ab1, (aoff1 + (j).toNat * 6), none⟩))), (fun x _ => x = (.pointer (some ⟨ab1, (aoff1 + (j).toNat * 6), none⟩))), (fun x _ => x = (.agg #[(.string y2.1.1), (.string y2.1.2.1)])), (fun x _ => x = (.bool (!((decide (y1.1.1 = y2.1.1)) && (decide (y1.1.2.1 = y2.1.2.1))))))])
      []
      [[], [], [0, 1], [2], [3], [], [], [5, 6], [7], [8], [4, 9]]
      hf (by kernel_rfl) (by kernel_rfl) (fun _ => rfl) ((Below.refl _ _).drew) (fun a b h1 h2 => h1.trans (h2.mono h1.size)) (fun _ _ h => h.size) (fun V => ⟨kept_eq, kept_eq, kept_eq, kept_eq, kept_eq, kept_eq, kept_eq, kept_eq, kept_eq, kept_eq, kept_eq, trivial⟩) (fun _ _ _ _ _ => rfl) ?_ ?_
    · skip
      intro V
      refine ⟨fun wu0 hC hd => ?_, ?_⟩
      · clear hd
        replace hb := hb.trans (hC.mono hb.size)
        exact Runs.does (r_move rfl) ⟨Below.refl _ _, rfl, nofr rfl⟩
      refine ⟨fun wu1 hC hd => ?_, ?_⟩
      · clear hd
        replace hb := hb.trans (hC.mono hb.size)
        exact Runs.does (r_move rfl) ⟨Below.refl _ _, rfl, nofr rfl⟩
      refine ⟨fun wu2 hC hd => ?_, ?_⟩
      · obtain ⟨h0, h1, _⟩ := hd
        skip
        skip
        replace h0 : V 0 = (.slice a R.length c) := h0
        replace h1 : V 1 = (.int .i64 i) := h1
        replace hb := hb.trans (hC.mono hb.size)
        exact Runs.does (r_ixa (sz := 6) (j := (i).toNat) (evAt (congrArg some h0) hat1) (congrArg some h1) Try.underlying76 (by kernel_rfl) (by omega) (by omega) rfl) ⟨Below.refl _ _, rfl, nofr rfl⟩
      refine ⟨fun wu3 hC hd => ?_, ?_⟩
      · obtain ⟨h2, _⟩ := hd
        skip
        replace h2 : V 2 = (.pointer (some ⟨ab1, (aoff1 + (i).toNat * 6), none⟩)) := h2
        replace hb := hb.trans (hC.mono hb.size)
        exact Runs.does (r_fa (congrArg some h2) Try.underlying132 (f := 0) (q := (aoff1 + (i).toNat * 6)) rfl (by kernel_rfl) rfl) ⟨Below.refl _ _, rfl, nofr rfl⟩
      refine ⟨fun wu4 hC hd => ?_, ?_⟩
      · obtain ⟨h3, _⟩ := hd
        skip
        replace h3 : V 3 = (.pointer (some ⟨ab1, (aoff1 + (i).toNat * 6), none⟩)) := h3
        replace hb := hb.trans (hC.mono hb.size)
        exact Runs.does (r_loadA (cs := [(.string y1.1.1), (.string y1.1.2.1)]) (congrArg some h3) Try.underlying31 rfl (by kernel_rfl) (cellsAt_part (d := 0) (n := 2) (cellsAt_below hel1 hb hlb1) rfl rfl)) ⟨Below.refl _ _, rfl, nofr rfl⟩
      refine ⟨fun wu5 hC hd => ?_, ?_⟩
      · clear hd
        replace hb := hb.trans (hC.mono hb.size)
        exact Runs.does (r_move rfl) ⟨Below.refl _ _, rfl, nofr rfl⟩
      refine ⟨fun wu6 hC hd => ?_, ?_⟩
      · clear hd
        replace hb := hb.trans (hC.mono hb.size)
        exact Runs.does (r_move rfl) ⟨Below.refl _ _, rfl, nofr rfl⟩
      refine ⟨fun wu7 hC hd => ?_, ?_⟩
      · obtain ⟨h5, h6, _⟩ := hd
        skip
        skip
        replace h5 : V 5 = (.slice a R.length c) := h5
        replace h6 : V 6 = (.int .i64 j) := h6
        replace hb := hb.trans (hC.mono hb.size)
        exact Runs.does (r_ixa (sz := 6) (j := (j).toNat) (evAt (congrArg some h5) hat1) (congrArg some h6) Try.underlying76 (by kernel_rfl) (by omega) (by omega) rfl) ⟨Below.refl _ _, rfl, nofr rfl⟩
      refine ⟨fun wu8 hC hd => ?_, ?_⟩
      · obtain ⟨h7, _⟩ := hd
        skip
        replace h7 : V 7 = (.pointer (some ⟨ab1, (aoff1 + (j).toNat * 6), none⟩)) := h7
        replace hb := hb.trans (hC.mono hb.size)
        exact Runs.does (r_fa (congrArg some h7) Try.underlying132 (f := 0) (q := (aoff1 + (j).toNat * 6)) rfl (by kernel_rfl) rfl) ⟨Below.refl _ _, rfl, nofr rfl⟩
      refine ⟨fun wu9 hC hd => ?_, ?_⟩
      · obtain ⟨h8, _⟩ := hd
        skip
        replace h8 : V 8 = (.pointer (some ⟨ab1, (aoff1 + (j).toNat * 6), none⟩)) := h8
        replace hb := hb.trans (hC.mono hb.size)
        exact Runs.does (r_loadA (cs := [(.string y2.1.1), (.string y2.1.2.1)]) (congrArg some h8) Try.underlying31 rfl (by kernel_rfl) (cellsAt_part (d := 0) (n := 2) (cellsAt_below hel2 hb hlb2) rfl rfl)) ⟨Below.refl _ _, rfl, nofr rfl⟩
      refine ⟨fun wu10 hC hd => ?_, ?_⟩
      · obtain ⟨h4, h9, _⟩ := hd
        skip
        skip
        replace h4 : V 4 = (.agg #[(.string y1.1.1), (.string y1.1.2.1)]) := h4
        replace h9 : V 9 = (.agg #[(.string y2.1.1), (.string y2.1.2.1)]) := h9
        replace hb := hb.trans (hC.mono hb.size)
        exact Runs.does (r_ane (k := 5) (congrArg some h4) (congrArg some h9) (by kernel_rfl) (eqt_struct (xs := #[(.string y1.1.1), (.string y1.1.2.1)]) (ys := #[(.string y2.1.1), (.string y2.1.2.1)]) Try.underlying31 (by kernel_rfl) (eqf_cons (by kernel_rfl) (fun _ => by kernel_rfl) (fun _ => by kernel_rfl) (eqt_str (a := y1.1.1) (b := y2.1.1) Try.underlying9) (eqf_one (by kernel_rfl) (fun _ => by kernel_rfl) (fun _ => by kernel_rfl) (eqt_str (a := y1.1.2.1) (b := y2.1.2.1) Try.underlying9)))) rfl) ⟨Below.refl _ _, rfl, nofr rfl⟩
      trivial
    · skip
      clear hf fa; intro V w3 fa he3 hp hnb hf
      have hv0 : V 0 = (.slice a R.length c) := postsHold_at hp 0 rfl
      have hv1 : V 1 = (.int .i64 i) := postsHold_at hp 1 rfl
      have hv2 : V 2 = (.pointer (some ⟨ab1, (aoff1 + (i).toNat * 6), none⟩)) := postsHold_at hp 2 rfl
      have hv3 : V 3 = (.pointer (some ⟨ab1, (aoff1 + (i).toNat * 6), none⟩)) := postsHold_at hp 3 rfl
      have hv4 : V 4 = (.agg #[(.string y1.1.1), (.string y1.1.2.1)]) := postsHold_at hp 4 rfl
      have hv5 : V 5 = (.slice a R.length c) := postsHold_at hp 5 rfl
      have hv6 : V 6 = (.int .i64 j) := postsHold_at hp 6 rfl
      have hv7 : V 7 = (.pointer (some ⟨ab1, (aoff1 + (j).toNat * 6), none⟩)) := postsHold_at hp 7 rfl
      have hv8 : V 8 = (.pointer (some ⟨ab1, (aoff1 + (j).toNat * 6), none⟩)) := postsHold_at hp 8 rfl
      have hv9 : V 9 = (.agg #[(.string y2.1.1), (.string y2.1.2.1)]) := postsHold_at hp 9 rfl
      have hv10 : V 10 = (.bool (!((decide (y1.1.1 = y2.1.1)) && (decide (y1.1.2.1 = y2.1.2.1))))) := postsHold_at hp 10 rfl
      simp only [List.take_succ_cons, List.take_zero, insAll, ins, hv0, hv1, hv2, hv3, hv4, hv5, hv6, hv7, hv8, hv9, hv10] at hf
      clear hp hnb hv0 hv1 hv2 hv3 hv4 hv5 hv6 hv7 hv8 hv9 hv10
      replace hb := hb.trans (Below.mono he3 hb.size)
      (try simp only [Exit.then, Exit.inBlock, ↓reduceIte, Nat.reduceEqDiff])
      refine hK6 _ _ ?_
      refine wp_cond_split (t := (!((decide (y1.1.1 = y2.1.1)) && (decide (y1.1.2.1 = y2.1.2.1))))) (hf.ev rfl) (fun hqt30_1 => ?_) (fun hqt30_1 => ?_)
      · have hqt30_1b := hqt30_1
        try simp only [decide_eq_true_eq, Bool.and_eq_true, Bool.or_eq_true, Bool.not_eq_true', decide_eq_false_iff_not, ne_eq, Bool.not_eq_true] at hqt30_1
        refine wp_seq_k (fun K7 hK7 => ?_)
        refine wp_region_lit ?_
        refine sqv hf (r_move rfl) rfl rfl rfl ?_; clear hf fa; intro fa hf
        refine sqv hf (r_assign rfl) rfl rfl rfl ?_; clear hf fa; intro fa hf
        refine sqv hf (r_assign rfl) rfl rfl rfl ?_; clear hf fa; intro fa hf
        apply wpList_nil
        (try simp only [Exit.then, Exit.inBlock, ↓reduceIte, Nat.reduceEqDiff])
        refine hK7 _ _ ?_
        refine wp_ret ?_
        (try simp only [Exit.then, Exit.inBlock])
        refine ret2 hf rfl rfl rfl ?_
        have hn : ¬ (R.getD i.toNat zMRf).1 = (R.getD j.toNat zMRf).1 := by rw [hd1, hd2]; intro e; have h := hqt30_1; simp [e] at h
        have hD : rswP R i j = (R, 66) := by unfold rswP; rw [if_pos hlb, if_neg hn]
        rw [hD]; exact ⟨_, rfl, hRow.ext hb, hb⟩
      · have hqt30_1b := hqt30_1
        replace hqt30_1 := Bool.eq_false_iff.1 hqt30_1
        try simp only [ne_eq, decide_eq_true_eq, Bool.and_eq_true, Bool.or_eq_true, Bool.not_eq_true', decide_eq_false_iff_not] at hqt30_1
        refine wp_skip ?_
        (try simp only [Exit.then, Exit.inBlock, ↓reduceIte, Nat.reduceEqDiff])
        refine hK5 _ _ ?_
        refine wp_seq_k (fun K8 hK8 => ?_)
        refine wp_region_lit ?_
        refine sqv hf (r_move rfl) rfl rfl rfl ?_; clear hf fa; intro fa hf
        refine sqv hf (r_move rfl) rfl rfl rfl ?_; clear hf fa; intro fa hf
        refine sqv hf (r_ixa (sz := 6) (j := (i).toNat) (evAt rfl hat1) rfl Try.underlying76 (by kernel_rfl) (by omega) (by omega) rfl) rfl rfl rfl ?_; clear hf fa; intro fa hf
        refine sqv hf (r_loadA (cs := [(.string y1.1.1), (.string y1.1.2.1), (.int .i64 y1.2.1), (.int .u64 y1.2.2.1), (.int .i64 y1.2.2.2.1), (.bool y1.2.2.2.2.1)]) rfl Try.underlying132 rfl (by kernel_rfl) (cellsAt_below hel1 hb hlb1)) rfl rfl rfl ?_; clear hf fa; intro fa hf
        refine sqdt hf (d_alloc (z := (.agg #[(.string ⟨#[]⟩), (.string ⟨#[]⟩), (.int .i64 (0 : Int)), (.int .u64 (0 : Int)), (.int .i64 (0 : Int)), (.bool false)])) (cs := #[(.string ⟨#[]⟩), (.string ⟨#[]⟩), (.int .i64 (0 : Int)), (.int .u64 (0 : Int)), (.int .i64 (0 : Int)), (.bool false)]) (by kernel_rfl) rfl) rfl rfl rfl ?_; clear hf fa; rintro fa _ w4 ⟨b1, rfl, hle1, hk1, he4⟩ hf
        have hBb1 : w.heap.size ≤ b1 := Nat.le_trans hb.size hle1
        replace hb := hb.trans (Below.mono he4 hb.size)
        refine sqn hf (d_storeK (T := 132) (v := (.agg #[(.string y1.1.1), (.string y1.1.2.1), (.int .i64 y1.2.1), (.int .u64 y1.2.2.1), (.int .i64 y1.2.2.2.1), (.bool y1.2.2.2.2.1)])) (cs := #[(.string ⟨#[]⟩), (.string ⟨#[]⟩), (.int .i64 (0 : Int)), (.int .u64 (0 : Int)), (.int .i64 (0 : Int)), (.bool false)]) (cs' := #[(.string y1.1.1), (.string y1.1.2.1), (.int .i64 y1.2.1), (.int .u64 y1.2.2.1), (.int .i64 y1.2.2.2.1), (.bool y1.2.2.2.2.1)]) rfl rfl (by kernel_rfl) (by kernel_rfl) hk1 (by kernel_rfl) (by kernel_rfl)) rfl rfl ?_; clear hf fa; rintro fa _ w5 ⟨hk2, hg1⟩ hf
        replace hb := hb.trans (grown_below hg1 hb.size hBb1)
        apply wpList_nil
        (try simp only [Exit.then, Exit.inBlock, ↓reduceIte, Nat.reduceEqDiff])
        refine hK8 _ _ ?_
        refine wp_seq_k (fun K9 hK9 => ?_)
        refine wp_region_lit ?_
        refine sqv hf (r_move rfl) rfl rfl rfl ?_; clear hf fa; intro fa hf
        refine sqv hf (r_fa rfl Try.underlying132 (f := 3) (q := 4) rfl (by kernel_rfl) rfl) rfl rfl rfl ?_; clear hf fa; intro fa hf
        refine sqn hf (d_storeK (T := 132) (v := (.int .i64 j)) (cs := #[(.string y1.1.1), (.string y1.1.2.1), (.int .i64 y1.2.1), (.int .u64 y1.2.2.1), (.int .i64 y1.2.2.2.1), (.bool y1.2.2.2.2.1)]) (cs' := #[(.string y1.1.1), (.string y1.1.2.1), (.int .i64 y1.2.1), (.int .u64 y1.2.2.1), (.int .i64 j), (.bool y1.2.2.2.2.1)]) rfl rfl (by kernel_rfl) (by kernel_rfl) hk2 (by kernel_rfl) (by kernel_rfl)) rfl rfl ?_; clear hf fa; rintro fa _ w6 ⟨hk3, hg2⟩ hf
        replace hb := hb.trans (grown_below hg2 hb.size hBb1)
        apply wpList_nil
        (try simp only [Exit.then, Exit.inBlock, ↓reduceIte, Nat.reduceEqDiff])
        refine hK9 _ _ ?_
        refine wp_seq_k (fun K10 hK10 => ?_)
        refine wp_region_lit ?_
        refine sqv hf (r_move rfl) rfl rfl rfl ?_; clear hf fa; intro fa hf
        refine sqv hf (r_move rfl) rfl rfl rfl ?_; clear hf fa; intro fa hf
        refine sqv hf (r_loadA (cs := [(.string y1.1.1), (.string y1.1.2.1), (.int .i64 y1.2.1), (.int .u64 y1.2.2.1), (.int .i64 j), (.bool y1.2.2.2.2.1)]) rfl Try.underlying132 rfl (by kernel_rfl) (cellsAt_blk hk3)) rfl rfl rfl ?_; clear hf fa; intro fa hf
        refine sqdt hf (d_callX (vs := [(.slice a R.length c), (.int .i64 i), (.agg #[(.string y1.1.1), (.string y1.1.2.1), (.int .i64 y1.2.1), (.int .u64 y1.2.2.1), (.int .i64 j), (.bool y1.2.2.2.2.1)])]) rfl Try.func69 (by kernel_rfl) (by kernel_rfl) (rset_any a R c _ (RdS.ext hl hb) hlc hcc hcn i ((y1.1, y1.2.1, y1.2.2.1, j, y1.2.2.2.2.1, ()) : MRf) (by omega))) rfl rfl rfl ?_; clear hf fa; rintro fa v w7 ⟨hr1, he5⟩ hf; obtain ⟨ra1, rc1, rfl, hcrc1, hmrc1⟩ := Row.slice hr1
        replace hr1 := Row.rebase hr1 hb.size
        replace hk3 := blk_ext hk3 he5
        replace hb := hb.trans (Below.mono he5 hb.size)
        refine sqv hf (r_assign rfl) rfl rfl rfl ?_; clear hf fa; intro fa hf
        refine sqv hf (r_assign rfl) rfl rfl rfl ?_; clear hf fa; intro fa hf
        apply wpList_nil
        (try simp only [Exit.then, Exit.inBlock, ↓reduceIte, Nat.reduceEqDiff])
        refine hK10 _ _ ?_
        refine wp_ret ?_
        (try simp only [Exit.then, Exit.inBlock])
        refine ret2 hf rfl rfl rfl ?_
        have hn : (R.getD i.toNat zMRf).1 = (R.getD j.toNat zMRf).1 := by rw [hd1, hd2]; have h := hqt30_1; simp at h; exact Prod.ext h.1 (Prod.ext h.2 rfl)
        have hD : rswP R i j = ((R.set i.toNat ((y1.1, y1.2.1, y1.2.2.1, j, y1.2.2.2.2.1, ()) : MRf)), 0) := by unfold rswP; rw [if_pos hlb, if_pos hn, hd1]
        rw [hD]; exact ⟨_, rfl, hr1.rebase hBw, hb⟩

def rwC (R : List MRf) (o : Int) (t : Bool) (k : Nat) : Bool := (R.getD k zMRf).2.2.2.2.1 && (if t = true then decide ((R.getD k zMRf).2.2.2.1 ≠ ((k : Nat) : Int)) else decide ((R.getD k zMRf).2.1 = o))
def rwF (R : List MRf) (o : Int) (t : Bool) : Nat → List Int
  | 0 => []
  | k + 1 => rwF R o t k ++ (if rwC R o t k = true then [((k : Nat) : Int)] else [])
theorem rwF_yes {R : List MRf} {o : Int} {t : Bool} {k : Nat} (h : rwC R o t k = true) : rwF R o t k ++ [((k : Nat) : Int)] = rwF R o t (k + 1) := by rw [rwF, if_pos h]
theorem rwF_no {R : List MRf} {o : Int} {t : Bool} {k : Nat} (h : rwC R o t k = false) : rwF R o t k = rwF R o t (k + 1) := by rw [rwF, if_neg (by rw [h]; decide), List.append_nil]
theorem rwF_len (R : List MRf) (o : Int) (t : Bool) : ∀ k, (rwF R o t k).length ≤ k
  | 0 => Nat.le_refl _
  | k + 1 => by
    have := rwF_len R o t k
    rw [rwF, List.length_append]
    split
    · rw [List.length_singleton]; omega
    · rw [List.length_nil]; omega

set_option maxHeartbeats 1000000 in
set_option maxRecDepth 100000 in
theorem which_true (a : Option Addr) (R : List MRf) (c : Nat) (w : World) (hl : RdS 6 vMRf w a R) (hlc : R.length ≤ 1000) (hcc : R.length ≤ c ∧ c ≤ 9223372036854775807) (hcn : a = none → c = 0) (o : Int) : Calls Try.prog 41 #[(.slice a R.length c), (.int .i64 o), (.bool true)] w fun e w' => ∃ v, e = .returned v ∧ Row 1 (vInt .i64) 3 w.heap.size w' v (rwF R o true R.length) ∧ Below w.heap.size w w' := by
  have h00 : (rwF R o true 0).length = 0 := rfl
  refine sx_enter (L := [(0, (.slice a R.length c)), (1, (.int .i64 o)), (2, (.bool true))]) Try.func41 rfl rfl rfl rfl (fun fa hf => ?_)
  have hb : Below w.heap.size w w := Below.refl _ _
  refine wp_seq_k (fun K1 hK1 => ?_)
  refine wp_region_lit ?_
  refine sqv hf (r_assign rfl) rfl rfl rfl ?_; clear hf fa; intro fa hf
  apply wpList_nil
  (try simp only [Exit.then, Exit.inBlock, ↓reduceIte, Nat.reduceEqDiff])
  refine hK1 _ _ ?_
  refine wp_seq_k (fun K2 hK2 => ?_)
  refine wp_region_lit ?_
  refine sqv hf (r_assign rfl) rfl rfl rfl ?_; clear hf fa; intro fa hf
  apply wpList_nil
  (try simp only [Exit.then, Exit.inBlock, ↓reduceIte, Nat.reduceEqDiff])
  refine hK2 _ _ ?_
  refine wp_seq_k (fun K3 hK3 => ?_)
  refine wp_seq_k (fun K4 hK4 => ?_)
  refine wp_region_lit ?_
  refine sqv hf (r_assign rfl) rfl rfl rfl ?_; clear hf fa; intro fa hf
  apply wpList_nil
  (try simp only [Exit.then, Exit.inBlock, ↓reduceIte, Nat.reduceEqDiff])
  refine hK4 _ _ ?_
  refine wp_block ?_
  refine wp_loop_k (fun mq fa wr => ∃ (k : Nat) (roa : Option Addr) (roc : Nat), mq = R.length - k ∧ Fr 50 fa [(0, (.slice a R.length c)), (1, (.int .i64 o)), (2, (.bool true)), (8, (.int .i64 ((k : Nat) : Int))), (7, (.slice roa (((rwF R o true k)).length) roc))] ∧ Below w.heap.size w wr ∧ Row 1 (vInt .i64) 3 (w.heap.size) wr (.slice roa (((rwF R o true k)).length) roc) (rwF R o true k) ∧ (k ≤ R.length)) ?_ ?_
  · skip
    exact ⟨_, 0, none, 0, rfl, hf.sub ⟨rfl, rfl, rfl, (some_int (by first | rfl | omega)), (some_sl (by first | omega | (simp only [List.length_append, List.length_cons, List.length_nil]; omega) | (simp <;> omega)) rfl), trivial⟩, hb, Row.nil, by omega⟩
  · skip
    clear hf fa; intro mq1 fa w1 hI KL1 hKL1
    clear hb
    obtain ⟨k, roa, roc, hmq1, hf, hb, hro, hk⟩ := hI
    have hcro := Row.caps hro
    have hrl := rwF_len R o true k
    refine wp_seq_k (fun K5 hK5 => ?_)
    refine wp_seq_k (fun K6 hK6 => ?_)
    refine wp_region_lit ?_
    refine sqv hf (r_move rfl) rfl rfl rfl ?_; clear hf fa; intro fa hf
    refine sqv hf (r_move rfl) rfl rfl rfl ?_; clear hf fa; intro fa hf
    refine sqv hf (r_lensl rfl Try.underlying76) rfl rfl rfl ?_; clear hf fa; intro fa hf
    refine sqv hf (r_lt rfl rfl) rfl rfl rfl ?_; clear hf fa; intro fa hf
    apply wpList_nil
    (try simp only [Exit.then, Exit.inBlock, ↓reduceIte, Nat.reduceEqDiff])
    refine hK6 _ _ ?_
    refine wp_cond_split (t := (decide (((k : Nat) : Int) < ((R.length : Nat) : Int)))) (hf.ev rfl) (fun hqt12_1 => ?_) (fun hqt12_1 => ?_)
    · have hqt12_1b := hqt12_1
      try simp only [decide_eq_true_eq, Bool.and_eq_true, Bool.or_eq_true, Bool.not_eq_true', decide_eq_false_iff_not, ne_eq, Bool.not_eq_true] at hqt12_1
      refine wp_skip ?_
      (try simp only [Exit.then, Exit.inBlock, ↓reduceIte, Nat.reduceEqDiff])
      refine hK5 _ _ ?_
      refine wp_seq_k (fun K7 hK7 => ?_)
      refine wp_block ?_
      refine wp_seq_k (fun K8 hK8 => ?_)
      obtain ⟨y, hy⟩ : ∃ x, R[k]? = some x := ⟨_, List.getElem?_eq_getElem (by omega)⟩
      have hd : R.getD k zMRf = y := by rw [List.getD_eq_getElem?_getD, hy]; rfl
      by_cases hsp1 : (R.getD k zMRf).2.2.2.2.1 = true
      · have hsp1b : decide ((R.getD k zMRf).2.2.2.2.1 = true) = true := decide_eq_true hsp1
        obtain ⟨y, hy⟩ : ∃ x, R[k]? = some x := ⟨_, List.getElem?_eq_getElem (by omega)⟩
        have hd : R.getD k zMRf = y := by rw [List.getD_eq_getElem?_getD, hy]; rfl
        refine wp_region_lit ?_
        refine sqv hf (r_move rfl) rfl rfl rfl ?_; clear hf fa; intro fa hf
        refine sqv hf (r_move rfl) rfl rfl rfl ?_; clear hf fa; intro fa hf
        have hy1 : (R)[k]? = some y := hy
        obtain ⟨ab1, aoff1, hat1, hlb1, hel1⟩ := RdS.at hl hy1
        refine sqv hf (r_ixa (sz := 6) (j := k) (evAt rfl hat1) rfl Try.underlying76 (by kernel_rfl) rfl (by omega) rfl) rfl rfl rfl ?_; clear hf fa; intro fa hf
        refine sqv hf (r_fa rfl Try.underlying132 (f := 4) (q := ((aoff1 + k * 6) + 5)) rfl (by kernel_rfl) rfl) rfl rfl rfl ?_; clear hf fa; intro fa hf
        refine sqv hf (Runs.veq (r_load (v := (.bool y.2.2.2.2.1)) rfl Try.underlying4 rfl (cellsAt_cell (cellsAt_below hel1 hb hlb1) (i := 5) rfl rfl)) (congrArg Value.bool (show _ = true from (by rw [← hd]; exact hsp1)))) rfl rfl rfl ?_; clear hf fa; intro fa hf
        refine sqv hf (r_move rfl) rfl rfl rfl ?_; clear hf fa; intro fa hf
        refine sqgd (act := true) (g := 5) (want := true) (ag := true) (c := true) hf (by rfl) (by rfl) rfl (fun _ =>  Runs.does (R := fun vq wq => vq = (.bool true) ∧ w1 = wq) (r_move rfl) ⟨rfl, rfl⟩) (fun h => by cases h) rfl ?_; clear hf fa; rintro fa _ _ ⟨rfl, rfl⟩ hf
        change Fr _ _ ((21, (.bool true)) :: _) at hf
        refine sqgd (act := true) (g := 5) (want := true) (ag := true) (c := true) hf (by rfl) (by rfl) rfl (fun _ =>  Runs.does (R := fun vq wq => vq = (.bool true) ∧ w1 = wq) (r_move rfl) ⟨rfl, rfl⟩) (fun h => by cases h) rfl ?_; clear hf fa; rintro fa _ _ ⟨rfl, rfl⟩ hf
        change Fr _ _ ((22, (.bool true)) :: _) at hf
        refine sqgd (act := true) (g := 7) (want := true) (ag := true) (c := true) hf (by rfl) (by rfl) rfl (fun _ =>  Runs.does (R := fun vq wq => vq = (.slice a R.length c) ∧ w1 = wq) (r_move rfl) ⟨rfl, rfl⟩) (fun h => by cases h) rfl ?_; clear hf fa; rintro fa _ _ ⟨rfl, rfl⟩ hf
        change Fr _ _ ((23, (.slice a R.length c)) :: _) at hf
        refine sqgd (act := true) (g := 7) (want := true) (ag := true) (c := true) hf (by rfl) (by rfl) rfl (fun _ =>  Runs.does (R := fun vq wq => vq = (.int .i64 ((k : Nat) : Int)) ∧ w1 = wq) (r_move rfl) ⟨rfl, rfl⟩) (fun h => by cases h) rfl ?_; clear hf fa; rintro fa _ _ ⟨rfl, rfl⟩ hf
        change Fr _ _ ((24, (.int .i64 ((k : Nat) : Int))) :: _) at hf
        refine sqgd (act := true) (g := 7) (want := true) (ag := true) (c := true) hf (by rfl) (by rfl) rfl (fun _ =>  Runs.does (R := fun vq wq => vq = (.pointer (some ⟨ab1, (aoff1 + k * 6), none⟩)) ∧ w1 = wq) (r_ixa (sz := 6) (j := k) (evAt rfl hat1) rfl Try.underlying76 (by kernel_rfl) rfl (by omega) rfl) ⟨rfl, rfl⟩) (fun h => by cases h) rfl ?_; clear hf fa; rintro fa _ _ ⟨rfl, rfl⟩ hf
        change Fr _ _ ((25, (.pointer (some ⟨ab1, (aoff1 + k * 6), none⟩))) :: _) at hf
        refine sqgd (act := true) (g := 7) (want := true) (ag := true) (c := true) hf (by rfl) (by rfl) rfl (fun _ =>  Runs.does (R := fun vq wq => vq = (.pointer (some ⟨ab1, ((aoff1 + k * 6) + 4), none⟩)) ∧ w1 = wq) (r_fa rfl Try.underlying132 (f := 3) (q := ((aoff1 + k * 6) + 4)) rfl (by kernel_rfl) rfl) ⟨rfl, rfl⟩) (fun h => by cases h) rfl ?_; clear hf fa; rintro fa _ _ ⟨rfl, rfl⟩ hf
        change Fr _ _ ((26, (.pointer (some ⟨ab1, ((aoff1 + k * 6) + 4), none⟩))) :: _) at hf
        refine sqgd (act := true) (g := 7) (want := true) (ag := true) (c := true) hf (by rfl) (by rfl) rfl (fun _ =>  Runs.does (R := fun vq wq => vq = (.int .i64 y.2.2.2.1) ∧ w1 = wq) (r_load (v := (.int .i64 y.2.2.2.1)) rfl Try.underlying3 rfl (cellsAt_cell (cellsAt_below hel1 hb hlb1) (i := 4) rfl rfl)) ⟨rfl, rfl⟩) (fun h => by cases h) rfl ?_; clear hf fa; rintro fa _ _ ⟨rfl, rfl⟩ hf
        change Fr _ _ ((27, (.int .i64 y.2.2.2.1)) :: _) at hf
        refine sqgd (act := true) (g := 7) (want := true) (ag := true) (c := true) hf (by rfl) (by rfl) rfl (fun _ =>  Runs.does (R := fun vq wq => vq = (.int .i64 ((k : Nat) : Int)) ∧ w1 = wq) (r_move rfl) ⟨rfl, rfl⟩) (fun h => by cases h) rfl ?_; clear hf fa; rintro fa _ _ ⟨rfl, rfl⟩ hf
        change Fr _ _ ((28, (.int .i64 ((k : Nat) : Int))) :: _) at hf
        refine sqgd (act := true) (g := 7) (want := true) (ag := true) (c := true) hf (by rfl) (by rfl) rfl (fun _ =>  Runs.does (R := fun vq wq => vq = (.bool (decide (y.2.2.2.1 ≠ ((k : Nat) : Int)))) ∧ w1 = wq) (r_ne rfl rfl) ⟨rfl, rfl⟩) (fun h => by cases h) rfl ?_; clear hf fa; rintro fa _ _ ⟨rfl, rfl⟩ hf
        change Fr _ _ ((29, (.bool (decide (y.2.2.2.1 ≠ ((k : Nat) : Int))))) :: _) at hf
        refine sqgd (act := true) (g := 5) (want := true) (ag := true) (c := true) hf (by rfl) (by rfl) rfl (fun _ =>  Runs.does (R := fun vq wq => vq = (.bool (decide (y.2.2.2.1 ≠ ((k : Nat) : Int)))) ∧ w1 = wq) (r_pick (b := true) rfl rfl rfl rfl) ⟨rfl, rfl⟩) (fun h => by cases h) rfl ?_; clear hf fa; rintro fa _ _ ⟨rfl, rfl⟩ hf
        change Fr _ _ ((30, (.bool (decide (y.2.2.2.1 ≠ ((k : Nat) : Int))))) :: _) at hf
        refine sqgd (act := true) (g := 5) (want := true) (ag := true) (c := true) hf (by rfl) (by rfl) rfl (fun _ =>  Runs.does (R := fun vq wq => vq = (.bool (decide (y.2.2.2.1 ≠ ((k : Nat) : Int)))) ∧ w1 = wq) (r_move rfl) ⟨rfl, rfl⟩) (fun h => by cases h) rfl ?_; clear hf fa; rintro fa _ _ ⟨rfl, rfl⟩ hf
        change Fr _ _ ((31, (.bool (decide (y.2.2.2.1 ≠ ((k : Nat) : Int))))) :: _) at hf
        refine sqgF (act := (!(decide (y.2.2.2.1 ≠ ((k : Nat) : Int))))) (ag := true) (c := (decide (y.2.2.2.1 ≠ ((k : Nat) : Int)))) (v := (.bool true)) hf rfl rfl rfl (fun hact => (r_move rfl)) rfl rfl ?_; clear hf fa; intro fa hf
        refine sqgF (act := (!(decide (y.2.2.2.1 ≠ ((k : Nat) : Int))))) (ag := true) (c := (decide (y.2.2.2.1 ≠ ((k : Nat) : Int)))) (v := (.bool false)) hf rfl rfl rfl (fun hact => (Runs.veq (v' := (.bool false)) (r_not (gb_ev hact rfl)) rfl)) rfl rfl ?_; clear hf fa; intro fa hf
        refine sqgF (act := (!(decide (y.2.2.2.1 ≠ ((k : Nat) : Int))))) (ag := true) (c := (decide (y.2.2.2.1 ≠ ((k : Nat) : Int)))) (v := (.bool false)) hf rfl rfl rfl (fun hact => (r_move (gb_ev hact rfl))) rfl rfl ?_; clear hf fa; intro fa hf
        refine sqgT (act := ((!(decide (y.2.2.2.1 ≠ ((k : Nat) : Int)))) && false)) (ag := (!(decide (y.2.2.2.1 ≠ ((k : Nat) : Int))))) (c := false) (v := (.slice a R.length c)) hf rfl rfl rfl (fun hact => (r_move rfl)) rfl rfl ?_; clear hf fa; intro fa hf
        refine sqgT (act := ((!(decide (y.2.2.2.1 ≠ ((k : Nat) : Int)))) && false)) (ag := (!(decide (y.2.2.2.1 ≠ ((k : Nat) : Int))))) (c := false) (v := (.int .i64 ((k : Nat) : Int))) hf rfl rfl rfl (fun hact => (r_move rfl)) rfl rfl ?_; clear hf fa; intro fa hf
        refine sqgT (act := ((!(decide (y.2.2.2.1 ≠ ((k : Nat) : Int)))) && false)) (ag := (!(decide (y.2.2.2.1 ≠ ((k : Nat) : Int))))) (c := false) (v := (.pointer (some ⟨ab1, (aoff1 + k * 6), none⟩))) hf rfl rfl rfl (fun hact => (by have hact0 := hact; (try simp only [Bool.and_eq_true, Bool.not_eq_true', Bool.or_eq_false_iff, Bool.or_eq_true, Bool.and_eq_false_iff, ne_eq, decide_eq_true_eq, decide_eq_false_iff_not] at hact0); exact (r_ixa (sz := 6) (j := k) (evAt (gb_ev hact rfl) hat1) (gb_ev hact rfl) Try.underlying76 (by kernel_rfl) rfl (by omega) rfl))) rfl rfl ?_; clear hf fa; intro fa hf
        refine sqgT (act := ((!(decide (y.2.2.2.1 ≠ ((k : Nat) : Int)))) && false)) (ag := (!(decide (y.2.2.2.1 ≠ ((k : Nat) : Int))))) (c := false) (v := (.pointer (some ⟨ab1, ((aoff1 + k * 6) + 2), none⟩))) hf rfl rfl rfl (fun hact => (r_fa (gb_ev hact rfl) Try.underlying132 (f := 1) (q := ((aoff1 + k * 6) + 2)) rfl (by kernel_rfl) rfl)) rfl rfl ?_; clear hf fa; intro fa hf
        refine sqgT (act := ((!(decide (y.2.2.2.1 ≠ ((k : Nat) : Int)))) && false)) (ag := (!(decide (y.2.2.2.1 ≠ ((k : Nat) : Int))))) (c := false) (v := (.int .i64 y.2.1)) hf rfl rfl rfl (fun hact => (r_load (v := (.int .i64 y.2.1)) (gb_ev hact rfl) Try.underlying3 rfl (cellsAt_cell (cellsAt_below hel1 hb hlb1) (i := 2) rfl rfl))) rfl rfl ?_; clear hf fa; intro fa hf
        refine sqgT (act := ((!(decide (y.2.2.2.1 ≠ ((k : Nat) : Int)))) && false)) (ag := (!(decide (y.2.2.2.1 ≠ ((k : Nat) : Int))))) (c := false) (v := (.int .i64 o)) hf rfl rfl rfl (fun hact => (r_move rfl)) rfl rfl ?_; clear hf fa; intro fa hf
        refine sqgT (act := ((!(decide (y.2.2.2.1 ≠ ((k : Nat) : Int)))) && false)) (ag := (!(decide (y.2.2.2.1 ≠ ((k : Nat) : Int))))) (c := false) (v := (.bool (decide (y.2.1 = o)))) hf rfl rfl rfl (fun hact => (r_eq (gb_ev hact rfl) (gb_ev hact rfl))) rfl rfl ?_; clear hf fa; intro fa hf
        refine sqgF (act := (!(decide (y.2.2.2.1 ≠ ((k : Nat) : Int))))) (ag := true) (c := (decide (y.2.2.2.1 ≠ ((k : Nat) : Int)))) (v := (.bool false)) hf rfl rfl rfl (fun hact => (r_pick (b := false) (gb_ev hact rfl) rfl rfl rfl)) rfl rfl ?_; clear hf fa; intro fa hf
        refine sqgd (act := true) (g := 5) (want := true) (ag := true) (c := true) hf (by rfl) (by rfl) rfl (fun _ =>  Runs.does (R := fun vq wq => vq = (.bool ((decide (y.2.2.2.1 ≠ ((k : Nat) : Int))) || false)) ∧ w1 = wq) (r_pickO (b := (decide (y.2.2.2.1 ≠ ((k : Nat) : Int)))) (e := false) rfl rfl rfl) ⟨rfl, rfl⟩) (fun h => by cases h) rfl ?_; clear hf fa; rintro fa _ _ ⟨rfl, rfl⟩ hf
        change Fr _ _ ((43, (.bool ((decide (y.2.2.2.1 ≠ ((k : Nat) : Int))) || false))) :: _) at hf
        refine sqv hf (r_pick (b := true) rfl rfl rfl rfl) rfl rfl rfl ?_; clear hf fa; intro fa hf
        apply wpList_nil
        (try simp only [Exit.then, Exit.inBlock, ↓reduceIte, Nat.reduceEqDiff])
        refine hK8 _ _ ?_
        refine wp_cond_split (t := ((decide (y.2.2.2.1 ≠ ((k : Nat) : Int))) || false)) (hf.ev rfl) (fun hqt44_1 => ?_) (fun hqt44_1 => ?_)
        · have hqt44_1b := hqt44_1
          try simp only [decide_eq_true_eq, Bool.and_eq_true, Bool.or_eq_true, Bool.not_eq_true', decide_eq_false_iff_not, ne_eq, Bool.not_eq_true] at hqt44_1
          refine wp_region_lit ?_
          refine sqv hf (r_move rfl) rfl rfl rfl ?_; clear hf fa; intro fa hf
          refine sqv hf (r_move rfl) rfl rfl rfl ?_; clear hf fa; intro fa hf
          refine sqdt hf (d_bslice (z := (.int .i64 (0 : Int))) (sz := 1) (vs := [(0, (.int .i64 ((k : Nat) : Int)))]) (cs := #[(.int .i64 ((k : Nat) : Int))]) rfl Try.underlying33 (by kernel_rfl) rfl (by kernel_rfl)) rfl rfl rfl ?_; clear hf fa; rintro fa _ w2 ⟨b1, rfl, hle1, hk1, he1⟩ hf
          have hBb1 : w.heap.size ≤ b1 := Nat.le_trans hb.size hle1
          have hnr1 : (Value.slice roa ((((rwF R o true k)).length)) roc).ownBlock ≠ some b1 := fun hq => by have := (Row.lt hro _ hq).2; omega
          have hnl1 : ∀ q, (Value.slice roa ((((rwF R o true k)).length)) roc).ownBlock = some q → q < b1 := fun q hq => Nat.lt_of_lt_of_le (Row.lt hro q hq).2 hle1
          replace hro := Row.ext hro he1
          replace hb := hb.trans (Below.mono he1 hb.size)
          have hs1 := Row.rd (by intros; rfl) (Row.of_new (k := 1) (V := (vInt .i64)) (l := [((k : Nat) : Int)]) hk1 (Nat.le_refl _) rfl rfl (Nat.le_of_ble_eq_true rfl))
          refine sqdt hf (d_append (V := (vInt .i64)) (k := 1) (e := 3) (bytes := 8) (z := (.int .i64 (0 : Int))) (news := [((k : Nat) : Int)]) (base := w.heap.size) (by intros; rfl) (by intro x u hu; simp only [vInt, List.mem_singleton] at hu; subst hu; rfl) rfl rfl Try.underlying33 (by kernel_rfl) rfl rfl rfl hro hs1 rfl (fun h => by cases h) (by first | omega | (simp only [List.length_cons, List.length_nil, List.length_append, nums_len]; omega)) (by have := hb.size; omega)) rfl rfl rfl ?_; clear hf fa; rintro fa v w3 ⟨hr1, hg1⟩ hf; obtain ⟨ra1, rc1, rfl, hcrc1, hmrc1⟩ := Row.slice hr1
          replace hb := hb.trans (row_below hro hg1 hb.size (by have := hb.size; omega))
          refine sqv hf (r_assign rfl) rfl rfl rfl ?_; clear hf fa; intro fa hf
          apply wpList_nil
          (try simp only [Exit.then, Exit.inBlock, ↓reduceIte, Nat.reduceEqDiff])
          refine hK7 _ _ ?_
          refine wp_region_lit ?_
          refine sqv hf (r_move rfl) rfl rfl rfl ?_; clear hf fa; intro fa hf
          refine sqv hf (r_add (C := (((k : Nat) : Int) + (1 : Int))) rfl rfl (by rw [IntKind.wrap_i64]; omega)) rfl rfl rfl ?_; clear hf fa; intro fa hf
          refine sqv hf (r_assign rfl) rfl rfl rfl ?_; clear hf fa; intro fa hf
          apply wpList_nil
          (try simp only [Exit.then, Exit.inBlock, ↓reduceIte, Nat.reduceEqDiff])
          have hst := rwF_yes (R := R) (o := o) (t := true) (k := k) (by unfold rwC; rw [hsp1, hd]; have h := hqt44_1; simpa using h)
          have hbl := congrArg List.length hst
          refine hKL1 _ _ _ (by omega) ⟨(k + 1), ra1, rc1, rfl, hf.sub ⟨rfl, rfl, rfl, (some_int (by first | rfl | omega)), (some_sl (by first | omega | (simp only [List.length_append, List.length_cons, List.length_nil]; omega) | (simp <;> omega)) rfl), trivial⟩, hb, (crowTo hr1 hst), by omega⟩
        · have hqt44_1b := hqt44_1
          replace hqt44_1 := Bool.eq_false_iff.1 hqt44_1
          try simp only [ne_eq, decide_eq_true_eq, Bool.and_eq_true, Bool.or_eq_true, Bool.not_eq_true', decide_eq_false_iff_not] at hqt44_1
          refine wp_skip ?_
          (try simp only [Exit.then, Exit.inBlock, ↓reduceIte, Nat.reduceEqDiff])
          refine hK7 _ _ ?_
          refine wp_region_lit ?_
          refine sqv hf (r_move rfl) rfl rfl rfl ?_; clear hf fa; intro fa hf
          refine sqv hf (r_add (C := (((k : Nat) : Int) + (1 : Int))) rfl rfl (by rw [IntKind.wrap_i64]; omega)) rfl rfl rfl ?_; clear hf fa; intro fa hf
          refine sqv hf (r_assign rfl) rfl rfl rfl ?_; clear hf fa; intro fa hf
          apply wpList_nil
          (try simp only [Exit.then, Exit.inBlock, ↓reduceIte, Nat.reduceEqDiff])
          have hst := rwF_no (R := R) (o := o) (t := true) (k := k) (by unfold rwC; rw [hsp1, hd]; have h := hqt44_1; simpa using h)
          have hbl := congrArg List.length hst
          refine hKL1 _ _ _ (by omega) ⟨(k + 1), roa, roc, rfl, hf.sub ⟨rfl, rfl, rfl, (some_int (by first | rfl | omega)), (some_sl (by first | omega | (simp only [List.length_append, List.length_cons, List.length_nil]; omega) | (simp <;> omega)) rfl), trivial⟩, hb, (crowTo hro hst), by omega⟩
      · have hsp1b : decide ((R.getD k zMRf).2.2.2.2.1 = true) = false := decide_eq_false hsp1
        obtain ⟨y, hy⟩ : ∃ x, R[k]? = some x := ⟨_, List.getElem?_eq_getElem (by omega)⟩
        have hd : R.getD k zMRf = y := by rw [List.getD_eq_getElem?_getD, hy]; rfl
        refine wp_region_lit ?_
        refine sqv hf (r_move rfl) rfl rfl rfl ?_; clear hf fa; intro fa hf
        refine sqv hf (r_move rfl) rfl rfl rfl ?_; clear hf fa; intro fa hf
        have hy2 : (R)[k]? = some y := hy
        obtain ⟨ab2, aoff2, hat2, hlb2, hel2⟩ := RdS.at hl hy2
        refine sqv hf (r_ixa (sz := 6) (j := k) (evAt rfl hat2) rfl Try.underlying76 (by kernel_rfl) rfl (by omega) rfl) rfl rfl rfl ?_; clear hf fa; intro fa hf
        refine sqv hf (r_fa rfl Try.underlying132 (f := 4) (q := ((aoff2 + k * 6) + 5)) rfl (by kernel_rfl) rfl) rfl rfl rfl ?_; clear hf fa; intro fa hf
        refine sqv hf (Runs.veq (r_load (v := (.bool y.2.2.2.2.1)) rfl Try.underlying4 rfl (cellsAt_cell (cellsAt_below hel2 hb hlb2) (i := 5) rfl rfl)) (congrArg Value.bool (show _ = false from (by rw [← hd]; exact Bool.eq_false_iff.2 hsp1)))) rfl rfl rfl ?_; clear hf fa; intro fa hf
        refine sqv hf (r_move rfl) rfl rfl rfl ?_; clear hf fa; intro fa hf
        refine sqgT (act := false) (ag := true) (c := false) (v := .bool false) hf rfl rfl rfl (fun hact => by cases hact) rfl rfl ?_; clear hf fa; intro fa hf
        refine sqgT (act := false) (ag := true) (c := false) (v := .bool false) hf rfl rfl rfl (fun hact => by cases hact) rfl rfl ?_; clear hf fa; intro fa hf
        refine sqgT (act := false) (ag := false) (c := false) (v := .bool false) hf rfl rfl rfl (fun hact => by cases hact) rfl rfl ?_; clear hf fa; intro fa hf
        refine sqgT (act := false) (ag := false) (c := false) (v := .bool false) hf rfl rfl rfl (fun hact => by cases hact) rfl rfl ?_; clear hf fa; intro fa hf
        refine sqgT (act := false) (ag := false) (c := false) (v := .bool false) hf rfl rfl rfl (fun hact => by cases hact) rfl rfl ?_; clear hf fa; intro fa hf
        refine sqgT (act := false) (ag := false) (c := false) (v := .bool false) hf rfl rfl rfl (fun hact => by cases hact) rfl rfl ?_; clear hf fa; intro fa hf
        refine sqgT (act := false) (ag := false) (c := false) (v := .bool false) hf rfl rfl rfl (fun hact => by cases hact) rfl rfl ?_; clear hf fa; intro fa hf
        refine sqgT (act := false) (ag := false) (c := false) (v := .bool false) hf rfl rfl rfl (fun hact => by cases hact) rfl rfl ?_; clear hf fa; intro fa hf
        refine sqgT (act := false) (ag := false) (c := false) (v := .bool false) hf rfl rfl rfl (fun hact => by cases hact) rfl rfl ?_; clear hf fa; intro fa hf
        refine sqgT (act := false) (ag := true) (c := false) (v := .bool false) hf rfl rfl rfl (fun hact => by cases hact) rfl rfl ?_; clear hf fa; intro fa hf
        refine sqgT (act := false) (ag := true) (c := false) (v := .bool false) hf rfl rfl rfl (fun hact => by cases hact) rfl rfl ?_; clear hf fa; intro fa hf
        refine sqgF (act := false) (ag := false) (c := false) (v := .bool false) hf rfl rfl rfl (fun hact => by cases hact) rfl rfl ?_; clear hf fa; intro fa hf
        refine sqgF (act := false) (ag := false) (c := false) (v := .bool false) hf rfl rfl rfl (fun hact => by cases hact) rfl rfl ?_; clear hf fa; intro fa hf
        refine sqgF (act := false) (ag := false) (c := false) (v := .bool false) hf rfl rfl rfl (fun hact => by cases hact) rfl rfl ?_; clear hf fa; intro fa hf
        refine sqgT (act := false) (ag := false) (c := false) (v := .bool false) hf rfl rfl rfl (fun hact => by cases hact) rfl rfl ?_; clear hf fa; intro fa hf
        refine sqgT (act := false) (ag := false) (c := false) (v := .bool false) hf rfl rfl rfl (fun hact => by cases hact) rfl rfl ?_; clear hf fa; intro fa hf
        refine sqgT (act := false) (ag := false) (c := false) (v := .bool false) hf rfl rfl rfl (fun hact => by cases hact) rfl rfl ?_; clear hf fa; intro fa hf
        refine sqgT (act := false) (ag := false) (c := false) (v := .bool false) hf rfl rfl rfl (fun hact => by cases hact) rfl rfl ?_; clear hf fa; intro fa hf
        refine sqgT (act := false) (ag := false) (c := false) (v := .bool false) hf rfl rfl rfl (fun hact => by cases hact) rfl rfl ?_; clear hf fa; intro fa hf
        refine sqgT (act := false) (ag := false) (c := false) (v := .bool false) hf rfl rfl rfl (fun hact => by cases hact) rfl rfl ?_; clear hf fa; intro fa hf
        refine sqgT (act := false) (ag := false) (c := false) (v := .bool false) hf rfl rfl rfl (fun hact => by cases hact) rfl rfl ?_; clear hf fa; intro fa hf
        refine sqgF (act := false) (ag := false) (c := false) (v := .bool false) hf rfl rfl rfl (fun hact => by cases hact) rfl rfl ?_; clear hf fa; intro fa hf
        refine sqgT (act := false) (ag := true) (c := false) (v := .bool false) hf rfl rfl rfl (fun hact => by cases hact) rfl rfl ?_; clear hf fa; intro fa hf
        refine sqv hf (r_pick (b := false) rfl rfl rfl rfl) rfl rfl rfl ?_; clear hf fa; intro fa hf
        apply wpList_nil
        (try simp only [Exit.then, Exit.inBlock, ↓reduceIte, Nat.reduceEqDiff])
        refine hK8 _ _ ?_
        refine wp_cond_false (hf.ev rfl) ?_
        refine wp_skip ?_
        (try simp only [Exit.then, Exit.inBlock, ↓reduceIte, Nat.reduceEqDiff])
        refine hK7 _ _ ?_
        refine wp_region_lit ?_
        refine sqv hf (r_move rfl) rfl rfl rfl ?_; clear hf fa; intro fa hf
        refine sqv hf (r_add (C := (((k : Nat) : Int) + (1 : Int))) rfl rfl (by rw [IntKind.wrap_i64]; omega)) rfl rfl rfl ?_; clear hf fa; intro fa hf
        refine sqv hf (r_assign rfl) rfl rfl rfl ?_; clear hf fa; intro fa hf
        apply wpList_nil
        (try simp only [Exit.then, Exit.inBlock, ↓reduceIte, Nat.reduceEqDiff])
        have hst := rwF_no (R := R) (o := o) (t := true) (k := k) (by unfold rwC; rw [show (R.getD k zMRf).2.2.2.2.1 = false from Bool.eq_false_iff.2 hsp1]; rfl)
        have hbl := congrArg List.length hst
        refine hKL1 _ _ _ (by omega) ⟨(k + 1), roa, roc, rfl, hf.sub ⟨rfl, rfl, rfl, (some_int (by first | rfl | omega)), (some_sl (by first | omega | (simp only [List.length_append, List.length_cons, List.length_nil]; omega) | (simp <;> omega)) rfl), trivial⟩, hb, (crowTo hro hst), by omega⟩
    · have hqt12_1b := hqt12_1
      replace hqt12_1 := Bool.eq_false_iff.1 hqt12_1
      try simp only [ne_eq, decide_eq_true_eq, Bool.and_eq_true, Bool.or_eq_true, Bool.not_eq_true', decide_eq_false_iff_not] at hqt12_1
      refine wp_exit ?_
      (try simp only [Exit.then, Exit.inBlock, ↓reduceIte, Nat.reduceEqDiff])
      refine hK3 _ _ ?_
      refine wp_seq_k (fun K9 hK9 => ?_)
      refine wp_region_lit ?_
      refine sqv hf (r_move rfl) rfl rfl rfl ?_; clear hf fa; intro fa hf
      refine sqv hf (r_assign rfl) rfl rfl rfl ?_; clear hf fa; intro fa hf
      apply wpList_nil
      (try simp only [Exit.then, Exit.inBlock, ↓reduceIte, Nat.reduceEqDiff])
      refine hK9 _ _ ?_
      refine wp_ret ?_
      (try simp only [Exit.then, Exit.inBlock])
      refine ret1 hf rfl rfl ?_
      have hkk : k = R.length := by omega
      exact ⟨_, rfl, by rw [← hkk]; exact hro, hb⟩

set_option maxHeartbeats 1000000 in
set_option maxRecDepth 100000 in
theorem which_false (a : Option Addr) (R : List MRf) (c : Nat) (w : World) (hl : RdS 6 vMRf w a R) (hlc : R.length ≤ 1000) (hcc : R.length ≤ c ∧ c ≤ 9223372036854775807) (hcn : a = none → c = 0) (o : Int) : Calls Try.prog 41 #[(.slice a R.length c), (.int .i64 o), (.bool false)] w fun e w' => ∃ v, e = .returned v ∧ Row 1 (vInt .i64) 3 w.heap.size w' v (rwF R o false R.length) ∧ Below w.heap.size w w' := by
  have h00 : (rwF R o false 0).length = 0 := rfl
  refine sx_enter (L := [(0, (.slice a R.length c)), (1, (.int .i64 o)), (2, (.bool false))]) Try.func41 rfl rfl rfl rfl (fun fa hf => ?_)
  have hb : Below w.heap.size w w := Below.refl _ _
  refine wp_seq_k (fun K1 hK1 => ?_)
  refine wp_region_lit ?_
  refine sqv hf (r_assign rfl) rfl rfl rfl ?_; clear hf fa; intro fa hf
  apply wpList_nil
  (try simp only [Exit.then, Exit.inBlock, ↓reduceIte, Nat.reduceEqDiff])
  refine hK1 _ _ ?_
  refine wp_seq_k (fun K2 hK2 => ?_)
  refine wp_region_lit ?_
  refine sqv hf (r_assign rfl) rfl rfl rfl ?_; clear hf fa; intro fa hf
  apply wpList_nil
  (try simp only [Exit.then, Exit.inBlock, ↓reduceIte, Nat.reduceEqDiff])
  refine hK2 _ _ ?_
  refine wp_seq_k (fun K3 hK3 => ?_)
  refine wp_seq_k (fun K4 hK4 => ?_)
  refine wp_region_lit ?_
  refine sqv hf (r_assign rfl) rfl rfl rfl ?_; clear hf fa; intro fa hf
  apply wpList_nil
  (try simp only [Exit.then, Exit.inBlock, ↓reduceIte, Nat.reduceEqDiff])
  refine hK4 _ _ ?_
  refine wp_block ?_
  refine wp_loop_k (fun mq fa wr => ∃ (k : Nat) (roa : Option Addr) (roc : Nat), mq = R.length - k ∧ Fr 50 fa [(0, (.slice a R.length c)), (1, (.int .i64 o)), (2, (.bool false)), (8, (.int .i64 ((k : Nat) : Int))), (7, (.slice roa (((rwF R o false k)).length) roc))] ∧ Below w.heap.size w wr ∧ Row 1 (vInt .i64) 3 (w.heap.size) wr (.slice roa (((rwF R o false k)).length) roc) (rwF R o false k) ∧ (k ≤ R.length)) ?_ ?_
  · skip
    exact ⟨_, 0, none, 0, rfl, hf.sub ⟨rfl, rfl, rfl, (some_int (by first | rfl | omega)), (some_sl (by first | omega | (simp only [List.length_append, List.length_cons, List.length_nil]; omega) | (simp <;> omega)) rfl), trivial⟩, hb, Row.nil, by omega⟩
  · skip
    clear hf fa; intro mq1 fa w1 hI KL1 hKL1
    clear hb
    obtain ⟨k, roa, roc, hmq1, hf, hb, hro, hk⟩ := hI
    have hcro := Row.caps hro
    have hrl := rwF_len R o false k
    refine wp_seq_k (fun K5 hK5 => ?_)
    refine wp_seq_k (fun K6 hK6 => ?_)
    refine wp_region_lit ?_
    refine sqv hf (r_move rfl) rfl rfl rfl ?_; clear hf fa; intro fa hf
    refine sqv hf (r_move rfl) rfl rfl rfl ?_; clear hf fa; intro fa hf
    refine sqv hf (r_lensl rfl Try.underlying76) rfl rfl rfl ?_; clear hf fa; intro fa hf
    refine sqv hf (r_lt rfl rfl) rfl rfl rfl ?_; clear hf fa; intro fa hf
    apply wpList_nil
    (try simp only [Exit.then, Exit.inBlock, ↓reduceIte, Nat.reduceEqDiff])
    refine hK6 _ _ ?_
    refine wp_cond_split (t := (decide (((k : Nat) : Int) < ((R.length : Nat) : Int)))) (hf.ev rfl) (fun hqt12_1 => ?_) (fun hqt12_1 => ?_)
    · have hqt12_1b := hqt12_1
      try simp only [decide_eq_true_eq, Bool.and_eq_true, Bool.or_eq_true, Bool.not_eq_true', decide_eq_false_iff_not, ne_eq, Bool.not_eq_true] at hqt12_1
      refine wp_skip ?_
      (try simp only [Exit.then, Exit.inBlock, ↓reduceIte, Nat.reduceEqDiff])
      refine hK5 _ _ ?_
      refine wp_seq_k (fun K7 hK7 => ?_)
      refine wp_block ?_
      refine wp_seq_k (fun K8 hK8 => ?_)
      obtain ⟨y, hy⟩ : ∃ x, R[k]? = some x := ⟨_, List.getElem?_eq_getElem (by omega)⟩
      have hd : R.getD k zMRf = y := by rw [List.getD_eq_getElem?_getD, hy]; rfl
      by_cases hsp1 : (R.getD k zMRf).2.2.2.2.1 = true
      · have hsp1b : decide ((R.getD k zMRf).2.2.2.2.1 = true) = true := decide_eq_true hsp1
        obtain ⟨y, hy⟩ : ∃ x, R[k]? = some x := ⟨_, List.getElem?_eq_getElem (by omega)⟩
        have hd : R.getD k zMRf = y := by rw [List.getD_eq_getElem?_getD, hy]; rfl
        refine wp_region_lit ?_
        refine sqv hf (r_move rfl) rfl rfl rfl ?_; clear hf fa; intro fa hf
        refine sqv hf (r_move rfl) rfl rfl rfl ?_; clear hf fa; intro fa hf
        have hy1 : (R)[k]? = some y := hy
        obtain ⟨ab1, aoff1, hat1, hlb1, hel1⟩ := RdS.at hl hy1
        refine sqv hf (r_ixa (sz := 6) (j := k) (evAt rfl hat1) rfl Try.underlying76 (by kernel_rfl) rfl (by omega) rfl) rfl rfl rfl ?_; clear hf fa; intro fa hf
        refine sqv hf (r_fa rfl Try.underlying132 (f := 4) (q := ((aoff1 + k * 6) + 5)) rfl (by kernel_rfl) rfl) rfl rfl rfl ?_; clear hf fa; intro fa hf
        refine sqv hf (Runs.veq (r_load (v := (.bool y.2.2.2.2.1)) rfl Try.underlying4 rfl (cellsAt_cell (cellsAt_below hel1 hb hlb1) (i := 5) rfl rfl)) (congrArg Value.bool (show _ = true from (by rw [← hd]; exact hsp1)))) rfl rfl rfl ?_; clear hf fa; intro fa hf
        refine sqv hf (r_move rfl) rfl rfl rfl ?_; clear hf fa; intro fa hf
        refine sqgd (act := true) (g := 5) (want := true) (ag := true) (c := true) hf (by rfl) (by rfl) rfl (fun _ =>  Runs.does (R := fun vq wq => vq = (.bool false) ∧ w1 = wq) (r_move rfl) ⟨rfl, rfl⟩) (fun h => by cases h) rfl ?_; clear hf fa; rintro fa _ _ ⟨rfl, rfl⟩ hf
        change Fr _ _ ((21, (.bool false)) :: _) at hf
        refine sqgd (act := true) (g := 5) (want := true) (ag := true) (c := true) hf (by rfl) (by rfl) rfl (fun _ =>  Runs.does (R := fun vq wq => vq = (.bool false) ∧ w1 = wq) (r_move rfl) ⟨rfl, rfl⟩) (fun h => by cases h) rfl ?_; clear hf fa; rintro fa _ _ ⟨rfl, rfl⟩ hf
        change Fr _ _ ((22, (.bool false)) :: _) at hf
        refine sqgT (act := false) (ag := true) (c := false) (v := .bool false) hf rfl rfl rfl (fun hact => by cases hact) rfl rfl ?_; clear hf fa; intro fa hf
        refine sqgT (act := false) (ag := true) (c := false) (v := .bool false) hf rfl rfl rfl (fun hact => by cases hact) rfl rfl ?_; clear hf fa; intro fa hf
        refine sqgT (act := false) (ag := true) (c := false) (v := .bool false) hf rfl rfl rfl (fun hact => by cases hact) rfl rfl ?_; clear hf fa; intro fa hf
        refine sqgT (act := false) (ag := true) (c := false) (v := .bool false) hf rfl rfl rfl (fun hact => by cases hact) rfl rfl ?_; clear hf fa; intro fa hf
        refine sqgT (act := false) (ag := true) (c := false) (v := .bool false) hf rfl rfl rfl (fun hact => by cases hact) rfl rfl ?_; clear hf fa; intro fa hf
        refine sqgT (act := false) (ag := true) (c := false) (v := .bool false) hf rfl rfl rfl (fun hact => by cases hact) rfl rfl ?_; clear hf fa; intro fa hf
        refine sqgT (act := false) (ag := true) (c := false) (v := .bool false) hf rfl rfl rfl (fun hact => by cases hact) rfl rfl ?_; clear hf fa; intro fa hf
        refine sqgd (act := true) (g := 5) (want := true) (ag := true) (c := true) hf (by rfl) (by rfl) rfl (fun _ =>  Runs.does (R := fun vq wq => vq = (.bool false) ∧ w1 = wq) (r_pick (b := false) rfl rfl rfl rfl) ⟨rfl, rfl⟩) (fun h => by cases h) rfl ?_; clear hf fa; rintro fa _ _ ⟨rfl, rfl⟩ hf
        change Fr _ _ ((30, (.bool false)) :: _) at hf
        refine sqgd (act := true) (g := 5) (want := true) (ag := true) (c := true) hf (by rfl) (by rfl) rfl (fun _ =>  Runs.does (R := fun vq wq => vq = (.bool false) ∧ w1 = wq) (r_move rfl) ⟨rfl, rfl⟩) (fun h => by cases h) rfl ?_; clear hf fa; rintro fa _ _ ⟨rfl, rfl⟩ hf
        change Fr _ _ ((31, (.bool false)) :: _) at hf
        refine sqgd (act := true) (g := 16) (want := false) (ag := true) (c := false) hf (by rfl) (by rfl) rfl (fun _ =>  Runs.does (R := fun vq wq => vq = (.bool false) ∧ w1 = wq) (r_move rfl) ⟨rfl, rfl⟩) (fun h => by cases h) rfl ?_; clear hf fa; rintro fa _ _ ⟨rfl, rfl⟩ hf
        change Fr _ _ ((32, (.bool false)) :: _) at hf
        refine sqgd (act := true) (g := 16) (want := false) (ag := true) (c := false) hf (by rfl) (by rfl) rfl (fun _ =>  Runs.does (R := fun vq wq => vq = (.bool true) ∧ w1 = wq) (Runs.veq (v' := (.bool true)) (r_not rfl) rfl) ⟨rfl, rfl⟩) (fun h => by cases h) rfl ?_; clear hf fa; rintro fa _ _ ⟨rfl, rfl⟩ hf
        change Fr _ _ ((33, (.bool true)) :: _) at hf
        refine sqgd (act := true) (g := 16) (want := false) (ag := true) (c := false) hf (by rfl) (by rfl) rfl (fun _ =>  Runs.does (R := fun vq wq => vq = (.bool true) ∧ w1 = wq) (r_move rfl) ⟨rfl, rfl⟩) (fun h => by cases h) rfl ?_; clear hf fa; rintro fa _ _ ⟨rfl, rfl⟩ hf
        change Fr _ _ ((34, (.bool true)) :: _) at hf
        refine sqgd (act := true) (g := 19) (want := true) (ag := true) (c := true) hf (by rfl) (by rfl) rfl (fun _ =>  Runs.does (R := fun vq wq => vq = (.slice a R.length c) ∧ w1 = wq) (r_move rfl) ⟨rfl, rfl⟩) (fun h => by cases h) rfl ?_; clear hf fa; rintro fa _ _ ⟨rfl, rfl⟩ hf
        change Fr _ _ ((35, (.slice a R.length c)) :: _) at hf
        refine sqgd (act := true) (g := 19) (want := true) (ag := true) (c := true) hf (by rfl) (by rfl) rfl (fun _ =>  Runs.does (R := fun vq wq => vq = (.int .i64 ((k : Nat) : Int)) ∧ w1 = wq) (r_move rfl) ⟨rfl, rfl⟩) (fun h => by cases h) rfl ?_; clear hf fa; rintro fa _ _ ⟨rfl, rfl⟩ hf
        change Fr _ _ ((36, (.int .i64 ((k : Nat) : Int))) :: _) at hf
        refine sqgd (act := true) (g := 19) (want := true) (ag := true) (c := true) hf (by rfl) (by rfl) rfl (fun _ =>  Runs.does (R := fun vq wq => vq = (.pointer (some ⟨ab1, (aoff1 + k * 6), none⟩)) ∧ w1 = wq) (r_ixa (sz := 6) (j := k) (evAt rfl hat1) rfl Try.underlying76 (by kernel_rfl) rfl (by omega) rfl) ⟨rfl, rfl⟩) (fun h => by cases h) rfl ?_; clear hf fa; rintro fa _ _ ⟨rfl, rfl⟩ hf
        change Fr _ _ ((37, (.pointer (some ⟨ab1, (aoff1 + k * 6), none⟩))) :: _) at hf
        refine sqgd (act := true) (g := 19) (want := true) (ag := true) (c := true) hf (by rfl) (by rfl) rfl (fun _ =>  Runs.does (R := fun vq wq => vq = (.pointer (some ⟨ab1, ((aoff1 + k * 6) + 2), none⟩)) ∧ w1 = wq) (r_fa rfl Try.underlying132 (f := 1) (q := ((aoff1 + k * 6) + 2)) rfl (by kernel_rfl) rfl) ⟨rfl, rfl⟩) (fun h => by cases h) rfl ?_; clear hf fa; rintro fa _ _ ⟨rfl, rfl⟩ hf
        change Fr _ _ ((38, (.pointer (some ⟨ab1, ((aoff1 + k * 6) + 2), none⟩))) :: _) at hf
        refine sqgd (act := true) (g := 19) (want := true) (ag := true) (c := true) hf (by rfl) (by rfl) rfl (fun _ =>  Runs.does (R := fun vq wq => vq = (.int .i64 y.2.1) ∧ w1 = wq) (r_load (v := (.int .i64 y.2.1)) rfl Try.underlying3 rfl (cellsAt_cell (cellsAt_below hel1 hb hlb1) (i := 2) rfl rfl)) ⟨rfl, rfl⟩) (fun h => by cases h) rfl ?_; clear hf fa; rintro fa _ _ ⟨rfl, rfl⟩ hf
        change Fr _ _ ((39, (.int .i64 y.2.1)) :: _) at hf
        refine sqgd (act := true) (g := 19) (want := true) (ag := true) (c := true) hf (by rfl) (by rfl) rfl (fun _ =>  Runs.does (R := fun vq wq => vq = (.int .i64 o) ∧ w1 = wq) (r_move rfl) ⟨rfl, rfl⟩) (fun h => by cases h) rfl ?_; clear hf fa; rintro fa _ _ ⟨rfl, rfl⟩ hf
        change Fr _ _ ((40, (.int .i64 o)) :: _) at hf
        refine sqgd (act := true) (g := 19) (want := true) (ag := true) (c := true) hf (by rfl) (by rfl) rfl (fun _ =>  Runs.does (R := fun vq wq => vq = (.bool (decide (y.2.1 = o))) ∧ w1 = wq) (r_eq rfl rfl) ⟨rfl, rfl⟩) (fun h => by cases h) rfl ?_; clear hf fa; rintro fa _ _ ⟨rfl, rfl⟩ hf
        change Fr _ _ ((41, (.bool (decide (y.2.1 = o)))) :: _) at hf
        refine sqgd (act := true) (g := 16) (want := false) (ag := true) (c := false) hf (by rfl) (by rfl) rfl (fun _ =>  Runs.does (R := fun vq wq => vq = (.bool (decide (y.2.1 = o))) ∧ w1 = wq) (r_pick (b := true) rfl rfl rfl rfl) ⟨rfl, rfl⟩) (fun h => by cases h) rfl ?_; clear hf fa; rintro fa _ _ ⟨rfl, rfl⟩ hf
        change Fr _ _ ((42, (.bool (decide (y.2.1 = o)))) :: _) at hf
        refine sqgd (act := true) (g := 5) (want := true) (ag := true) (c := true) hf (by rfl) (by rfl) rfl (fun _ =>  Runs.does (R := fun vq wq => vq = (.bool (decide (y.2.1 = o))) ∧ w1 = wq) (r_pick (b := false) rfl rfl rfl rfl) ⟨rfl, rfl⟩) (fun h => by cases h) rfl ?_; clear hf fa; rintro fa _ _ ⟨rfl, rfl⟩ hf
        change Fr _ _ ((43, (.bool (decide (y.2.1 = o)))) :: _) at hf
        refine sqv hf (r_pick (b := true) rfl rfl rfl rfl) rfl rfl rfl ?_; clear hf fa; intro fa hf
        apply wpList_nil
        (try simp only [Exit.then, Exit.inBlock, ↓reduceIte, Nat.reduceEqDiff])
        refine hK8 _ _ ?_
        refine wp_cond_split (t := (decide (y.2.1 = o))) (hf.ev rfl) (fun hqt44_1 => ?_) (fun hqt44_1 => ?_)
        · have hqt44_1b := hqt44_1
          try simp only [decide_eq_true_eq, Bool.and_eq_true, Bool.or_eq_true, Bool.not_eq_true', decide_eq_false_iff_not, ne_eq, Bool.not_eq_true] at hqt44_1
          refine wp_region_lit ?_
          refine sqv hf (r_move rfl) rfl rfl rfl ?_; clear hf fa; intro fa hf
          refine sqv hf (r_move rfl) rfl rfl rfl ?_; clear hf fa; intro fa hf
          refine sqdt hf (d_bslice (z := (.int .i64 (0 : Int))) (sz := 1) (vs := [(0, (.int .i64 ((k : Nat) : Int)))]) (cs := #[(.int .i64 ((k : Nat) : Int))]) rfl Try.underlying33 (by kernel_rfl) rfl (by kernel_rfl)) rfl rfl rfl ?_; clear hf fa; rintro fa _ w2 ⟨b1, rfl, hle1, hk1, he1⟩ hf
          have hBb1 : w.heap.size ≤ b1 := Nat.le_trans hb.size hle1
          have hnr1 : (Value.slice roa ((((rwF R o false k)).length)) roc).ownBlock ≠ some b1 := fun hq => by have := (Row.lt hro _ hq).2; omega
          have hnl1 : ∀ q, (Value.slice roa ((((rwF R o false k)).length)) roc).ownBlock = some q → q < b1 := fun q hq => Nat.lt_of_lt_of_le (Row.lt hro q hq).2 hle1
          replace hro := Row.ext hro he1
          replace hb := hb.trans (Below.mono he1 hb.size)
          have hs1 := Row.rd (by intros; rfl) (Row.of_new (k := 1) (V := (vInt .i64)) (l := [((k : Nat) : Int)]) hk1 (Nat.le_refl _) rfl rfl (Nat.le_of_ble_eq_true rfl))
          refine sqdt hf (d_append (V := (vInt .i64)) (k := 1) (e := 3) (bytes := 8) (z := (.int .i64 (0 : Int))) (news := [((k : Nat) : Int)]) (base := w.heap.size) (by intros; rfl) (by intro x u hu; simp only [vInt, List.mem_singleton] at hu; subst hu; rfl) rfl rfl Try.underlying33 (by kernel_rfl) rfl rfl rfl hro hs1 rfl (fun h => by cases h) (by first | omega | (simp only [List.length_cons, List.length_nil, List.length_append, nums_len]; omega)) (by have := hb.size; omega)) rfl rfl rfl ?_; clear hf fa; rintro fa v w3 ⟨hr1, hg1⟩ hf; obtain ⟨ra1, rc1, rfl, hcrc1, hmrc1⟩ := Row.slice hr1
          replace hb := hb.trans (row_below hro hg1 hb.size (by have := hb.size; omega))
          refine sqv hf (r_assign rfl) rfl rfl rfl ?_; clear hf fa; intro fa hf
          apply wpList_nil
          (try simp only [Exit.then, Exit.inBlock, ↓reduceIte, Nat.reduceEqDiff])
          refine hK7 _ _ ?_
          refine wp_region_lit ?_
          refine sqv hf (r_move rfl) rfl rfl rfl ?_; clear hf fa; intro fa hf
          refine sqv hf (r_add (C := (((k : Nat) : Int) + (1 : Int))) rfl rfl (by rw [IntKind.wrap_i64]; omega)) rfl rfl rfl ?_; clear hf fa; intro fa hf
          refine sqv hf (r_assign rfl) rfl rfl rfl ?_; clear hf fa; intro fa hf
          apply wpList_nil
          (try simp only [Exit.then, Exit.inBlock, ↓reduceIte, Nat.reduceEqDiff])
          have hst := rwF_yes (R := R) (o := o) (t := false) (k := k) (by unfold rwC; rw [hsp1, hd]; have h := hqt44_1; simpa using h)
          have hbl := congrArg List.length hst
          refine hKL1 _ _ _ (by omega) ⟨(k + 1), ra1, rc1, rfl, hf.sub ⟨rfl, rfl, rfl, (some_int (by first | rfl | omega)), (some_sl (by first | omega | (simp only [List.length_append, List.length_cons, List.length_nil]; omega) | (simp <;> omega)) rfl), trivial⟩, hb, (crowTo hr1 hst), by omega⟩
        · have hqt44_1b := hqt44_1
          replace hqt44_1 := Bool.eq_false_iff.1 hqt44_1
          try simp only [ne_eq, decide_eq_true_eq, Bool.and_eq_true, Bool.or_eq_true, Bool.not_eq_true', decide_eq_false_iff_not] at hqt44_1
          refine wp_skip ?_
          (try simp only [Exit.then, Exit.inBlock, ↓reduceIte, Nat.reduceEqDiff])
          refine hK7 _ _ ?_
          refine wp_region_lit ?_
          refine sqv hf (r_move rfl) rfl rfl rfl ?_; clear hf fa; intro fa hf
          refine sqv hf (r_add (C := (((k : Nat) : Int) + (1 : Int))) rfl rfl (by rw [IntKind.wrap_i64]; omega)) rfl rfl rfl ?_; clear hf fa; intro fa hf
          refine sqv hf (r_assign rfl) rfl rfl rfl ?_; clear hf fa; intro fa hf
          apply wpList_nil
          (try simp only [Exit.then, Exit.inBlock, ↓reduceIte, Nat.reduceEqDiff])
          have hst := rwF_no (R := R) (o := o) (t := false) (k := k) (by unfold rwC; rw [hsp1, hd]; have h := hqt44_1; simpa using h)
          have hbl := congrArg List.length hst
          refine hKL1 _ _ _ (by omega) ⟨(k + 1), roa, roc, rfl, hf.sub ⟨rfl, rfl, rfl, (some_int (by first | rfl | omega)), (some_sl (by first | omega | (simp only [List.length_append, List.length_cons, List.length_nil]; omega) | (simp <;> omega)) rfl), trivial⟩, hb, (crowTo hro hst), by omega⟩
      · have hsp1b : decide ((R.getD k zMRf).2.2.2.2.1 = true) = false := decide_eq_false hsp1
        obtain ⟨y, hy⟩ : ∃ x, R[k]? = some x := ⟨_, List.getElem?_eq_getElem (by omega)⟩
        have hd : R.getD k zMRf = y := by rw [List.getD_eq_getElem?_getD, hy]; rfl
        refine wp_region_lit ?_
        refine sqv hf (r_move rfl) rfl rfl rfl ?_; clear hf fa; intro fa hf
        refine sqv hf (r_move rfl) rfl rfl rfl ?_; clear hf fa; intro fa hf
        have hy2 : (R)[k]? = some y := hy
        obtain ⟨ab2, aoff2, hat2, hlb2, hel2⟩ := RdS.at hl hy2
        refine sqv hf (r_ixa (sz := 6) (j := k) (evAt rfl hat2) rfl Try.underlying76 (by kernel_rfl) rfl (by omega) rfl) rfl rfl rfl ?_; clear hf fa; intro fa hf
        refine sqv hf (r_fa rfl Try.underlying132 (f := 4) (q := ((aoff2 + k * 6) + 5)) rfl (by kernel_rfl) rfl) rfl rfl rfl ?_; clear hf fa; intro fa hf
        refine sqv hf (Runs.veq (r_load (v := (.bool y.2.2.2.2.1)) rfl Try.underlying4 rfl (cellsAt_cell (cellsAt_below hel2 hb hlb2) (i := 5) rfl rfl)) (congrArg Value.bool (show _ = false from (by rw [← hd]; exact Bool.eq_false_iff.2 hsp1)))) rfl rfl rfl ?_; clear hf fa; intro fa hf
        refine sqv hf (r_move rfl) rfl rfl rfl ?_; clear hf fa; intro fa hf
        refine sqgT (act := false) (ag := true) (c := false) (v := .bool false) hf rfl rfl rfl (fun hact => by cases hact) rfl rfl ?_; clear hf fa; intro fa hf
        refine sqgT (act := false) (ag := true) (c := false) (v := .bool false) hf rfl rfl rfl (fun hact => by cases hact) rfl rfl ?_; clear hf fa; intro fa hf
        refine sqgT (act := false) (ag := false) (c := false) (v := .bool false) hf rfl rfl rfl (fun hact => by cases hact) rfl rfl ?_; clear hf fa; intro fa hf
        refine sqgT (act := false) (ag := false) (c := false) (v := .bool false) hf rfl rfl rfl (fun hact => by cases hact) rfl rfl ?_; clear hf fa; intro fa hf
        refine sqgT (act := false) (ag := false) (c := false) (v := .bool false) hf rfl rfl rfl (fun hact => by cases hact) rfl rfl ?_; clear hf fa; intro fa hf
        refine sqgT (act := false) (ag := false) (c := false) (v := .bool false) hf rfl rfl rfl (fun hact => by cases hact) rfl rfl ?_; clear hf fa; intro fa hf
        refine sqgT (act := false) (ag := false) (c := false) (v := .bool false) hf rfl rfl rfl (fun hact => by cases hact) rfl rfl ?_; clear hf fa; intro fa hf
        refine sqgT (act := false) (ag := false) (c := false) (v := .bool false) hf rfl rfl rfl (fun hact => by cases hact) rfl rfl ?_; clear hf fa; intro fa hf
        refine sqgT (act := false) (ag := false) (c := false) (v := .bool false) hf rfl rfl rfl (fun hact => by cases hact) rfl rfl ?_; clear hf fa; intro fa hf
        refine sqgT (act := false) (ag := true) (c := false) (v := .bool false) hf rfl rfl rfl (fun hact => by cases hact) rfl rfl ?_; clear hf fa; intro fa hf
        refine sqgT (act := false) (ag := true) (c := false) (v := .bool false) hf rfl rfl rfl (fun hact => by cases hact) rfl rfl ?_; clear hf fa; intro fa hf
        refine sqgF (act := false) (ag := false) (c := false) (v := .bool false) hf rfl rfl rfl (fun hact => by cases hact) rfl rfl ?_; clear hf fa; intro fa hf
        refine sqgF (act := false) (ag := false) (c := false) (v := .bool false) hf rfl rfl rfl (fun hact => by cases hact) rfl rfl ?_; clear hf fa; intro fa hf
        refine sqgF (act := false) (ag := false) (c := false) (v := .bool false) hf rfl rfl rfl (fun hact => by cases hact) rfl rfl ?_; clear hf fa; intro fa hf
        refine sqgT (act := false) (ag := false) (c := false) (v := .bool false) hf rfl rfl rfl (fun hact => by cases hact) rfl rfl ?_; clear hf fa; intro fa hf
        refine sqgT (act := false) (ag := false) (c := false) (v := .bool false) hf rfl rfl rfl (fun hact => by cases hact) rfl rfl ?_; clear hf fa; intro fa hf
        refine sqgT (act := false) (ag := false) (c := false) (v := .bool false) hf rfl rfl rfl (fun hact => by cases hact) rfl rfl ?_; clear hf fa; intro fa hf
        refine sqgT (act := false) (ag := false) (c := false) (v := .bool false) hf rfl rfl rfl (fun hact => by cases hact) rfl rfl ?_; clear hf fa; intro fa hf
        refine sqgT (act := false) (ag := false) (c := false) (v := .bool false) hf rfl rfl rfl (fun hact => by cases hact) rfl rfl ?_; clear hf fa; intro fa hf
        refine sqgT (act := false) (ag := false) (c := false) (v := .bool false) hf rfl rfl rfl (fun hact => by cases hact) rfl rfl ?_; clear hf fa; intro fa hf
        refine sqgT (act := false) (ag := false) (c := false) (v := .bool false) hf rfl rfl rfl (fun hact => by cases hact) rfl rfl ?_; clear hf fa; intro fa hf
        refine sqgF (act := false) (ag := false) (c := false) (v := .bool false) hf rfl rfl rfl (fun hact => by cases hact) rfl rfl ?_; clear hf fa; intro fa hf
        refine sqgT (act := false) (ag := true) (c := false) (v := .bool false) hf rfl rfl rfl (fun hact => by cases hact) rfl rfl ?_; clear hf fa; intro fa hf
        refine sqv hf (r_pick (b := false) rfl rfl rfl rfl) rfl rfl rfl ?_; clear hf fa; intro fa hf
        apply wpList_nil
        (try simp only [Exit.then, Exit.inBlock, ↓reduceIte, Nat.reduceEqDiff])
        refine hK8 _ _ ?_
        refine wp_cond_false (hf.ev rfl) ?_
        refine wp_skip ?_
        (try simp only [Exit.then, Exit.inBlock, ↓reduceIte, Nat.reduceEqDiff])
        refine hK7 _ _ ?_
        refine wp_region_lit ?_
        refine sqv hf (r_move rfl) rfl rfl rfl ?_; clear hf fa; intro fa hf
        refine sqv hf (r_add (C := (((k : Nat) : Int) + (1 : Int))) rfl rfl (by rw [IntKind.wrap_i64]; omega)) rfl rfl rfl ?_; clear hf fa; intro fa hf
        refine sqv hf (r_assign rfl) rfl rfl rfl ?_; clear hf fa; intro fa hf
        apply wpList_nil
        (try simp only [Exit.then, Exit.inBlock, ↓reduceIte, Nat.reduceEqDiff])
        have hst := rwF_no (R := R) (o := o) (t := false) (k := k) (by unfold rwC; rw [show (R.getD k zMRf).2.2.2.2.1 = false from Bool.eq_false_iff.2 hsp1]; rfl)
        have hbl := congrArg List.length hst
        refine hKL1 _ _ _ (by omega) ⟨(k + 1), roa, roc, rfl, hf.sub ⟨rfl, rfl, rfl, (some_int (by first | rfl | omega)), (some_sl (by first | omega | (simp only [List.length_append, List.length_cons, List.length_nil]; omega) | (simp <;> omega)) rfl), trivial⟩, hb, (crowTo hro hst), by omega⟩
    · have hqt12_1b := hqt12_1
      replace hqt12_1 := Bool.eq_false_iff.1 hqt12_1
      try simp only [ne_eq, decide_eq_true_eq, Bool.and_eq_true, Bool.or_eq_true, Bool.not_eq_true', decide_eq_false_iff_not] at hqt12_1
      refine wp_exit ?_
      (try simp only [Exit.then, Exit.inBlock, ↓reduceIte, Nat.reduceEqDiff])
      refine hK3 _ _ ?_
      refine wp_seq_k (fun K9 hK9 => ?_)
      refine wp_region_lit ?_
      refine sqv hf (r_move rfl) rfl rfl rfl ?_; clear hf fa; intro fa hf
      refine sqv hf (r_assign rfl) rfl rfl rfl ?_; clear hf fa; intro fa hf
      apply wpList_nil
      (try simp only [Exit.then, Exit.inBlock, ↓reduceIte, Nat.reduceEqDiff])
      refine hK9 _ _ ?_
      refine wp_ret ?_
      (try simp only [Exit.then, Exit.inBlock])
      refine ret1 hf rfl rfl ?_
      have hkk : k = R.length := by omega
      exact ⟨_, rfl, by rw [← hkk]; exact hro, hb⟩
end Go.Proofs.Ytmcmickgllffoaa
