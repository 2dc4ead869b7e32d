/- What is proved here: what the plan of a module comes to. -/
import Derived.Test.YtahgkfekggkjnaaPlB
namespace Go.Proofs.Ytahgkfekggkjnaa
open Go.RowKit
set_option linter.unusedVariables false
set_option linter.unusedSimpArgs false
def planR (m : MMd) : List MImp → Nat → Option (Nat × Int)
  | [], _ => none
  | y :: l, i => if (wantP m y i).2 ≠ (0 : Int) then some (i, (wantP m y i).2) else planR m l (i + 1)
def wantsR (m : MMd) : List MImp → Nat → List MWt
  | [], _ => []
  | y :: l, i => (wantP m y i).1 :: wantsR m l (i + 1)
def slotsR (m : MMd) : List MImp → Nat → Int
  | [], _ => 0
  | y :: l, i => (if (wantP m y i).1.2.1 = (5 : Int) then 1 else 0) + slotsR m l (i + 1)

def ofP (m : MMd) : List MWt × Int × Int × Int × Int × Int × Int × Int :=
  bif (((decide ((0 : Int) < ((m.2.2.2.2.1.len : Nat) : Int))) || (decide ((0 : Int) < ((m.2.2.2.1.len : Nat) : Int)))) || (!m.2.2.2.2.2.2.2.2.2.2.2.1.1)) then ([], 0, 0, 0, 0, 0, -1, 15)
  else bif ((decide ((16777216 : Int) < m.2.2.2.2.2.2.2.2.2.2.2.1.2.1)) || (decide ((1048576 : Int) < m.2.2.2.2.2.2.2.2.2.2.2.1.2.2.2.1))) then ([], 0, 0, 0, 0, 0, -1, 44)
  else match planR m m.2.1.list 0 with
    | some p => ([], 0, 0, 0, 0, 0, ((p.1 : Nat) : Int), p.2)
    | none => (wantsR m m.2.1.list 0, m.2.2.2.2.2.2.2.2.2.2.2.1.2.1, m.2.2.2.2.2.2.2.2.2.2.2.1.2.2.2.1, m.2.2.2.2.2.2.2.2.2.2.2.1.2.2.1, m.2.2.2.2.2.2.2.2.2.2.2.1.2.2.2.2.1, slotsR m m.2.1.list 0, ((m.2.1.len : Nat) : Int), 0)

set_option maxHeartbeats 1000000 in
set_option maxRecDepth 100000 in
theorem of_any (m : MMd) (w : World) (hT : RdS 2 vMFt w m.1.at' m.1.list) (hI : RdS 9 vMImp w m.2.1.at' m.2.1.list) (hF : ∀ y ∈ m.2.1.list, 0 ≤ y.2.2.2.1 ∧ y.2.2.2.1 < 4294967296) (hD : (0 ≤ m.2.2.2.2.2.2.2.2.2.2.2.1.2.1 ∧ m.2.2.2.2.2.2.2.2.2.2.2.1.2.1 < 4294967296) ∧ 0 ≤ m.2.2.2.2.2.2.2.2.2.2.2.1.2.2.2.1 ∧ m.2.2.2.2.2.2.2.2.2.2.2.1.2.2.2.1 < 4294967296) (hTl : m.1.len ≤ 4398046510976) (hIl : m.2.1.len ≤ 1000) : Calls Try.prog 33 #[(.agg #[(.slice m.1.at' m.1.len m.1.cap), (.slice m.2.1.at' m.2.1.len m.2.1.cap), (.slice m.2.2.1.at' m.2.2.1.len m.2.2.1.cap), (.slice m.2.2.2.1.at' m.2.2.2.1.len m.2.2.2.1.cap), (.slice m.2.2.2.2.1.at' m.2.2.2.2.1.len m.2.2.2.2.1.cap), (.slice m.2.2.2.2.2.1.at' m.2.2.2.2.2.1.len m.2.2.2.2.2.1.cap), (.slice m.2.2.2.2.2.2.1.at' m.2.2.2.2.2.2.1.len m.2.2.2.2.2.2.1.cap), (.int .i64 m.2.2.2.2.2.2.2.1), (.slice m.2.2.2.2.2.2.2.2.1.at' m.2.2.2.2.2.2.2.2.1.len m.2.2.2.2.2.2.2.2.1.cap), (.slice m.2.2.2.2.2.2.2.2.2.1.at' m.2.2.2.2.2.2.2.2.2.1.len m.2.2.2.2.2.2.2.2.2.1.cap), (.slice m.2.2.2.2.2.2.2.2.2.2.1.at' m.2.2.2.2.2.2.2.2.2.2.1.len m.2.2.2.2.2.2.2.2.2.2.1.cap), (.bool m.2.2.2.2.2.2.2.2.2.2.2.1.1), (.int .u32 m.2.2.2.2.2.2.2.2.2.2.2.1.2.1), (.int .u32 m.2.2.2.2.2.2.2.2.2.2.2.1.2.2.1), (.int .u32 m.2.2.2.2.2.2.2.2.2.2.2.1.2.2.2.1), (.int .u32 m.2.2.2.2.2.2.2.2.2.2.2.1.2.2.2.2.1), (.slice m.2.2.2.2.2.2.2.2.2.2.2.1.2.2.2.2.2.1.at' m.2.2.2.2.2.2.2.2.2.2.2.1.2.2.2.2.2.1.len m.2.2.2.2.2.2.2.2.2.2.2.1.2.2.2.2.2.1.cap)])] w fun e w' => ∃ v, e = .returned v ∧ (∃ a c, v = (.tuple #[(.agg #[.slice a (ofP m).1.length c, .int .i64 (ofP m).2.1, .int .i64 (ofP m).2.2.1, .int .u32 (ofP m).2.2.2.1, .int .u32 (ofP m).2.2.2.2.1, .int .i64 (ofP m).2.2.2.2.2.1]), .int .i64 (ofP m).2.2.2.2.2.2.1, .int .i64 (ofP m).2.2.2.2.2.2.2]) ∧ Row 8 vMWt 80 w.heap.size w' (.slice a (ofP m).1.length c) (ofP m).1 ∧ Below w.heap.size w w') := by
  refine sx_enter (L := [(0, (.agg #[(.slice m.1.at' m.1.len m.1.cap), (.slice m.2.1.at' m.2.1.len m.2.1.cap), (.slice m.2.2.1.at' m.2.2.1.len m.2.2.1.cap), (.slice m.2.2.2.1.at' m.2.2.2.1.len m.2.2.2.1.cap), (.slice m.2.2.2.2.1.at' m.2.2.2.2.1.len m.2.2.2.2.1.cap), (.slice m.2.2.2.2.2.1.at' m.2.2.2.2.2.1.len m.2.2.2.2.2.1.cap), (.slice m.2.2.2.2.2.2.1.at' m.2.2.2.2.2.2.1.len m.2.2.2.2.2.2.1.cap), (.int .i64 m.2.2.2.2.2.2.2.1), (.slice m.2.2.2.2.2.2.2.2.1.at' m.2.2.2.2.2.2.2.2.1.len m.2.2.2.2.2.2.2.2.1.cap), (.slice m.2.2.2.2.2.2.2.2.2.1.at' m.2.2.2.2.2.2.2.2.2.1.len m.2.2.2.2.2.2.2.2.2.1.cap), (.slice m.2.2.2.2.2.2.2.2.2.2.1.at' m.2.2.2.2.2.2.2.2.2.2.1.len m.2.2.2.2.2.2.2.2.2.2.1.cap), (.bool m.2.2.2.2.2.2.2.2.2.2.2.1.1), (.int .u32 m.2.2.2.2.2.2.2.2.2.2.2.1.2.1), (.int .u32 m.2.2.2.2.2.2.2.2.2.2.2.1.2.2.1), (.int .u32 m.2.2.2.2.2.2.2.2.2.2.2.1.2.2.2.1), (.int .u32 m.2.2.2.2.2.2.2.2.2.2.2.1.2.2.2.2.1), (.slice m.2.2.2.2.2.2.2.2.2.2.2.1.2.2.2.2.2.1.at' m.2.2.2.2.2.2.2.2.2.2.2.1.2.2.2.2.2.1.len m.2.2.2.2.2.2.2.2.2.2.2.1.2.2.2.2.2.1.cap)]))]) Try.func33 rfl rfl rfl rfl (fun fa hf => ?_)
  have hb : Below w.heap.size w w := Below.refl _ _
  refine wp_seq_k (fun K1 hK1 => ?_)
  refine wp_region_lit ?_
  refine sqdt hf (d_box (cs := #[(.slice m.1.at' m.1.len m.1.cap), (.slice m.2.1.at' m.2.1.len m.2.1.cap), (.slice m.2.2.1.at' m.2.2.1.len m.2.2.1.cap), (.slice m.2.2.2.1.at' m.2.2.2.1.len m.2.2.2.1.cap), (.slice m.2.2.2.2.1.at' m.2.2.2.2.1.len m.2.2.2.2.1.cap), (.slice m.2.2.2.2.2.1.at' m.2.2.2.2.2.1.len m.2.2.2.2.2.1.cap), (.slice m.2.2.2.2.2.2.1.at' m.2.2.2.2.2.2.1.len m.2.2.2.2.2.2.1.cap), (.int .i64 m.2.2.2.2.2.2.2.1), (.slice m.2.2.2.2.2.2.2.2.1.at' m.2.2.2.2.2.2.2.2.1.len m.2.2.2.2.2.2.2.2.1.cap), (.slice m.2.2.2.2.2.2.2.2.2.1.at' m.2.2.2.2.2.2.2.2.2.1.len m.2.2.2.2.2.2.2.2.2.1.cap), (.slice m.2.2.2.2.2.2.2.2.2.2.1.at' m.2.2.2.2.2.2.2.2.2.2.1.len m.2.2.2.2.2.2.2.2.2.2.1.cap), (.bool m.2.2.2.2.2.2.2.2.2.2.2.1.1), (.int .u32 m.2.2.2.2.2.2.2.2.2.2.2.1.2.1), (.int .u32 m.2.2.2.2.2.2.2.2.2.2.2.1.2.2.1), (.int .u32 m.2.2.2.2.2.2.2.2.2.2.2.1.2.2.2.1), (.int .u32 m.2.2.2.2.2.2.2.2.2.2.2.1.2.2.2.2.1), (.slice m.2.2.2.2.2.2.2.2.2.2.2.1.2.2.2.2.2.1.at' m.2.2.2.2.2.2.2.2.2.2.2.1.2.2.2.2.2.1.len m.2.2.2.2.2.2.2.2.2.2.2.1.2.2.2.2.2.1.cap)]) rfl rfl) rfl rfl rfl ?_; clear hf fa; rintro fa _ w1 ⟨b1, rfl, hle1, hk1, he1⟩ hf
  have hBb1 : w.heap.size ≤ b1 := Nat.le_trans hb.size hle1
  replace hb := hb.trans (Below.mono he1 hb.size)
  refine sqdt hf (d_alloc (z := (.agg #[(.slice none 0 0), (.int .i64 (0 : Int)), (.int .i64 (0 : Int)), (.int .u32 (0 : Int)), (.int .u32 (0 : Int)), (.int .i64 (0 : Int))])) (cs := #[(.slice none 0 0), (.int .i64 (0 : Int)), (.int .i64 (0 : Int)), (.int .u32 (0 : Int)), (.int .u32 (0 : Int)), (.int .i64 (0 : Int))]) (by kernel_rfl) rfl) rfl rfl rfl ?_; clear hf fa; rintro fa _ w2 ⟨b2, rfl, hle2, hk2, he2⟩ hf
  have hBb2 : w.heap.size ≤ b2 := Nat.le_trans hb.size hle2
  have : b1 < b2 := Nat.lt_of_lt_of_le (blk_lt hk1) hle2
  replace hk1 := blk_ext hk1 he2
  replace hb := hb.trans (Below.mono he2 hb.size)
  refine sqv hf (r_assign rfl) rfl rfl rfl ?_; clear hf fa; intro fa hf
  refine sqv hf (r_assign rfl) rfl rfl rfl ?_; clear hf fa; intro fa hf
  apply wpList_nil
  (try simp only [Exit.then, Exit.inBlock, ↓reduceIte, Nat.reduceEqDiff])
  refine hK1 _ _ ?_
  refine wp_seq_k (fun K2 hK2 => ?_)
  refine wp_seq_k (fun K3 hK3 => ?_)
  refine wp_region_lit ?_
  refine sqv hf (r_fa rfl Try.underlying67 (f := 4) (q := 4) rfl (by kernel_rfl) rfl) rfl rfl rfl ?_; clear hf fa; intro fa hf
  refine sqv hf (r_load (v := (.slice m.2.2.2.2.1.at' m.2.2.2.2.1.len m.2.2.2.2.1.cap)) rfl Try.underlying58 rfl (cell_blk hk1 rfl)) rfl rfl rfl ?_; clear hf fa; intro fa hf
  refine sqv hf (r_lensl rfl Try.underlying58) rfl rfl rfl ?_; clear hf fa; intro fa hf
  refine sqv hf (r_gt rfl rfl) rfl rfl rfl ?_; clear hf fa; intro fa hf
  refine sqv hf (r_move rfl) rfl rfl rfl ?_; clear hf fa; intro fa hf
  refine sqgF (act := (!(decide ((0 : Int) < ((m.2.2.2.2.1.len : Nat) : Int))))) (ag := true) (c := (decide ((0 : Int) < ((m.2.2.2.2.1.len : Nat) : Int)))) (v := (.pointer (some ⟨b1, 3, none⟩))) hf rfl rfl rfl (fun hact => (r_fa rfl Try.underlying67 (f := 3) (q := 3) rfl (by kernel_rfl) rfl)) rfl rfl ?_; clear hf fa; intro fa hf
  refine sqgF (act := (!(decide ((0 : Int) < ((m.2.2.2.2.1.len : Nat) : Int))))) (ag := true) (c := (decide ((0 : Int) < ((m.2.2.2.2.1.len : Nat) : Int)))) (v := (.slice m.2.2.2.1.at' m.2.2.2.1.len m.2.2.2.1.cap)) hf rfl rfl rfl (fun hact => (r_load (v := (.slice m.2.2.2.1.at' m.2.2.2.1.len m.2.2.2.1.cap)) (gb_ev hact rfl) Try.underlying58 rfl (cell_blk hk1 rfl))) rfl rfl ?_; clear hf fa; intro fa hf
  refine sqgF (act := (!(decide ((0 : Int) < ((m.2.2.2.2.1.len : Nat) : Int))))) (ag := true) (c := (decide ((0 : Int) < ((m.2.2.2.2.1.len : Nat) : Int)))) (v := (.int .i64 ((m.2.2.2.1.len : Nat) : Int))) hf rfl rfl rfl (fun hact => (r_lensl (gb_ev hact rfl) Try.underlying58)) rfl rfl ?_; clear hf fa; intro fa hf
  refine sqgF (act := (!(decide ((0 : Int) < ((m.2.2.2.2.1.len : Nat) : Int))))) (ag := true) (c := (decide ((0 : Int) < ((m.2.2.2.2.1.len : Nat) : Int)))) (v := (.bool (decide ((0 : Int) < ((m.2.2.2.1.len : Nat) : Int))))) hf rfl rfl rfl (fun hact => (r_gt (gb_ev hact rfl) rfl)) rfl rfl ?_; clear hf fa; intro fa hf
  refine sqv hf (r_pickO (b := (decide ((0 : Int) < ((m.2.2.2.2.1.len : Nat) : Int)))) (e := (decide ((0 : Int) < ((m.2.2.2.1.len : Nat) : Int)))) rfl rfl rfl) rfl rfl rfl ?_; clear hf fa; intro fa hf
  refine sqv hf (r_move rfl) rfl rfl rfl ?_; clear hf fa; intro fa hf
  refine sqgF (act := (!((decide ((0 : Int) < ((m.2.2.2.2.1.len : Nat) : Int))) || (decide ((0 : Int) < ((m.2.2.2.1.len : Nat) : Int)))))) (ag := true) (c := ((decide ((0 : Int) < ((m.2.2.2.2.1.len : Nat) : Int))) || (decide ((0 : Int) < ((m.2.2.2.1.len : Nat) : Int))))) (v := (.pointer (some ⟨b1, 11, none⟩))) hf rfl rfl rfl (fun hact => (r_fa rfl Try.underlying67 (f := 11) (q := 11) rfl (by kernel_rfl) rfl)) rfl rfl ?_; clear hf fa; intro fa hf
  refine sqgF (act := (!((decide ((0 : Int) < ((m.2.2.2.2.1.len : Nat) : Int))) || (decide ((0 : Int) < ((m.2.2.2.1.len : Nat) : Int)))))) (ag := true) (c := ((decide ((0 : Int) < ((m.2.2.2.2.1.len : Nat) : Int))) || (decide ((0 : Int) < ((m.2.2.2.1.len : Nat) : Int))))) (v := (.pointer (some ⟨b1, 11, none⟩))) hf rfl rfl rfl (fun hact => (r_fa (gb_ev hact rfl) Try.underlying65 (f := 0) (q := 11) rfl (by kernel_rfl) rfl)) rfl rfl ?_; clear hf fa; intro fa hf
  refine sqgF (act := (!((decide ((0 : Int) < ((m.2.2.2.2.1.len : Nat) : Int))) || (decide ((0 : Int) < ((m.2.2.2.1.len : Nat) : Int)))))) (ag := true) (c := ((decide ((0 : Int) < ((m.2.2.2.2.1.len : Nat) : Int))) || (decide ((0 : Int) < ((m.2.2.2.1.len : Nat) : Int))))) (v := (.bool m.2.2.2.2.2.2.2.2.2.2.2.1.1)) hf rfl rfl rfl (fun hact => (r_load (v := (.bool m.2.2.2.2.2.2.2.2.2.2.2.1.1)) (gb_ev hact rfl) Try.underlying4 rfl (cell_blk hk1 rfl))) rfl rfl ?_; clear hf fa; intro fa hf
  refine sqgF (act := (!((decide ((0 : Int) < ((m.2.2.2.2.1.len : Nat) : Int))) || (decide ((0 : Int) < ((m.2.2.2.1.len : Nat) : Int)))))) (ag := true) (c := ((decide ((0 : Int) < ((m.2.2.2.2.1.len : Nat) : Int))) || (decide ((0 : Int) < ((m.2.2.2.1.len : Nat) : Int))))) (v := (.bool (!m.2.2.2.2.2.2.2.2.2.2.2.1.1))) hf rfl rfl rfl (fun hact => (r_not (gb_ev hact rfl))) rfl rfl ?_; clear hf fa; intro fa hf
  refine sqv hf (r_pickO (b := ((decide ((0 : Int) < ((m.2.2.2.2.1.len : Nat) : Int))) || (decide ((0 : Int) < ((m.2.2.2.1.len : Nat) : Int))))) (e := (!m.2.2.2.2.2.2.2.2.2.2.2.1.1)) rfl rfl rfl) rfl rfl rfl ?_; clear hf fa; intro fa hf
  apply wpList_nil
  (try simp only [Exit.then, Exit.inBlock, ↓reduceIte, Nat.reduceEqDiff])
  refine hK3 _ _ ?_
  refine wp_cond_split (t := (((decide ((0 : Int) < ((m.2.2.2.2.1.len : Nat) : Int))) || (decide ((0 : Int) < ((m.2.2.2.1.len : Nat) : Int)))) || (!m.2.2.2.2.2.2.2.2.2.2.2.1.1))) (hf.ev rfl) (fun hqt25_1 => ?_) (fun hqt25_1 => ?_)
  · have hqt25_1b := hqt25_1
    try simp only [decide_eq_true_eq, Bool.and_eq_true, Bool.or_eq_true, Bool.not_eq_true', decide_eq_false_iff_not, ne_eq, Bool.not_eq_true] at hqt25_1
    refine wp_seq_k (fun K4 hK4 => ?_)
    refine wp_region_lit ?_
    refine sqv hf (r_build (vs := []) (cs := #[(.slice none 0 0), (.int .i64 (0 : Int)), (.int .i64 (0 : Int)), (.int .u32 (0 : Int)), (.int .u32 (0 : Int)), (.int .i64 (0 : Int))]) rfl (fun _ => by kernel_rfl)) rfl rfl rfl ?_; clear hf fa; intro fa hf
    refine sqn hf (d_storeK (T := 72) (v := (.agg #[(.slice none 0 0), (.int .i64 (0 : Int)), (.int .i64 (0 : Int)), (.int .u32 (0 : Int)), (.int .u32 (0 : Int)), (.int .i64 (0 : Int))])) (cs := #[(.slice none 0 0), (.int .i64 (0 : Int)), (.int .i64 (0 : Int)), (.int .u32 (0 : Int)), (.int .u32 (0 : Int)), (.int .i64 (0 : Int))]) (cs' := #[(.slice none 0 0), (.int .i64 (0 : Int)), (.int .i64 (0 : Int)), (.int .u32 (0 : Int)), (.int .u32 (0 : Int)), (.int .i64 (0 : Int))]) rfl rfl (by kernel_rfl) (by kernel_rfl) hk2 (by kernel_rfl) (by kernel_rfl)) rfl rfl ?_; clear hf fa; rintro fa _ w3 ⟨hk3, hg1⟩ hf
    replace hk1 := blk_grown hk1 hg1 (by omega)
    replace hb := hb.trans (grown_below hg1 hb.size hBb2)
    refine sqv hf (r_assign rfl) rfl rfl rfl ?_; clear hf fa; intro fa hf
    refine sqv hf (r_assign rfl) rfl rfl rfl ?_; clear hf fa; intro fa hf
    apply wpList_nil
    (try simp only [Exit.then, Exit.inBlock, ↓reduceIte, Nat.reduceEqDiff])
    refine hK4 _ _ ?_
    refine wp_ret ?_
    (try simp only [Exit.then, Exit.inBlock])
    refine retCTT hf rfl rfl hk3 Try.underlying72 rfl (by kernel_rfl) rfl rfl ?_
    have hP : ofP m = ([], 0, 0, 0, 0, 0, (-1 : Int), (15 : Int)) := by unfold ofP; rw [hqt25_1b]; rfl
    rw [hP]; exact ⟨_, rfl, none, 0, rfl, Row.nil, hb⟩
  · have hqt25_1b := hqt25_1
    replace hqt25_1 := Bool.eq_false_iff.1 hqt25_1
    try simp only [ne_eq, decide_eq_true_eq, Bool.and_eq_true, Bool.or_eq_true, Bool.not_eq_true', decide_eq_false_iff_not] at hqt25_1
    refine wp_skip ?_
    (try simp only [Exit.then, Exit.inBlock, ↓reduceIte, Nat.reduceEqDiff])
    refine hK2 _ _ ?_
    refine wp_seq_k (fun K5 hK5 => ?_)
    refine wp_region_lit ?_
    refine sqv hf (r_fa rfl Try.underlying67 (f := 11) (q := 11) rfl (by kernel_rfl) rfl) rfl rfl rfl ?_; clear hf fa; intro fa hf
    refine sqv hf (r_loadA (cs := [(.bool m.2.2.2.2.2.2.2.2.2.2.2.1.1), (.int .u32 m.2.2.2.2.2.2.2.2.2.2.2.1.2.1), (.int .u32 m.2.2.2.2.2.2.2.2.2.2.2.1.2.2.1), (.int .u32 m.2.2.2.2.2.2.2.2.2.2.2.1.2.2.2.1), (.int .u32 m.2.2.2.2.2.2.2.2.2.2.2.1.2.2.2.2.1), (.slice m.2.2.2.2.2.2.2.2.2.2.2.1.2.2.2.2.2.1.at' m.2.2.2.2.2.2.2.2.2.2.2.1.2.2.2.2.2.1.len m.2.2.2.2.2.2.2.2.2.2.2.1.2.2.2.2.2.1.cap)]) rfl Try.underlying65 rfl (by kernel_rfl) (cellsAt_part (d := 11) (n := 6) (cellsAt_blk hk1) rfl rfl)) rfl rfl rfl ?_; clear hf fa; intro fa hf
    refine sqdt hf (d_alloc (z := (.agg #[(.bool false), (.int .u32 (0 : Int)), (.int .u32 (0 : Int)), (.int .u32 (0 : Int)), (.int .u32 (0 : Int)), (.slice none 0 0)])) (cs := #[(.bool false), (.int .u32 (0 : Int)), (.int .u32 (0 : Int)), (.int .u32 (0 : Int)), (.int .u32 (0 : Int)), (.slice none 0 0)]) (by kernel_rfl) rfl) rfl rfl rfl ?_; clear hf fa; rintro fa _ w4 ⟨b3, rfl, hle3, hk4, he3⟩ hf
    have hBb3 : w.heap.size ≤ b3 := Nat.le_trans hb.size hle3
    have : b1 < b3 := Nat.lt_of_lt_of_le (blk_lt hk1) hle3
    have : b2 < b3 := Nat.lt_of_lt_of_le (blk_lt hk2) hle3
    replace hk1 := blk_ext hk1 he3
    replace hk2 := blk_ext hk2 he3
    replace hb := hb.trans (Below.mono he3 hb.size)
    refine sqn hf (d_storeK (T := 65) (v := (.agg #[(.bool m.2.2.2.2.2.2.2.2.2.2.2.1.1), (.int .u32 m.2.2.2.2.2.2.2.2.2.2.2.1.2.1), (.int .u32 m.2.2.2.2.2.2.2.2.2.2.2.1.2.2.1), (.int .u32 m.2.2.2.2.2.2.2.2.2.2.2.1.2.2.2.1), (.int .u32 m.2.2.2.2.2.2.2.2.2.2.2.1.2.2.2.2.1), (.slice m.2.2.2.2.2.2.2.2.2.2.2.1.2.2.2.2.2.1.at' m.2.2.2.2.2.2.2.2.2.2.2.1.2.2.2.2.2.1.len m.2.2.2.2.2.2.2.2.2.2.2.1.2.2.2.2.2.1.cap)])) (cs := #[(.bool false), (.int .u32 (0 : Int)), (.int .u32 (0 : Int)), (.int .u32 (0 : Int)), (.int .u32 (0 : Int)), (.slice none 0 0)]) (cs' := #[(.bool m.2.2.2.2.2.2.2.2.2.2.2.1.1), (.int .u32 m.2.2.2.2.2.2.2.2.2.2.2.1.2.1), (.int .u32 m.2.2.2.2.2.2.2.2.2.2.2.1.2.2.1), (.int .u32 m.2.2.2.2.2.2.2.2.2.2.2.1.2.2.2.1), (.int .u32 m.2.2.2.2.2.2.2.2.2.2.2.1.2.2.2.2.1), (.slice m.2.2.2.2.2.2.2.2.2.2.2.1.2.2.2.2.2.1.at' m.2.2.2.2.2.2.2.2.2.2.2.1.2.2.2.2.2.1.len m.2.2.2.2.2.2.2.2.2.2.2.1.2.2.2.2.2.1.cap)]) rfl rfl (by kernel_rfl) (by kernel_rfl) hk4 (by kernel_rfl) (by kernel_rfl)) rfl rfl ?_; clear hf fa; rintro fa _ w5 ⟨hk5, hg2⟩ hf
    replace hk1 := blk_grown hk1 hg2 (by omega)
    replace hk2 := blk_grown hk2 hg2 (by omega)
    replace hb := hb.trans (grown_below hg2 hb.size hBb3)
    apply wpList_nil
    (try simp only [Exit.then, Exit.inBlock, ↓reduceIte, Nat.reduceEqDiff])
    refine hK5 _ _ ?_
    refine wp_seq_k (fun K6 hK6 => ?_)
    refine wp_seq_k (fun K7 hK7 => ?_)
    refine wp_region_lit ?_
    refine sqv hf (r_fa rfl Try.underlying65 (f := 1) (q := 1) rfl (by kernel_rfl) rfl) rfl rfl rfl ?_; clear hf fa; intro fa hf
    refine sqv hf (r_load (v := (.int .u32 m.2.2.2.2.2.2.2.2.2.2.2.1.2.1)) rfl Try.underlying44 rfl (cell_blk hk5 rfl)) rfl rfl rfl ?_; clear hf fa; intro fa hf
    refine sqv hf (r_gt rfl rfl) rfl rfl rfl ?_; clear hf fa; intro fa hf
    refine sqv hf (r_move rfl) rfl rfl rfl ?_; clear hf fa; intro fa hf
    refine sqgF (act := (!(decide ((16777216 : Int) < m.2.2.2.2.2.2.2.2.2.2.2.1.2.1)))) (ag := true) (c := (decide ((16777216 : Int) < m.2.2.2.2.2.2.2.2.2.2.2.1.2.1))) (v := (.pointer (some ⟨b3, 3, none⟩))) hf rfl rfl rfl (fun hact => (r_fa rfl Try.underlying65 (f := 3) (q := 3) rfl (by kernel_rfl) rfl)) rfl rfl ?_; clear hf fa; intro fa hf
    refine sqgF (act := (!(decide ((16777216 : Int) < m.2.2.2.2.2.2.2.2.2.2.2.1.2.1)))) (ag := true) (c := (decide ((16777216 : Int) < m.2.2.2.2.2.2.2.2.2.2.2.1.2.1))) (v := (.int .u32 m.2.2.2.2.2.2.2.2.2.2.2.1.2.2.2.1)) hf rfl rfl rfl (fun hact => (r_load (v := (.int .u32 m.2.2.2.2.2.2.2.2.2.2.2.1.2.2.2.1)) (gb_ev hact rfl) Try.underlying44 rfl (cell_blk hk5 rfl))) rfl rfl ?_; clear hf fa; intro fa hf
    refine sqgF (act := (!(decide ((16777216 : Int) < m.2.2.2.2.2.2.2.2.2.2.2.1.2.1)))) (ag := true) (c := (decide ((16777216 : Int) < m.2.2.2.2.2.2.2.2.2.2.2.1.2.1))) (v := (.bool (decide ((1048576 : Int) < m.2.2.2.2.2.2.2.2.2.2.2.1.2.2.2.1)))) hf rfl rfl rfl (fun hact => (r_gt (gb_ev hact rfl) rfl)) rfl rfl ?_; clear hf fa; intro fa hf
    refine sqv hf (r_pickO (b := (decide ((16777216 : Int) < m.2.2.2.2.2.2.2.2.2.2.2.1.2.1))) (e := (decide ((1048576 : Int) < m.2.2.2.2.2.2.2.2.2.2.2.1.2.2.2.1))) rfl rfl rfl) rfl rfl rfl ?_; clear hf fa; intro fa hf
    apply wpList_nil
    (try simp only [Exit.then, Exit.inBlock, ↓reduceIte, Nat.reduceEqDiff])
    refine hK7 _ _ ?_
    refine wp_cond_split (t := ((decide ((16777216 : Int) < m.2.2.2.2.2.2.2.2.2.2.2.1.2.1)) || (decide ((1048576 : Int) < m.2.2.2.2.2.2.2.2.2.2.2.1.2.2.2.1)))) (hf.ev rfl) (fun hqt36_1 => ?_) (fun hqt36_1 => ?_)
    · have hqt36_1b := hqt36_1
      try simp only [decide_eq_true_eq, Bool.and_eq_true, Bool.or_eq_true, Bool.not_eq_true', decide_eq_false_iff_not, ne_eq, Bool.not_eq_true] at hqt36_1
      refine wp_seq_k (fun K8 hK8 => ?_)
      refine wp_region_lit ?_
      refine sqv hf (r_build (vs := []) (cs := #[(.slice none 0 0), (.int .i64 (0 : Int)), (.int .i64 (0 : Int)), (.int .u32 (0 : Int)), (.int .u32 (0 : Int)), (.int .i64 (0 : Int))]) rfl (fun _ => by kernel_rfl)) rfl rfl rfl ?_; clear hf fa; intro fa hf
      refine sqn hf (d_storeK (T := 72) (v := (.agg #[(.slice none 0 0), (.int .i64 (0 : Int)), (.int .i64 (0 : Int)), (.int .u32 (0 : Int)), (.int .u32 (0 : Int)), (.int .i64 (0 : Int))])) (cs := #[(.slice none 0 0), (.int .i64 (0 : Int)), (.int .i64 (0 : Int)), (.int .u32 (0 : Int)), (.int .u32 (0 : Int)), (.int .i64 (0 : Int))]) (cs' := #[(.slice none 0 0), (.int .i64 (0 : Int)), (.int .i64 (0 : Int)), (.int .u32 (0 : Int)), (.int .u32 (0 : Int)), (.int .i64 (0 : Int))]) rfl rfl (by kernel_rfl) (by kernel_rfl) hk2 (by kernel_rfl) (by kernel_rfl)) rfl rfl ?_; clear hf fa; rintro fa _ w6 ⟨hk6, hg3⟩ hf
      replace hk1 := blk_grown hk1 hg3 (by omega)
      replace hk5 := blk_grown hk5 hg3 (by omega)
      replace hb := hb.trans (grown_below hg3 hb.size hBb2)
      refine sqv hf (r_assign rfl) rfl rfl rfl ?_; clear hf fa; intro fa hf
      refine sqv hf (r_assign rfl) rfl rfl rfl ?_; clear hf fa; intro fa hf
      apply wpList_nil
      (try simp only [Exit.then, Exit.inBlock, ↓reduceIte, Nat.reduceEqDiff])
      refine hK8 _ _ ?_
      refine wp_ret ?_
      (try simp only [Exit.then, Exit.inBlock])
      refine retCTT hf rfl rfl hk6 Try.underlying72 rfl (by kernel_rfl) rfl rfl ?_
      have hP : ofP m = ([], 0, 0, 0, 0, 0, (-1 : Int), (44 : Int)) := by unfold ofP; rw [hqt25_1b, hqt36_1b]; rfl
      rw [hP]; exact ⟨_, rfl, none, 0, rfl, Row.nil, hb⟩
    · have hqt36_1b := hqt36_1
      replace hqt36_1 := Bool.eq_false_iff.1 hqt36_1
      try simp only [ne_eq, decide_eq_true_eq, Bool.and_eq_true, Bool.or_eq_true, Bool.not_eq_true', decide_eq_false_iff_not] at hqt36_1
      refine wp_skip ?_
      (try simp only [Exit.then, Exit.inBlock, ↓reduceIte, Nat.reduceEqDiff])
      refine hK6 _ _ ?_
      refine wp_seq_k (fun K9 hK9 => ?_)
      refine wp_region_lit ?_
      refine sqv hf (r_fa rfl Try.underlying65 (f := 1) (q := 1) rfl (by kernel_rfl) rfl) rfl rfl rfl ?_; clear hf fa; intro fa hf
      refine sqv hf (r_load (v := (.int .u32 m.2.2.2.2.2.2.2.2.2.2.2.1.2.1)) rfl Try.underlying44 rfl (cell_blk hk5 rfl)) rfl rfl rfl ?_; clear hf fa; intro fa hf
      refine sqv hf (r_conv (C := m.2.2.2.2.2.2.2.2.2.2.2.1.2.1) rfl Try.underlying44 Try.underlying3 (by rw [IntKind.wrap_i64]; omega)) rfl rfl rfl ?_; clear hf fa; intro fa hf
      refine sqv hf (r_fa rfl Try.underlying65 (f := 3) (q := 3) rfl (by kernel_rfl) rfl) rfl rfl rfl ?_; clear hf fa; intro fa hf
      refine sqv hf (r_load (v := (.int .u32 m.2.2.2.2.2.2.2.2.2.2.2.1.2.2.2.1)) rfl Try.underlying44 rfl (cell_blk hk5 rfl)) rfl rfl rfl ?_; clear hf fa; intro fa hf
      refine sqv hf (r_conv (C := m.2.2.2.2.2.2.2.2.2.2.2.1.2.2.2.1) rfl Try.underlying44 Try.underlying3 (by rw [IntKind.wrap_i64]; omega)) rfl rfl rfl ?_; clear hf fa; intro fa hf
      refine sqv hf (r_fa rfl Try.underlying65 (f := 2) (q := 2) rfl (by kernel_rfl) rfl) rfl rfl rfl ?_; clear hf fa; intro fa hf
      refine sqv hf (r_load (v := (.int .u32 m.2.2.2.2.2.2.2.2.2.2.2.1.2.2.1)) rfl Try.underlying44 rfl (cell_blk hk5 rfl)) rfl rfl rfl ?_; clear hf fa; intro fa hf
      refine sqv hf (r_fa rfl Try.underlying65 (f := 4) (q := 4) rfl (by kernel_rfl) rfl) rfl rfl rfl ?_; clear hf fa; intro fa hf
      refine sqv hf (r_load (v := (.int .u32 m.2.2.2.2.2.2.2.2.2.2.2.1.2.2.2.2.1)) rfl Try.underlying44 rfl (cell_blk hk5 rfl)) rfl rfl rfl ?_; clear hf fa; intro fa hf
      refine sqv hf (r_build (vs := [(1, (.int .i64 m.2.2.2.2.2.2.2.2.2.2.2.1.2.1)), (2, (.int .i64 m.2.2.2.2.2.2.2.2.2.2.2.1.2.2.2.1)), (3, (.int .u32 m.2.2.2.2.2.2.2.2.2.2.2.1.2.2.1)), (4, (.int .u32 m.2.2.2.2.2.2.2.2.2.2.2.1.2.2.2.2.1))]) (cs := #[(.slice none 0 0), (.int .i64 m.2.2.2.2.2.2.2.2.2.2.2.1.2.1), (.int .i64 m.2.2.2.2.2.2.2.2.2.2.2.1.2.2.2.1), (.int .u32 m.2.2.2.2.2.2.2.2.2.2.2.1.2.2.1), (.int .u32 m.2.2.2.2.2.2.2.2.2.2.2.1.2.2.2.2.1), (.int .i64 (0 : Int))]) rfl (fun _ => by kernel_rfl)) rfl rfl rfl ?_; clear hf fa; intro fa hf
      refine sqdt hf (d_alloc (z := (.agg #[(.slice none 0 0), (.int .i64 (0 : Int)), (.int .i64 (0 : Int)), (.int .u32 (0 : Int)), (.int .u32 (0 : Int)), (.int .i64 (0 : Int))])) (cs := #[(.slice none 0 0), (.int .i64 (0 : Int)), (.int .i64 (0 : Int)), (.int .u32 (0 : Int)), (.int .u32 (0 : Int)), (.int .i64 (0 : Int))]) (by kernel_rfl) rfl) rfl rfl rfl ?_; clear hf fa; rintro fa _ w7 ⟨b4, rfl, hle4, hk7, he4⟩ hf
      have hBb4 : w.heap.size ≤ b4 := Nat.le_trans hb.size hle4
      have : b1 < b4 := Nat.lt_of_lt_of_le (blk_lt hk1) hle4
      have : b2 < b4 := Nat.lt_of_lt_of_le (blk_lt hk2) hle4
      have : b3 < b4 := Nat.lt_of_lt_of_le (blk_lt hk5) hle4
      replace hk1 := blk_ext hk1 he4
      replace hk2 := blk_ext hk2 he4
      replace hk5 := blk_ext hk5 he4
      replace hb := hb.trans (Below.mono he4 hb.size)
      refine sqn hf (d_storeK (T := 72) (v := (.agg #[(.slice none 0 0), (.int .i64 m.2.2.2.2.2.2.2.2.2.2.2.1.2.1), (.int .i64 m.2.2.2.2.2.2.2.2.2.2.2.1.2.2.2.1), (.int .u32 m.2.2.2.2.2.2.2.2.2.2.2.1.2.2.1), (.int .u32 m.2.2.2.2.2.2.2.2.2.2.2.1.2.2.2.2.1), (.int .i64 (0 : Int))])) (cs := #[(.slice none 0 0), (.int .i64 (0 : Int)), (.int .i64 (0 : Int)), (.int .u32 (0 : Int)), (.int .u32 (0 : Int)), (.int .i64 (0 : Int))]) (cs' := #[(.slice none 0 0), (.int .i64 m.2.2.2.2.2.2.2.2.2.2.2.1.2.1), (.int .i64 m.2.2.2.2.2.2.2.2.2.2.2.1.2.2.2.1), (.int .u32 m.2.2.2.2.2.2.2.2.2.2.2.1.2.2.1), (.int .u32 m.2.2.2.2.2.2.2.2.2.2.2.1.2.2.2.2.1), (.int .i64 (0 : Int))]) rfl rfl (by kernel_rfl) (by kernel_rfl) hk7 (by kernel_rfl) (by kernel_rfl)) rfl rfl ?_; clear hf fa; rintro fa _ w8 ⟨hk8, hg4⟩ hf
      replace hk1 := blk_grown hk1 hg4 (by omega)
      replace hk2 := blk_grown hk2 hg4 (by omega)
      replace hk5 := blk_grown hk5 hg4 (by omega)
      replace hb := hb.trans (grown_below hg4 hb.size hBb4)
      apply wpList_nil
      (try simp only [Exit.then, Exit.inBlock, ↓reduceIte, Nat.reduceEqDiff])
      refine hK9 _ _ ?_
      refine wp_seq_k (fun K10 hK10 => ?_)
      refine wp_seq_k (fun K11 hK11 => ?_)
      have hrW0 : Row 8 vMWt 80 w.heap.size w8 (.slice none 0 0) [] := Row.nil
      skip
      refine wp_region_lit ?_
      refine sqv hf (r_fa rfl Try.underlying67 (f := 1) (q := 1) rfl (by kernel_rfl) rfl) rfl rfl rfl ?_; clear hf fa; intro fa hf
      refine sqv hf (r_load (v := (.slice m.2.1.at' m.2.1.len m.2.1.cap)) rfl Try.underlying57 rfl (cell_blk hk1 rfl)) rfl rfl rfl ?_; clear hf fa; intro fa hf
      refine sqv hf (r_lensl rfl Try.underlying57) rfl rfl rfl ?_; clear hf fa; intro fa hf
      refine sqv hf (r_move rfl) rfl rfl rfl ?_; clear hf fa; intro fa hf
      apply wpList_nil
      (try simp only [Exit.then, Exit.inBlock, ↓reduceIte, Nat.reduceEqDiff])
      refine hK11 _ _ ?_
      refine wp_block ?_
      refine wp_loop_k (fun mq fa wr => ∃ (k : Nat) (xs : List MWt) (sl : Int) (rWa : Option Addr) (rWc : Nat), mq = m.2.1.len - k ∧ Fr 84 fa [(1, (.pointer (some ⟨b1, 0, none⟩))), (2, (.pointer (some ⟨b2, 0, none⟩))), (5, (.pointer (some ⟨b3, 0, none⟩))), (6, (.pointer (some ⟨b4, 0, none⟩))), (51, (.int .i64 ((m.2.1.len : Nat) : Int))), (52, (.int .i64 ((k : Nat) : Int)))] ∧ Below w.heap.size w wr ∧ Row 8 vMWt 80 (w.heap.size) wr (.slice rWa (xs.length) rWc) xs ∧ wr.heap[b1]? = some (.cells #[(.slice m.1.at' m.1.len m.1.cap), (.slice m.2.1.at' m.2.1.len m.2.1.cap), (.slice m.2.2.1.at' m.2.2.1.len m.2.2.1.cap), (.slice m.2.2.2.1.at' m.2.2.2.1.len m.2.2.2.1.cap), (.slice m.2.2.2.2.1.at' m.2.2.2.2.1.len m.2.2.2.2.1.cap), (.slice m.2.2.2.2.2.1.at' m.2.2.2.2.2.1.len m.2.2.2.2.2.1.cap), (.slice m.2.2.2.2.2.2.1.at' m.2.2.2.2.2.2.1.len m.2.2.2.2.2.2.1.cap), (.int .i64 m.2.2.2.2.2.2.2.1), (.slice m.2.2.2.2.2.2.2.2.1.at' m.2.2.2.2.2.2.2.2.1.len m.2.2.2.2.2.2.2.2.1.cap), (.slice m.2.2.2.2.2.2.2.2.2.1.at' m.2.2.2.2.2.2.2.2.2.1.len m.2.2.2.2.2.2.2.2.2.1.cap), (.slice m.2.2.2.2.2.2.2.2.2.2.1.at' m.2.2.2.2.2.2.2.2.2.2.1.len m.2.2.2.2.2.2.2.2.2.2.1.cap), (.bool m.2.2.2.2.2.2.2.2.2.2.2.1.1), (.int .u32 m.2.2.2.2.2.2.2.2.2.2.2.1.2.1), (.int .u32 m.2.2.2.2.2.2.2.2.2.2.2.1.2.2.1), (.int .u32 m.2.2.2.2.2.2.2.2.2.2.2.1.2.2.2.1), (.int .u32 m.2.2.2.2.2.2.2.2.2.2.2.1.2.2.2.2.1), (.slice m.2.2.2.2.2.2.2.2.2.2.2.1.2.2.2.2.2.1.at' m.2.2.2.2.2.2.2.2.2.2.2.1.2.2.2.2.2.1.len m.2.2.2.2.2.2.2.2.2.2.2.1.2.2.2.2.2.1.cap)] 67 (0, 0)) ∧ wr.heap[b2]? = some (.cells #[(.slice none 0 0), (.int .i64 (0 : Int)), (.int .i64 (0 : Int)), (.int .u32 (0 : Int)), (.int .u32 (0 : Int)), (.int .i64 (0 : Int))] 72 (0, 0)) ∧ wr.heap[b4]? = some (.cells #[(.slice rWa xs.length rWc), (.int .i64 m.2.2.2.2.2.2.2.2.2.2.2.1.2.1), (.int .i64 m.2.2.2.2.2.2.2.2.2.2.2.1.2.2.2.1), (.int .u32 m.2.2.2.2.2.2.2.2.2.2.2.1.2.2.1), (.int .u32 m.2.2.2.2.2.2.2.2.2.2.2.1.2.2.2.2.1), (.int .i64 sl)] 72 (0, 0)) ∧ (k ≤ m.2.1.len) ∧ (planR m m.2.1.list 0 = planR m (m.2.1.list.drop k) k) ∧ (wantsR m m.2.1.list 0 = xs ++ wantsR m (m.2.1.list.drop k) k) ∧ (slotsR m m.2.1.list 0 = sl + slotsR m (m.2.1.list.drop k) k) ∧ (xs.length = k) ∧ (0 ≤ sl ∧ sl ≤ k)) ?_ ?_
      · skip
        exact ⟨_, 0, [], 0, none, 0, rfl, hf.sub ⟨rfl, rfl, rfl, rfl, rfl, (some_int (by first | rfl | omega)), trivial⟩, hb, (Row.relen hrW0), hk1, hk2, hk8, by omega, rfl, rfl, (by simp), rfl, by omega⟩
      · skip
        clear hf fa; intro mq1 fa w9 hI KL1 hKL1
        clear hb
        clear hk1
        clear hk2
        clear hk5
        clear hk8
        clear hrW0
        obtain ⟨k, xs, sl, rWa, rWc, hmq1, hf, hb, hrW, hkb1, hkb2, hkb4, hk, Hs, Hw, Hz, hxl, hsl⟩ := hI
        have hcrW := Row.caps hrW
        refine wp_seq_k (fun K12 hK12 => ?_)
        refine wp_region_lit ?_
        refine sqv hf (r_lt rfl rfl) rfl rfl rfl ?_; clear hf fa; intro fa hf
        apply wpList_nil
        (try simp only [Exit.then, Exit.inBlock, ↓reduceIte, Nat.reduceEqDiff])
        refine hK12 _ _ ?_
        refine wp_seq_k (fun K13 hK13 => ?_)
        refine wp_cond_split (t := (decide (((k : Nat) : Int) < ((m.2.1.len : Nat) : Int)))) (hf.ev rfl) (fun hqt53_1 => ?_) (fun hqt53_1 => ?_)
        · have hqt53_1b := hqt53_1
          try simp only [decide_eq_true_eq, Bool.and_eq_true, Bool.or_eq_true, Bool.not_eq_true', decide_eq_false_iff_not, ne_eq, Bool.not_eq_true] at hqt53_1
          refine wp_skip ?_
          (try simp only [Exit.then, Exit.inBlock, ↓reduceIte, Nat.reduceEqDiff])
          refine hK13 _ _ ?_
          refine wp_seq_k (fun K14 hK14 => ?_)
          refine wp_block ?_
          refine wp_seq_k (fun K15 hK15 => ?_)
          refine wp_region_lit ?_
          refine sqv hf (r_move rfl) rfl rfl rfl ?_; clear hf fa; intro fa hf
          refine sqv hf (r_assign rfl) rfl rfl rfl ?_; clear hf fa; intro fa hf
          apply wpList_nil
          (try simp only [Exit.then, Exit.inBlock, ↓reduceIte, Nat.reduceEqDiff])
          refine hK15 _ _ ?_
          refine wp_seq_k (fun K16 hK16 => ?_)
          obtain ⟨y, hy⟩ : ∃ x, (m.2.1.list)[k]? = some x := ⟨_, List.getElem?_eq_getElem (by rw [Sl.list_length]; omega)⟩
          have hyt := hF y (List.mem_of_getElem? hy)
          refine wp_region_lit ?_
          refine sqv hf (r_loadA (cs := [(.slice m.1.at' m.1.len m.1.cap), (.slice m.2.1.at' m.2.1.len m.2.1.cap), (.slice m.2.2.1.at' m.2.2.1.len m.2.2.1.cap), (.slice m.2.2.2.1.at' m.2.2.2.1.len m.2.2.2.1.cap), (.slice m.2.2.2.2.1.at' m.2.2.2.2.1.len m.2.2.2.2.1.cap), (.slice m.2.2.2.2.2.1.at' m.2.2.2.2.2.1.len m.2.2.2.2.2.1.cap), (.slice m.2.2.2.2.2.2.1.at' m.2.2.2.2.2.2.1.len m.2.2.2.2.2.2.1.cap), (.int .i64 m.2.2.2.2.2.2.2.1), (.slice m.2.2.2.2.2.2.2.2.1.at' m.2.2.2.2.2.2.2.2.1.len m.2.2.2.2.2.2.2.2.1.cap), (.slice m.2.2.2.2.2.2.2.2.2.1.at' m.2.2.2.2.2.2.2.2.2.1.len m.2.2.2.2.2.2.2.2.2.1.cap), (.slice m.2.2.2.2.2.2.2.2.2.2.1.at' m.2.2.2.2.2.2.2.2.2.2.1.len m.2.2.2.2.2.2.2.2.2.2.1.cap), (.bool m.2.2.2.2.2.2.2.2.2.2.2.1.1), (.int .u32 m.2.2.2.2.2.2.2.2.2.2.2.1.2.1), (.int .u32 m.2.2.2.2.2.2.2.2.2.2.2.1.2.2.1), (.int .u32 m.2.2.2.2.2.2.2.2.2.2.2.1.2.2.2.1), (.int .u32 m.2.2.2.2.2.2.2.2.2.2.2.1.2.2.2.2.1), (.slice m.2.2.2.2.2.2.2.2.2.2.2.1.2.2.2.2.2.1.at' m.2.2.2.2.2.2.2.2.2.2.2.1.2.2.2.2.2.1.len m.2.2.2.2.2.2.2.2.2.2.2.1.2.2.2.2.2.1.cap)]) rfl Try.underlying67 rfl (by kernel_rfl) (cellsAt_blk hkb1)) rfl rfl rfl ?_; clear hf fa; intro fa hf
          refine sqv hf (r_move rfl) rfl rfl rfl ?_; clear hf fa; intro fa hf
          refine sqdt hf (d_callB (vs := [(.agg #[(.slice m.1.at' m.1.len m.1.cap), (.slice m.2.1.at' m.2.1.len m.2.1.cap), (.slice m.2.2.1.at' m.2.2.1.len m.2.2.1.cap), (.slice m.2.2.2.1.at' m.2.2.2.1.len m.2.2.2.1.cap), (.slice m.2.2.2.2.1.at' m.2.2.2.2.1.len m.2.2.2.2.1.cap), (.slice m.2.2.2.2.2.1.at' m.2.2.2.2.2.1.len m.2.2.2.2.2.1.cap), (.slice m.2.2.2.2.2.2.1.at' m.2.2.2.2.2.2.1.len m.2.2.2.2.2.2.1.cap), (.int .i64 m.2.2.2.2.2.2.2.1), (.slice m.2.2.2.2.2.2.2.2.1.at' m.2.2.2.2.2.2.2.2.1.len m.2.2.2.2.2.2.2.2.1.cap), (.slice m.2.2.2.2.2.2.2.2.2.1.at' m.2.2.2.2.2.2.2.2.2.1.len m.2.2.2.2.2.2.2.2.2.1.cap), (.slice m.2.2.2.2.2.2.2.2.2.2.1.at' m.2.2.2.2.2.2.2.2.2.2.1.len m.2.2.2.2.2.2.2.2.2.2.1.cap), (.bool m.2.2.2.2.2.2.2.2.2.2.2.1.1), (.int .u32 m.2.2.2.2.2.2.2.2.2.2.2.1.2.1), (.int .u32 m.2.2.2.2.2.2.2.2.2.2.2.1.2.2.1), (.int .u32 m.2.2.2.2.2.2.2.2.2.2.2.1.2.2.2.1), (.int .u32 m.2.2.2.2.2.2.2.2.2.2.2.1.2.2.2.2.1), (.slice m.2.2.2.2.2.2.2.2.2.2.2.1.2.2.2.2.2.1.at' m.2.2.2.2.2.2.2.2.2.2.2.1.2.2.2.2.2.1.len m.2.2.2.2.2.2.2.2.2.2.2.1.2.2.2.2.2.1.cap)]), (.int .i64 ((k : Nat) : Int))]) rfl Try.func68 (by kernel_rfl) (by kernel_rfl) (want_any m y k _ (RdS.ext hT hb) (RdS.ext hI hb) hy hyt hTl (by omega))) rfl rfl rfl ?_; clear hf fa; rintro fa _ w10 ⟨rfl, he5⟩ hf
          replace hkb1 := blk_ext hkb1 he5
          replace hkb2 := blk_ext hkb2 he5
          replace hkb4 := blk_ext hkb4 he5
          replace hrW := Row.ext hrW he5
          replace hb := hb.trans (Below.mono he5 hb.size)
          refine sqv hf (r_move rfl) rfl rfl rfl ?_; clear hf fa; intro fa hf
          refine sqv hf (r_extract rfl (i := 0) rfl) rfl rfl rfl ?_; clear hf fa; intro fa hf
          refine sqv hf (r_extract rfl (i := 1) rfl) rfl rfl rfl ?_; clear hf fa; intro fa hf
          refine sqdt hf (d_alloc (z := (.agg #[(.int .i64 (0 : Int)), (.int .i64 (0 : Int)), (.string ⟨#[]⟩), (.string ⟨#[]⟩), (.string ⟨#[]⟩), (.int .u32 (0 : Int)), (.int .u32 (0 : Int)), (.bool false)])) (cs := #[(.int .i64 (0 : Int)), (.int .i64 (0 : Int)), (.string ⟨#[]⟩), (.string ⟨#[]⟩), (.string ⟨#[]⟩), (.int .u32 (0 : Int)), (.int .u32 (0 : Int)), (.bool false)]) (by kernel_rfl) rfl) rfl rfl rfl ?_; clear hf fa; rintro fa _ w11 ⟨b5, rfl, hle5, hk9, he6⟩ hf
          have hBb5 : w.heap.size ≤ b5 := Nat.le_trans hb.size hle5
          have : b1 < b5 := Nat.lt_of_lt_of_le (blk_lt hkb1) hle5
          have : b2 < b5 := Nat.lt_of_lt_of_le (blk_lt hkb2) hle5
          have : b4 < b5 := Nat.lt_of_lt_of_le (blk_lt hkb4) hle5
          have hnr1 : (Value.slice rWa (xs.length) rWc).ownBlock ≠ some b5 := fun hq => by have := (Row.lt hrW _ hq).2; omega
          replace hkb1 := blk_ext hkb1 he6
          replace hkb2 := blk_ext hkb2 he6
          replace hkb4 := blk_ext hkb4 he6
          replace hrW := Row.ext hrW he6
          replace hb := hb.trans (Below.mono he6 hb.size)
          refine sqn hf (d_storeK (T := 80) (v := (.agg #[(.int .i64 ((wantP m y k).1.1)), (.int .i64 ((wantP m y k).1.2.1)), (.string (wantP m y k).1.2.2.1), (.string (wantP m y k).1.2.2.2.1.1), (.string (wantP m y k).1.2.2.2.1.2.1), (.int .u32 ((wantP m y k).1.2.2.2.2.1.1)), (.int .u32 ((wantP m y k).1.2.2.2.2.1.2.1)), (.bool (wantP m y k).1.2.2.2.2.1.2.2.1)])) (cs := #[(.int .i64 (0 : Int)), (.int .i64 (0 : Int)), (.string ⟨#[]⟩), (.string ⟨#[]⟩), (.string ⟨#[]⟩), (.int .u32 (0 : Int)), (.int .u32 (0 : Int)), (.bool false)]) (cs' := #[(.int .i64 ((wantP m y k).1.1)), (.int .i64 ((wantP m y k).1.2.1)), (.string (wantP m y k).1.2.2.1), (.string (wantP m y k).1.2.2.2.1.1), (.string (wantP m y k).1.2.2.2.1.2.1), (.int .u32 ((wantP m y k).1.2.2.2.2.1.1)), (.int .u32 ((wantP m y k).1.2.2.2.2.1.2.1)), (.bool (wantP m y k).1.2.2.2.2.1.2.2.1)]) rfl rfl (by kernel_rfl) (by kernel_rfl) hk9 (by kernel_rfl) (by kernel_rfl)) rfl rfl ?_; clear hf fa; rintro fa _ w12 ⟨hk10, hg5⟩ hf
          replace hkb1 := blk_grown hkb1 hg5 (by omega)
          replace hkb2 := blk_grown hkb2 hg5 (by omega)
          replace hkb4 := blk_grown hkb4 hg5 (by omega)
          replace hrW := Row.grown hrW hg5 hnr1
          replace hb := hb.trans (grown_below hg5 hb.size hBb5)
          refine sqv hf (r_assign rfl) rfl rfl rfl ?_; clear hf fa; intro fa hf
          apply wpList_nil
          (try simp only [Exit.then, Exit.inBlock, ↓reduceIte, Nat.reduceEqDiff])
          refine hK16 _ _ ?_
          refine wp_seq_k (fun K17 hK17 => ?_)
          refine wp_seq_k (fun K18 hK18 => ?_)
          refine wp_region_lit ?_
          refine sqv hf (r_move rfl) rfl rfl rfl ?_; clear hf fa; intro fa hf
          refine sqv hf (r_ne rfl rfl) rfl rfl rfl ?_; clear hf fa; intro fa hf
          apply wpList_nil
          (try simp only [Exit.then, Exit.inBlock, ↓reduceIte, Nat.reduceEqDiff])
          refine hK18 _ _ ?_
          refine wp_cond_split (t := (decide (((wantP m y k).2) ≠ (0 : Int)))) (hf.ev rfl) (fun hqt62_1 => ?_) (fun hqt62_1 => ?_)
          · have hqt62_1b := hqt62_1
            try simp only [decide_eq_true_eq, Bool.and_eq_true, Bool.or_eq_true, Bool.not_eq_true', decide_eq_false_iff_not, ne_eq, Bool.not_eq_true] at hqt62_1
            refine wp_seq_k (fun K19 hK19 => ?_)
            refine wp_region_lit ?_
            refine sqv hf (r_build (vs := []) (cs := #[(.slice none 0 0), (.int .i64 (0 : Int)), (.int .i64 (0 : Int)), (.int .u32 (0 : Int)), (.int .u32 (0 : Int)), (.int .i64 (0 : Int))]) rfl (fun _ => by kernel_rfl)) rfl rfl rfl ?_; clear hf fa; intro fa hf
            refine sqv hf (r_move rfl) rfl rfl rfl ?_; clear hf fa; intro fa hf
            refine sqv hf (r_move rfl) rfl rfl rfl ?_; clear hf fa; intro fa hf
            refine sqn hf (d_storeK (T := 72) (v := (.agg #[(.slice none 0 0), (.int .i64 (0 : Int)), (.int .i64 (0 : Int)), (.int .u32 (0 : Int)), (.int .u32 (0 : Int)), (.int .i64 (0 : Int))])) (cs := #[(.slice none 0 0), (.int .i64 (0 : Int)), (.int .i64 (0 : Int)), (.int .u32 (0 : Int)), (.int .u32 (0 : Int)), (.int .i64 (0 : Int))]) (cs' := #[(.slice none 0 0), (.int .i64 (0 : Int)), (.int .i64 (0 : Int)), (.int .u32 (0 : Int)), (.int .u32 (0 : Int)), (.int .i64 (0 : Int))]) rfl rfl (by kernel_rfl) (by kernel_rfl) hkb2 (by kernel_rfl) (by kernel_rfl)) rfl rfl ?_; clear hf fa; rintro fa _ w13 ⟨hk11, hg6⟩ hf
            replace hkb1 := blk_grown hkb1 hg6 (by omega)
            replace hkb4 := blk_grown hkb4 hg6 (by omega)
            replace hk10 := blk_grown hk10 hg6 (by omega)
            replace hrW := Row.grown hrW hg6 (Row.ne_type hrW hkb2 rfl)
            replace hb := hb.trans (grown_below hg6 hb.size hBb2)
            refine sqv hf (r_assign rfl) rfl rfl rfl ?_; clear hf fa; intro fa hf
            refine sqv hf (r_assign rfl) rfl rfl rfl ?_; clear hf fa; intro fa hf
            apply wpList_nil
            (try simp only [Exit.then, Exit.inBlock, ↓reduceIte, Nat.reduceEqDiff])
            refine hK19 _ _ ?_
            refine wp_ret ?_
            (try simp only [Exit.then, Exit.inBlock])
            refine retCTT hf rfl rfl hk11 Try.underlying72 rfl (by kernel_rfl) rfl rfl ?_
            have hP : ofP m = ([], 0, 0, 0, 0, 0, ((k : Nat) : Int), ((wantP m y k).2)) := by unfold ofP; rw [hqt25_1b, hqt36_1b, Hs, drop_at hy, planR, if_pos hqt62_1]; rfl
            rw [hP]; exact ⟨_, rfl, none, 0, rfl, Row.nil, hb⟩
          · have hqt62_1b := hqt62_1
            replace hqt62_1 := Bool.eq_false_iff.1 hqt62_1
            try simp only [ne_eq, decide_eq_true_eq, Bool.and_eq_true, Bool.or_eq_true, Bool.not_eq_true', decide_eq_false_iff_not] at hqt62_1
            refine wp_skip ?_
            (try simp only [Exit.then, Exit.inBlock, ↓reduceIte, Nat.reduceEqDiff])
            refine hK17 _ _ ?_
            refine wp_seq_k (fun K20 hK20 => ?_)
            refine wp_seq_k (fun K21 hK21 => ?_)
            refine wp_region_lit ?_
            refine sqv hf (r_fa rfl Try.underlying80 (f := 1) (q := 1) rfl (by kernel_rfl) rfl) rfl rfl rfl ?_; clear hf fa; intro fa hf
            refine sqv hf (r_load (v := (.int .i64 ((wantP m y k).1.2.1))) rfl Try.underlying3 rfl (cell_blk hk10 rfl)) rfl rfl rfl ?_; clear hf fa; intro fa hf
            refine sqv hf (r_eq rfl rfl) rfl rfl rfl ?_; clear hf fa; intro fa hf
            apply wpList_nil
            (try simp only [Exit.then, Exit.inBlock, ↓reduceIte, Nat.reduceEqDiff])
            refine hK21 _ _ ?_
            refine wp_cond_split (t := (decide (((wantP m y k).1.2.1) = (5 : Int)))) (hf.ev rfl) (fun hqt68_1 => ?_) (fun hqt68_1 => ?_)
            · have hqt68_1b := hqt68_1
              try simp only [decide_eq_true_eq, Bool.and_eq_true, Bool.or_eq_true, Bool.not_eq_true', decide_eq_false_iff_not, ne_eq, Bool.not_eq_true] at hqt68_1
              refine wp_region_lit ?_
              refine sqv hf (r_fa rfl Try.underlying72 (f := 5) (q := 5) rfl (by kernel_rfl) rfl) rfl rfl rfl ?_; clear hf fa; intro fa hf
              refine sqv hf (r_load (v := (.int .i64 sl)) rfl Try.underlying3 rfl (cell_blk hkb4 rfl)) rfl rfl rfl ?_; clear hf fa; intro fa hf
              refine sqv hf (r_add (C := (sl + (1 : Int))) rfl rfl (by rw [IntKind.wrap_i64]; omega)) rfl rfl rfl ?_; clear hf fa; intro fa hf
              refine sqv hf (r_fa rfl Try.underlying72 (f := 5) (q := 5) rfl (by kernel_rfl) rfl) rfl rfl rfl ?_; clear hf fa; intro fa hf
              refine sqn hf (d_storeK (T := 72) (v := (.int .i64 (sl + (1 : Int)))) (cs := #[(.slice rWa xs.length rWc), (.int .i64 m.2.2.2.2.2.2.2.2.2.2.2.1.2.1), (.int .i64 m.2.2.2.2.2.2.2.2.2.2.2.1.2.2.2.1), (.int .u32 m.2.2.2.2.2.2.2.2.2.2.2.1.2.2.1), (.int .u32 m.2.2.2.2.2.2.2.2.2.2.2.1.2.2.2.2.1), (.int .i64 sl)]) (cs' := #[(.slice rWa xs.length rWc), (.int .i64 m.2.2.2.2.2.2.2.2.2.2.2.1.2.1), (.int .i64 m.2.2.2.2.2.2.2.2.2.2.2.1.2.2.2.1), (.int .u32 m.2.2.2.2.2.2.2.2.2.2.2.1.2.2.1), (.int .u32 m.2.2.2.2.2.2.2.2.2.2.2.1.2.2.2.2.1), (.int .i64 (sl + (1 : Int)))]) rfl rfl (by kernel_rfl) (by kernel_rfl) hkb4 (by kernel_rfl) (by kernel_rfl)) rfl rfl ?_; clear hf fa; rintro fa _ w14 ⟨hk12, hg7⟩ hf
              replace hkb1 := blk_grown hkb1 hg7 (by omega)
              replace hkb2 := blk_grown hkb2 hg7 (by omega)
              replace hk10 := blk_grown hk10 hg7 (by omega)
              replace hrW := Row.grown hrW hg7 (Row.ne_type hrW hkb4 rfl)
              replace hb := hb.trans (grown_below hg7 hb.size hBb4)
              apply wpList_nil
              (try simp only [Exit.then, Exit.inBlock, ↓reduceIte, Nat.reduceEqDiff])
              refine hK20 _ _ ?_
              refine wp_region_lit ?_
              refine sqv hf (r_fa rfl Try.underlying72 (f := 0) (q := 0) rfl (by kernel_rfl) rfl) rfl rfl rfl ?_; clear hf fa; intro fa hf
              refine sqv hf (r_load (v := (.slice rWa xs.length rWc)) rfl Try.underlying70 rfl (cell_blk hk12 rfl)) rfl rfl rfl ?_; clear hf fa; intro fa hf
              refine sqv hf (r_loadA (cs := [(.int .i64 ((wantP m y k).1.1)), (.int .i64 ((wantP m y k).1.2.1)), (.string (wantP m y k).1.2.2.1), (.string (wantP m y k).1.2.2.2.1.1), (.string (wantP m y k).1.2.2.2.1.2.1), (.int .u32 ((wantP m y k).1.2.2.2.2.1.1)), (.int .u32 ((wantP m y k).1.2.2.2.2.1.2.1)), (.bool (wantP m y k).1.2.2.2.2.1.2.2.1)]) rfl Try.underlying80 rfl (by kernel_rfl) (cellsAt_blk hk10)) rfl rfl rfl ?_; clear hf fa; intro fa hf
              refine sqdt hf (d_bslice (z := (.agg #[(.int .i64 (0 : Int)), (.int .i64 (0 : Int)), (.string ⟨#[]⟩), (.string ⟨#[]⟩), (.string ⟨#[]⟩), (.int .u32 (0 : Int)), (.int .u32 (0 : Int)), (.bool false)])) (sz := 8) (vs := [(0, (.agg #[(.int .i64 ((wantP m y k).1.1)), (.int .i64 ((wantP m y k).1.2.1)), (.string (wantP m y k).1.2.2.1), (.string (wantP m y k).1.2.2.2.1.1), (.string (wantP m y k).1.2.2.2.1.2.1), (.int .u32 ((wantP m y k).1.2.2.2.2.1.1)), (.int .u32 ((wantP m y k).1.2.2.2.2.1.2.1)), (.bool (wantP m y k).1.2.2.2.2.1.2.2.1)]))]) (cs := #[(.int .i64 ((wantP m y k).1.1)), (.int .i64 ((wantP m y k).1.2.1)), (.string (wantP m y k).1.2.2.1), (.string (wantP m y k).1.2.2.2.1.1), (.string (wantP m y k).1.2.2.2.1.2.1), (.int .u32 ((wantP m y k).1.2.2.2.2.1.1)), (.int .u32 ((wantP m y k).1.2.2.2.2.1.2.1)), (.bool (wantP m y k).1.2.2.2.2.1.2.2.1)]) rfl Try.underlying70 (by kernel_rfl) rfl (by kernel_rfl)) rfl rfl rfl ?_; clear hf fa; rintro fa _ w15 ⟨b6, rfl, hle6, hk13, he7⟩ hf
              have hBb6 : w.heap.size ≤ b6 := Nat.le_trans hb.size hle6
              have : b1 < b6 := Nat.lt_of_lt_of_le (blk_lt hkb1) hle6
              have : b2 < b6 := Nat.lt_of_lt_of_le (blk_lt hkb2) hle6
              have : b4 < b6 := Nat.lt_of_lt_of_le (blk_lt hk12) hle6
              have : b5 < b6 := Nat.lt_of_lt_of_le (blk_lt hk10) hle6
              have hnr2 : (Value.slice rWa (xs.length) rWc).ownBlock ≠ some b6 := fun hq => by have := (Row.lt hrW _ hq).2; omega
              replace hkb1 := blk_ext hkb1 he7
              replace hkb2 := blk_ext hkb2 he7
              replace hk12 := blk_ext hk12 he7
              replace hk10 := blk_ext hk10 he7
              replace hrW := Row.ext hrW he7
              replace hb := hb.trans (Below.mono he7 hb.size)
              have hs1 := Row.rd (by intros; rfl) (Row.of_new (k := 8) (V := vMWt) (l := [(((wantP m y k).1.1), ((wantP m y k).1.2.1), (wantP m y k).1.2.2.1, (wantP m y k).1.2.2.2.1, (((wantP m y k).1.2.2.2.2.1.1), ((wantP m y k).1.2.2.2.2.1.2.1), (wantP m y k).1.2.2.2.2.1.2.2.1, ()), ())]) hk13 (Nat.le_refl _) rfl rfl (Nat.le_of_ble_eq_true rfl))
              refine sqdt hf (d_append (V := vMWt) (k := 8) (e := 80) (bytes := 80) (z := (.agg #[(.int .i64 (0 : Int)), (.int .i64 (0 : Int)), (.string ⟨#[]⟩), (.string ⟨#[]⟩), (.string ⟨#[]⟩), (.int .u32 (0 : Int)), (.int .u32 (0 : Int)), (.bool false)])) (news := [(((wantP m y k).1.1), ((wantP m y k).1.2.1), (wantP m y k).1.2.2.1, (wantP m y k).1.2.2.2.1, (((wantP m y k).1.2.2.2.2.1.1), ((wantP m y k).1.2.2.2.2.1.2.1), (wantP m y k).1.2.2.2.2.1.2.2.1, ()), ())]) (base := w.heap.size) (by intros; rfl) (by exact oneMWt) rfl rfl Try.underlying70 (by kernel_rfl) rfl rfl rfl hrW hs1 rfl (fun h => by cases h) (by simp only [List.length_cons, List.length_nil, List.length_append]; omega) (by have := hb.size; omega)) rfl rfl rfl ?_; clear hf fa; rintro fa v w16 ⟨hr1, hg8⟩ hf; obtain ⟨ra1, rc1, rfl, hcrc1, hmrc1⟩ := Row.slice hr1
              replace hkb1 := blk_row' hkb1 hg8 (Row.ne_type hrW hkb1 rfl)
              replace hkb2 := blk_row' hkb2 hg8 (Row.ne_type hrW hkb2 rfl)
              replace hk12 := blk_row' hk12 hg8 (Row.ne_type hrW hk12 rfl)
              replace hk10 := blk_row' hk10 hg8 hnr1
              replace hb := hb.trans (row_below hrW hg8 hb.size (by have := hb.size; omega))
              refine sqv hf (r_fa rfl Try.underlying72 (f := 0) (q := 0) rfl (by kernel_rfl) rfl) rfl rfl rfl ?_; clear hf fa; intro fa hf
              refine sqn hf (d_storeK (T := 72) (v := (.slice ra1 (((xs ++ [(((wantP m y k).1.1), ((wantP m y k).1.2.1), (wantP m y k).1.2.2.1, (wantP m y k).1.2.2.2.1, (((wantP m y k).1.2.2.2.2.1.1), ((wantP m y k).1.2.2.2.2.1.2.1), (wantP m y k).1.2.2.2.2.1.2.2.1, ()), ())])).length) rc1)) (cs := #[(.slice rWa xs.length rWc), (.int .i64 m.2.2.2.2.2.2.2.2.2.2.2.1.2.1), (.int .i64 m.2.2.2.2.2.2.2.2.2.2.2.1.2.2.2.1), (.int .u32 m.2.2.2.2.2.2.2.2.2.2.2.1.2.2.1), (.int .u32 m.2.2.2.2.2.2.2.2.2.2.2.1.2.2.2.2.1), (.int .i64 (sl + (1 : Int)))]) (cs' := #[(.slice ra1 (((xs ++ [(((wantP m y k).1.1), ((wantP m y k).1.2.1), (wantP m y k).1.2.2.1, (wantP m y k).1.2.2.2.1, (((wantP m y k).1.2.2.2.2.1.1), ((wantP m y k).1.2.2.2.2.1.2.1), (wantP m y k).1.2.2.2.2.1.2.2.1, ()), ())])).length) rc1), (.int .i64 m.2.2.2.2.2.2.2.2.2.2.2.1.2.1), (.int .i64 m.2.2.2.2.2.2.2.2.2.2.2.1.2.2.2.1), (.int .u32 m.2.2.2.2.2.2.2.2.2.2.2.1.2.2.1), (.int .u32 m.2.2.2.2.2.2.2.2.2.2.2.1.2.2.2.2.1), (.int .i64 (sl + (1 : Int)))]) rfl rfl (by kernel_rfl) (by kernel_rfl) hk12 (by kernel_rfl) (by kernel_rfl)) rfl rfl ?_; clear hf fa; rintro fa _ w17 ⟨hk14, hg9⟩ hf
              replace hkb1 := blk_grown hkb1 hg9 (by omega)
              replace hkb2 := blk_grown hkb2 hg9 (by omega)
              replace hk10 := blk_grown hk10 hg9 (by omega)
              replace hr1 := Row.grown hr1 hg9 (Row.ne_type hr1 hk12 rfl)
              replace hb := hb.trans (grown_below hg9 hb.size hBb4)
              apply wpList_nil
              (try simp only [Exit.then, Exit.inBlock, ↓reduceIte, Nat.reduceEqDiff])
              refine hK14 _ _ ?_
              refine wp_region_lit ?_
              refine sqv hf (r_add (C := (((k : Nat) : Int) + (1 : Int))) rfl rfl (by rw [IntKind.wrap_i64]; omega)) rfl rfl rfl ?_; clear hf fa; intro fa hf
              refine sqv hf (r_move rfl) rfl rfl rfl ?_; clear hf fa; intro fa hf
              apply wpList_nil
              (try simp only [Exit.then, Exit.inBlock, ↓reduceIte, Nat.reduceEqDiff])
              refine hKL1 _ _ _ (by omega) ⟨(k + 1), (xs ++ [(((wantP m y k).1.1), ((wantP m y k).1.2.1), (wantP m y k).1.2.2.1, (wantP m y k).1.2.2.2.1, (((wantP m y k).1.2.2.2.2.1.1), ((wantP m y k).1.2.2.2.2.1.2.1), (wantP m y k).1.2.2.2.2.1.2.2.1, ()), ())]), (sl + (1 : Int)), ra1, rc1, rfl, hf.sub ⟨rfl, rfl, rfl, rfl, rfl, (some_int (by first | rfl | omega)), trivial⟩, hb, (Row.relen hr1), hkb1, hkb2, hk14, by omega, (by have h := Hs; rw [drop_at hy, planR, if_neg hqt62_1] at h; exact h), (by have h := Hw; rw [drop_at hy, wantsR] at h; rw [h, List.append_assoc]; rfl), (by have h := Hz; rw [drop_at hy, slotsR, if_pos hqt68_1] at h; rw [h]; omega), (by rw [List.length_append, hxl]; rfl), (by omega)⟩
            · have hqt68_1b := hqt68_1
              replace hqt68_1 := Bool.eq_false_iff.1 hqt68_1
              try simp only [ne_eq, decide_eq_true_eq, Bool.and_eq_true, Bool.or_eq_true, Bool.not_eq_true', decide_eq_false_iff_not] at hqt68_1
              refine wp_skip ?_
              (try simp only [Exit.then, Exit.inBlock, ↓reduceIte, Nat.reduceEqDiff])
              refine hK20 _ _ ?_
              refine wp_region_lit ?_
              refine sqv hf (r_fa rfl Try.underlying72 (f := 0) (q := 0) rfl (by kernel_rfl) rfl) rfl rfl rfl ?_; clear hf fa; intro fa hf
              refine sqv hf (r_load (v := (.slice rWa xs.length rWc)) rfl Try.underlying70 rfl (cell_blk hkb4 rfl)) rfl rfl rfl ?_; clear hf fa; intro fa hf
              refine sqv hf (r_loadA (cs := [(.int .i64 ((wantP m y k).1.1)), (.int .i64 ((wantP m y k).1.2.1)), (.string (wantP m y k).1.2.2.1), (.string (wantP m y k).1.2.2.2.1.1), (.string (wantP m y k).1.2.2.2.1.2.1), (.int .u32 ((wantP m y k).1.2.2.2.2.1.1)), (.int .u32 ((wantP m y k).1.2.2.2.2.1.2.1)), (.bool (wantP m y k).1.2.2.2.2.1.2.2.1)]) rfl Try.underlying80 rfl (by kernel_rfl) (cellsAt_blk hk10)) rfl rfl rfl ?_; clear hf fa; intro fa hf
              refine sqdt hf (d_bslice (z := (.agg #[(.int .i64 (0 : Int)), (.int .i64 (0 : Int)), (.string ⟨#[]⟩), (.string ⟨#[]⟩), (.string ⟨#[]⟩), (.int .u32 (0 : Int)), (.int .u32 (0 : Int)), (.bool false)])) (sz := 8) (vs := [(0, (.agg #[(.int .i64 ((wantP m y k).1.1)), (.int .i64 ((wantP m y k).1.2.1)), (.string (wantP m y k).1.2.2.1), (.string (wantP m y k).1.2.2.2.1.1), (.string (wantP m y k).1.2.2.2.1.2.1), (.int .u32 ((wantP m y k).1.2.2.2.2.1.1)), (.int .u32 ((wantP m y k).1.2.2.2.2.1.2.1)), (.bool (wantP m y k).1.2.2.2.2.1.2.2.1)]))]) (cs := #[(.int .i64 ((wantP m y k).1.1)), (.int .i64 ((wantP m y k).1.2.1)), (.string (wantP m y k).1.2.2.1), (.string (wantP m y k).1.2.2.2.1.1), (.string (wantP m y k).1.2.2.2.1.2.1), (.int .u32 ((wantP m y k).1.2.2.2.2.1.1)), (.int .u32 ((wantP m y k).1.2.2.2.2.1.2.1)), (.bool (wantP m y k).1.2.2.2.2.1.2.2.1)]) rfl Try.underlying70 (by kernel_rfl) rfl (by kernel_rfl)) rfl rfl rfl ?_; clear hf fa; rintro fa _ w18 ⟨b7, rfl, hle7, hk15, he8⟩ hf
              have hBb7 : w.heap.size ≤ b7 := Nat.le_trans hb.size hle7
              have : b1 < b7 := Nat.lt_of_lt_of_le (blk_lt hkb1) hle7
              have : b2 < b7 := Nat.lt_of_lt_of_le (blk_lt hkb2) hle7
              have : b4 < b7 := Nat.lt_of_lt_of_le (blk_lt hkb4) hle7
              have : b5 < b7 := Nat.lt_of_lt_of_le (blk_lt hk10) hle7
              have hnr3 : (Value.slice rWa (xs.length) rWc).ownBlock ≠ some b7 := fun hq => by have := (Row.lt hrW _ hq).2; omega
              replace hkb1 := blk_ext hkb1 he8
              replace hkb2 := blk_ext hkb2 he8
              replace hkb4 := blk_ext hkb4 he8
              replace hk10 := blk_ext hk10 he8
              replace hrW := Row.ext hrW he8
              replace hb := hb.trans (Below.mono he8 hb.size)
              have hs2 := Row.rd (by intros; rfl) (Row.of_new (k := 8) (V := vMWt) (l := [(((wantP m y k).1.1), ((wantP m y k).1.2.1), (wantP m y k).1.2.2.1, (wantP m y k).1.2.2.2.1, (((wantP m y k).1.2.2.2.2.1.1), ((wantP m y k).1.2.2.2.2.1.2.1), (wantP m y k).1.2.2.2.2.1.2.2.1, ()), ())]) hk15 (Nat.le_refl _) rfl rfl (Nat.le_of_ble_eq_true rfl))
              refine sqdt hf (d_append (V := vMWt) (k := 8) (e := 80) (bytes := 80) (z := (.agg #[(.int .i64 (0 : Int)), (.int .i64 (0 : Int)), (.string ⟨#[]⟩), (.string ⟨#[]⟩), (.string ⟨#[]⟩), (.int .u32 (0 : Int)), (.int .u32 (0 : Int)), (.bool false)])) (news := [(((wantP m y k).1.1), ((wantP m y k).1.2.1), (wantP m y k).1.2.2.1, (wantP m y k).1.2.2.2.1, (((wantP m y k).1.2.2.2.2.1.1), ((wantP m y k).1.2.2.2.2.1.2.1), (wantP m y k).1.2.2.2.2.1.2.2.1, ()), ())]) (base := w.heap.size) (by intros; rfl) (by exact oneMWt) rfl rfl Try.underlying70 (by kernel_rfl) rfl rfl rfl hrW hs2 rfl (fun h => by cases h) (by simp only [List.length_cons, List.length_nil, List.length_append]; omega) (by have := hb.size; omega)) rfl rfl rfl ?_; clear hf fa; rintro fa v w19 ⟨hr2, hg10⟩ hf; obtain ⟨ra2, rc2, rfl, hcrc2, hmrc2⟩ := Row.slice hr2
              replace hkb1 := blk_row' hkb1 hg10 (Row.ne_type hrW hkb1 rfl)
              replace hkb2 := blk_row' hkb2 hg10 (Row.ne_type hrW hkb2 rfl)
              replace hkb4 := blk_row' hkb4 hg10 (Row.ne_type hrW hkb4 rfl)
              replace hk10 := blk_row' hk10 hg10 hnr1
              replace hb := hb.trans (row_below hrW hg10 hb.size (by have := hb.size; omega))
              refine sqv hf (r_fa rfl Try.underlying72 (f := 0) (q := 0) rfl (by kernel_rfl) rfl) rfl rfl rfl ?_; clear hf fa; intro fa hf
              refine sqn hf (d_storeK (T := 72) (v := (.slice ra2 (((xs ++ [(((wantP m y k).1.1), ((wantP m y k).1.2.1), (wantP m y k).1.2.2.1, (wantP m y k).1.2.2.2.1, (((wantP m y k).1.2.2.2.2.1.1), ((wantP m y k).1.2.2.2.2.1.2.1), (wantP m y k).1.2.2.2.2.1.2.2.1, ()), ())])).length) rc2)) (cs := #[(.slice rWa xs.length rWc), (.int .i64 m.2.2.2.2.2.2.2.2.2.2.2.1.2.1), (.int .i64 m.2.2.2.2.2.2.2.2.2.2.2.1.2.2.2.1), (.int .u32 m.2.2.2.2.2.2.2.2.2.2.2.1.2.2.1), (.int .u32 m.2.2.2.2.2.2.2.2.2.2.2.1.2.2.2.2.1), (.int .i64 sl)]) (cs' := #[(.slice ra2 (((xs ++ [(((wantP m y k).1.1), ((wantP m y k).1.2.1), (wantP m y k).1.2.2.1, (wantP m y k).1.2.2.2.1, (((wantP m y k).1.2.2.2.2.1.1), ((wantP m y k).1.2.2.2.2.1.2.1), (wantP m y k).1.2.2.2.2.1.2.2.1, ()), ())])).length) rc2), (.int .i64 m.2.2.2.2.2.2.2.2.2.2.2.1.2.1), (.int .i64 m.2.2.2.2.2.2.2.2.2.2.2.1.2.2.2.1), (.int .u32 m.2.2.2.2.2.2.2.2.2.2.2.1.2.2.1), (.int .u32 m.2.2.2.2.2.2.2.2.2.2.2.1.2.2.2.2.1), (.int .i64 sl)]) rfl rfl (by kernel_rfl) (by kernel_rfl) hkb4 (by kernel_rfl) (by kernel_rfl)) rfl rfl ?_; clear hf fa; rintro fa _ w20 ⟨hk16, hg11⟩ hf
              replace hkb1 := blk_grown hkb1 hg11 (by omega)
              replace hkb2 := blk_grown hkb2 hg11 (by omega)
              replace hk10 := blk_grown hk10 hg11 (by omega)
              replace hr2 := Row.grown hr2 hg11 (Row.ne_type hr2 hkb4 rfl)
              replace hb := hb.trans (grown_below hg11 hb.size hBb4)
              apply wpList_nil
              (try simp only [Exit.then, Exit.inBlock, ↓reduceIte, Nat.reduceEqDiff])
              refine hK14 _ _ ?_
              refine wp_region_lit ?_
              refine sqv hf (r_add (C := (((k : Nat) : Int) + (1 : Int))) rfl rfl (by rw [IntKind.wrap_i64]; omega)) rfl rfl rfl ?_; clear hf fa; intro fa hf
              refine sqv hf (r_move rfl) rfl rfl rfl ?_; clear hf fa; intro fa hf
              apply wpList_nil
              (try simp only [Exit.then, Exit.inBlock, ↓reduceIte, Nat.reduceEqDiff])
              refine hKL1 _ _ _ (by omega) ⟨(k + 1), (xs ++ [(((wantP m y k).1.1), ((wantP m y k).1.2.1), (wantP m y k).1.2.2.1, (wantP m y k).1.2.2.2.1, (((wantP m y k).1.2.2.2.2.1.1), ((wantP m y k).1.2.2.2.2.1.2.1), (wantP m y k).1.2.2.2.2.1.2.2.1, ()), ())]), sl, ra2, rc2, rfl, hf.sub ⟨rfl, rfl, rfl, rfl, rfl, (some_int (by first | rfl | omega)), trivial⟩, hb, (Row.relen hr2), hkb1, hkb2, hk16, by omega, (by have h := Hs; rw [drop_at hy, planR, if_neg hqt62_1] at h; exact h), (by have h := Hw; rw [drop_at hy, wantsR] at h; rw [h, List.append_assoc]; rfl), (by have h := Hz; rw [drop_at hy, slotsR, if_neg hqt68_1] at h; rw [h]; omega), (by rw [List.length_append, hxl]; rfl), (by omega)⟩
        · have hqt53_1b := hqt53_1
          replace hqt53_1 := Bool.eq_false_iff.1 hqt53_1
          try simp only [ne_eq, decide_eq_true_eq, Bool.and_eq_true, Bool.or_eq_true, Bool.not_eq_true', decide_eq_false_iff_not] at hqt53_1
          refine wp_exit ?_
          (try simp only [Exit.then, Exit.inBlock, ↓reduceIte, Nat.reduceEqDiff])
          refine hK10 _ _ ?_
          refine wp_seq_k (fun K22 hK22 => ?_)
          refine wp_region_unT 5 (fun wc => (w9.grownBy wc (some b2) ∧ (wc.heap[b2]? = some (.cells #[(.slice none 0 0), (.int .i64 (0 : Int)), (.int .i64 (0 : Int)), (.int .u32 (0 : Int)), (.int .u32 (0 : Int)), (.int .i64 (0 : Int))] 72 (0, 0)) ∨ wc.heap[b2]? = some (.cells #[(.slice rWa xs.length rWc), (.int .i64 m.2.2.2.2.2.2.2.2.2.2.2.1.2.1), (.int .i64 m.2.2.2.2.2.2.2.2.2.2.2.1.2.2.2.1), (.int .u32 m.2.2.2.2.2.2.2.2.2.2.2.1.2.2.1), (.int .u32 m.2.2.2.2.2.2.2.2.2.2.2.1.2.2.2.2.1), (.int .i64 sl)] 72 (0, 0))))) (fun wa wc => ((w9.grownBy wa (some b2) ∧ (wa.heap[b2]? = some (.cells #[(.slice none 0 0), (.int .i64 (0 : Int)), (.int .i64 (0 : Int)), (.int .u32 (0 : Int)), (.int .u32 (0 : Int)), (.int .i64 (0 : Int))] 72 (0, 0)) ∨ wa.heap[b2]? = some (.cells #[(.slice rWa xs.length rWc), (.int .i64 m.2.2.2.2.2.2.2.2.2.2.2.1.2.1), (.int .i64 m.2.2.2.2.2.2.2.2.2.2.2.1.2.2.2.1), (.int .u32 m.2.2.2.2.2.2.2.2.2.2.2.1.2.2.1), (.int .u32 m.2.2.2.2.2.2.2.2.2.2.2.1.2.2.2.2.1), (.int .i64 sl)] 72 (0, 0)))) → (w9.grownBy wc (some b2) ∧ (wc.heap[b2]? = some (.cells #[(.slice none 0 0), (.int .i64 (0 : Int)), (.int .i64 (0 : Int)), (.int .u32 (0 : Int)), (.int .u32 (0 : Int)), (.int .i64 (0 : Int))] 72 (0, 0)) ∨ wc.heap[b2]? = some (.cells #[(.slice rWa xs.length rWc), (.int .i64 m.2.2.2.2.2.2.2.2.2.2.2.1.2.1), (.int .i64 m.2.2.2.2.2.2.2.2.2.2.2.1.2.2.2.1), (.int .u32 m.2.2.2.2.2.2.2.2.2.2.2.1.2.2.1), (.int .u32 m.2.2.2.2.2.2.2.2.2.2.2.1.2.2.2.2.1), (.int .i64 sl)] 72 (0, 0))))) ∧ wa.heap.size ≤ wc.heap.size ∧ (wa.heap[b2]? = some (.cells #[(.slice rWa xs.length rWc), (.int .i64 m.2.2.2.2.2.2.2.2.2.2.2.1.2.1), (.int .i64 m.2.2.2.2.2.2.2.2.2.2.2.1.2.2.2.1), (.int .u32 m.2.2.2.2.2.2.2.2.2.2.2.1.2.2.1), (.int .u32 m.2.2.2.2.2.2.2.2.2.2.2.1.2.2.2.2.1), (.int .i64 sl)] 72 (0, 0)) → wc.heap[b2]? = some (.cells #[(.slice rWa xs.length rWc), (.int .i64 m.2.2.2.2.2.2.2.2.2.2.2.1.2.1), (.int .i64 m.2.2.2.2.2.2.2.2.2.2.2.1.2.2.2.1), (.int .u32 m.2.2.2.2.2.2.2.2.2.2.2.1.2.2.1), (.int .u32 m.2.2.2.2.2.2.2.2.2.2.2.1.2.2.2.2.1), (.int .i64 sl)] 72 (0, 0))))
            (fun V => [(fun x _ => x = (.agg #[(.slice rWa xs.length rWc), (.int .i64 m.2.2.2.2.2.2.2.2.2.2.2.1.2.1), (.int .i64 m.2.2.2.2.2.2.2.2.2.2.2.1.2.2.2.1), (.int .u32 m.2.2.2.2.2.2.2.2.2.2.2.1.2.2.1), (.int .u32 m.2.2.2.2.2.2.2.2.2.2.2.1.2.2.2.2.1), (.int .i64 sl)])), (fun x _ => x = (.pointer (some ⟨b1, 1, none⟩))), (fun x _ => x = (.slice m.2.1.at' m.2.1.len m.2.1.cap)), (fun x _ => x = (.int .i64 ((m.2.1.len : Nat) : Int))), (fun _ wq => wq.heap[b2]? = some (.cells #[(.slice rWa xs.length rWc), (.int .i64 m.2.2.2.2.2.2.2.2.2.2.2.1.2.1), (.int .i64 m.2.2.2.2.2.2.2.2.2.2.2.1.2.2.2.1), (.int .u32 m.2.2.2.2.2.2.2.2.2.2.2.1.2.2.1), (.int .u32 m.2.2.2.2.2.2.2.2.2.2.2.1.2.2.2.2.1), (.int .i64 sl)] 72 (0, 0)))])
            []
            [[], [], [1], [2], [0], [], []]
            hf (by kernel_rfl) (by kernel_rfl) (by kernel_rfl) (fun _ => rfl) ⟨below_grown (Below.refl _ _).drew, .inl (blk_ext hkb2 (Below.refl _ _).drew)⟩ (fun a b h1 h2 => h2.1 h1) (fun _ _ h => h.2.1) (fun V => ⟨(fun _ _ _ h _ => h), (fun _ _ _ h _ => h), (fun _ _ _ h _ => h), (fun _ _ _ h _ => h), (fun _ _ _ h hG => hG.2.2 h), trivial⟩) (fun _ _ _ _ _ => rfl) ?_ ?_
          · skip
            intro V
            refine ⟨fun wu0 hC hd => ?_, ?_⟩
            · clear hd
              have hgC := hC.1
              replace hkb1 := blk_grown hkb1 hgC (by omega)
              replace hkb4 := blk_grown hkb4 hgC (by omega)
              replace hrW := Row.grown hrW hgC (Row.ne_type hrW hkb2 rfl)
              replace hb := hb.trans (grown_below hgC hb.size hBb2)
              exact Runs.does (r_loadA (cs := [(.slice rWa xs.length rWc), (.int .i64 m.2.2.2.2.2.2.2.2.2.2.2.1.2.1), (.int .i64 m.2.2.2.2.2.2.2.2.2.2.2.1.2.2.2.1), (.int .u32 m.2.2.2.2.2.2.2.2.2.2.2.1.2.2.1), (.int .u32 m.2.2.2.2.2.2.2.2.2.2.2.1.2.2.2.2.1), (.int .i64 sl)]) rfl Try.underlying72 rfl (by kernel_rfl) (cellsAt_blk hkb4)) ⟨⟨id, Nat.le_refl _, id⟩, rfl, nofr rfl⟩
            refine ⟨fun wu1 hC hd => ?_, ?_⟩
            · clear hd
              have hgC := hC.1
              replace hkb1 := blk_grown hkb1 hgC (by omega)
              replace hkb4 := blk_grown hkb4 hgC (by omega)
              replace hrW := Row.grown hrW hgC (Row.ne_type hrW hkb2 rfl)
              replace hb := hb.trans (grown_below hgC hb.size hBb2)
              exact Runs.does (r_fa rfl Try.underlying67 (f := 1) (q := 1) rfl (by kernel_rfl) rfl) ⟨⟨id, Nat.le_refl _, id⟩, rfl, nofr rfl⟩
            refine ⟨fun wu2 hC hd => ?_, ?_⟩
            · obtain ⟨h1, _⟩ := hd
              replace h1 : V 1 = (.pointer (some ⟨b1, 1, none⟩)) := h1
              have hgC := hC.1
              replace hkb1 := blk_grown hkb1 hgC (by omega)
              replace hkb4 := blk_grown hkb4 hgC (by omega)
              replace hrW := Row.grown hrW hgC (Row.ne_type hrW hkb2 rfl)
              replace hb := hb.trans (grown_below hgC hb.size hBb2)
              exact Runs.does (r_load (v := (.slice m.2.1.at' m.2.1.len m.2.1.cap)) (congrArg some h1) Try.underlying57 rfl (cell_blk hkb1 rfl)) ⟨⟨id, Nat.le_refl _, id⟩, rfl, nofr rfl⟩
            refine ⟨fun wu3 hC hd => ?_, ?_⟩
            · obtain ⟨h2, _⟩ := hd
              replace h2 : V 2 = (.slice m.2.1.at' m.2.1.len m.2.1.cap) := h2
              have hgC := hC.1
              replace hkb1 := blk_grown hkb1 hgC (by omega)
              replace hkb4 := blk_grown hkb4 hgC (by omega)
              replace hrW := Row.grown hrW hgC (Row.ne_type hrW hkb2 rfl)
              replace hb := hb.trans (grown_below hgC hb.size hBb2)
              exact Runs.does (r_lensl (congrArg some h2) Try.underlying57) ⟨⟨id, Nat.le_refl _, id⟩, rfl, nofr rfl⟩
            refine ⟨fun wu4 hC hd => ?_, ?_⟩
            · obtain ⟨h0, _⟩ := hd
              replace h0 : V 0 = (.agg #[(.slice rWa xs.length rWc), (.int .i64 m.2.2.2.2.2.2.2.2.2.2.2.1.2.1), (.int .i64 m.2.2.2.2.2.2.2.2.2.2.2.1.2.2.2.1), (.int .u32 m.2.2.2.2.2.2.2.2.2.2.2.1.2.2.1), (.int .u32 m.2.2.2.2.2.2.2.2.2.2.2.1.2.2.2.2.1), (.int .i64 sl)]) := h0
              have hgC := hC.1
              replace hkb1 := blk_grown hkb1 hgC (by omega)
              replace hkb4 := blk_grown hkb4 hgC (by omega)
              replace hrW := Row.grown hrW hgC (Row.ne_type hrW hkb2 rfl)
              replace hb := hb.trans (grown_below hgC hb.size hBb2)
              rcases hC.2 with hX | hX
              · refine Does.mono (d_storeK (T := 72) (v := (.agg #[(.slice rWa xs.length rWc), (.int .i64 m.2.2.2.2.2.2.2.2.2.2.2.1.2.1), (.int .i64 m.2.2.2.2.2.2.2.2.2.2.2.1.2.2.2.1), (.int .u32 m.2.2.2.2.2.2.2.2.2.2.2.1.2.2.1), (.int .u32 m.2.2.2.2.2.2.2.2.2.2.2.1.2.2.2.2.1), (.int .i64 sl)])) (cs := #[(.slice none 0 0), (.int .i64 (0 : Int)), (.int .i64 (0 : Int)), (.int .u32 (0 : Int)), (.int .u32 (0 : Int)), (.int .i64 (0 : Int))]) (cs' := #[(.slice rWa xs.length rWc), (.int .i64 m.2.2.2.2.2.2.2.2.2.2.2.1.2.1), (.int .i64 m.2.2.2.2.2.2.2.2.2.2.2.1.2.2.2.1), (.int .u32 m.2.2.2.2.2.2.2.2.2.2.2.1.2.2.1), (.int .u32 m.2.2.2.2.2.2.2.2.2.2.2.1.2.2.2.2.1), (.int .i64 sl)]) rfl (congrArg some h0) (by kernel_rfl) (by kernel_rfl) hX (by kernel_rfl) (by kernel_rfl)) ?_
                rintro _ wz ⟨hY, hgY⟩
                exact ⟨⟨fun _ => ⟨grownBy_trans hgC hgY, .inr hY⟩, hgY.size, fun _ => hY⟩, hY, nofr rfl⟩
              · refine Does.mono (d_storeK (T := 72) (v := (.agg #[(.slice rWa xs.length rWc), (.int .i64 m.2.2.2.2.2.2.2.2.2.2.2.1.2.1), (.int .i64 m.2.2.2.2.2.2.2.2.2.2.2.1.2.2.2.1), (.int .u32 m.2.2.2.2.2.2.2.2.2.2.2.1.2.2.1), (.int .u32 m.2.2.2.2.2.2.2.2.2.2.2.1.2.2.2.2.1), (.int .i64 sl)])) (cs := #[(.slice rWa xs.length rWc), (.int .i64 m.2.2.2.2.2.2.2.2.2.2.2.1.2.1), (.int .i64 m.2.2.2.2.2.2.2.2.2.2.2.1.2.2.2.1), (.int .u32 m.2.2.2.2.2.2.2.2.2.2.2.1.2.2.1), (.int .u32 m.2.2.2.2.2.2.2.2.2.2.2.1.2.2.2.2.1), (.int .i64 sl)]) (cs' := #[(.slice rWa xs.length rWc), (.int .i64 m.2.2.2.2.2.2.2.2.2.2.2.1.2.1), (.int .i64 m.2.2.2.2.2.2.2.2.2.2.2.1.2.2.2.1), (.int .u32 m.2.2.2.2.2.2.2.2.2.2.2.1.2.2.1), (.int .u32 m.2.2.2.2.2.2.2.2.2.2.2.1.2.2.2.2.1), (.int .i64 sl)]) rfl (congrArg some h0) (by kernel_rfl) (by kernel_rfl) hX (by kernel_rfl) (by kernel_rfl)) ?_
                rintro _ wz ⟨hY, hgY⟩
                exact ⟨⟨fun _ => ⟨grownBy_trans hgC hgY, .inr hY⟩, hgY.size, fun _ => hY⟩, hY, nofr rfl⟩
            trivial
          · skip
            clear hf fa; intro V w21 fa he9 hp hnb hf
            have hg12 := he9.1
            have hv0 : V 0 = (.agg #[(.slice rWa xs.length rWc), (.int .i64 m.2.2.2.2.2.2.2.2.2.2.2.1.2.1), (.int .i64 m.2.2.2.2.2.2.2.2.2.2.2.1.2.2.2.1), (.int .u32 m.2.2.2.2.2.2.2.2.2.2.2.1.2.2.1), (.int .u32 m.2.2.2.2.2.2.2.2.2.2.2.1.2.2.2.2.1), (.int .i64 sl)]) := postsHold_at hp 0 rfl
            have hv1 : V 1 = (.pointer (some ⟨b1, 1, none⟩)) := postsHold_at hp 1 rfl
            have hv2 : V 2 = (.slice m.2.1.at' m.2.1.len m.2.1.cap) := postsHold_at hp 2 rfl
            have hv3 : V 3 = (.int .i64 ((m.2.1.len : Nat) : Int)) := postsHold_at hp 3 rfl
            have hk17 := postsHold_at hp 4 rfl
            simp only [List.take_succ_cons, List.take_zero, insAll, ins, hv0, hv1, hv2, hv3] at hf
            clear hp hnb hv0 hv1 hv2 hv3
            replace hkb1 := blk_grown hkb1 hg12 (by omega)
            replace hkb4 := blk_grown hkb4 hg12 (by omega)
            replace hrW := Row.grown hrW hg12 (Row.ne_type hrW hkb2 rfl)
            replace hb := hb.trans (grown_below hg12 hb.size hBb2)
            replace hk17 : w21.heap[b2]? = some (.cells #[(.slice rWa xs.length rWc), (.int .i64 m.2.2.2.2.2.2.2.2.2.2.2.1.2.1), (.int .i64 m.2.2.2.2.2.2.2.2.2.2.2.1.2.2.2.1), (.int .u32 m.2.2.2.2.2.2.2.2.2.2.2.1.2.2.1), (.int .u32 m.2.2.2.2.2.2.2.2.2.2.2.1.2.2.2.2.1), (.int .i64 sl)] 72 (0, 0)) := hk17
            simp only [List.drop_succ_cons, List.drop_zero]
            refine sqv hf (r_assign rfl) rfl rfl rfl ?_; clear hf fa; intro fa hf
            refine sqv hf (r_assign rfl) rfl rfl rfl ?_; clear hf fa; intro fa hf
            apply wpList_nil
            (try simp only [Exit.then, Exit.inBlock, ↓reduceIte, Nat.reduceEqDiff])
            refine hK22 _ _ ?_
            refine wp_ret ?_
            (try simp only [Exit.then, Exit.inBlock])
            refine retCTT hf rfl rfl hk17 Try.underlying72 rfl (by kernel_rfl) rfl rfl ?_
            obtain rfl : k = m.2.1.len := by omega
            have hdn : m.2.1.list.drop m.2.1.len = [] := List.drop_eq_nil_of_le (by rw [Sl.list_length]; exact Nat.le_refl _)
            rw [hdn] at Hs Hw Hz
            have hP : ofP m = (xs, m.2.2.2.2.2.2.2.2.2.2.2.1.2.1, m.2.2.2.2.2.2.2.2.2.2.2.1.2.2.2.1, m.2.2.2.2.2.2.2.2.2.2.2.1.2.2.1, m.2.2.2.2.2.2.2.2.2.2.2.1.2.2.2.2.1, sl, ((m.2.1.len : Nat) : Int), (0 : Int)) := by unfold ofP; rw [hqt25_1b, hqt36_1b, Hs]; simp only [cond_false, planR]; rw [Hw, Hz]; simp only [wantsR, slotsR, List.append_nil, Int.add_zero]
            rw [hP]; exact ⟨_, rfl, rWa, rWc, rfl, hrW, hb⟩
end Go.Proofs.Ytahgkfekggkjnaa
