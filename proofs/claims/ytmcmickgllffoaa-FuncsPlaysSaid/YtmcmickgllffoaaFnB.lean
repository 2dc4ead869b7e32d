/- What is proved here: functions by numbers: the state. -/
import Derived.Test.YtmcmickgllffoaaFnA
namespace Go.Proofs.Ytmcmickgllffoaa
open Go.RowKit
set_option linter.unusedVariables false
set_option linter.unusedSimpArgs false
def FSt (B : Nat) (w : World) (p : Nat) (L : List (Option MFn)) (Sl_ : List Int) : Prop := ∃ (a b : Option Addr) (c d : Nat) (ps : List (Option Addr)), w.heap[p]? = some (.cells #[.slice a ps.length c, .slice b Sl_.length d] 122 (0, 0)) ∧ Row 1 vPF 123 B w (.slice a ps.length c) ps ∧ Row 1 (vInt .i64) 3 B w (.slice b Sl_.length d) Sl_ ∧ B ≤ p ∧ ps.length ≤ 1000 ∧ ps.length = Sl_.length ∧ FRel w ps L
theorem FSt.ext {B : Nat} {w w' : World} {p : Nat} {L : List (Option MFn)} {Sl_ : List Int} (h : FSt B w p L Sl_) (hb : Below w.heap.size w w') : FSt B w' p L Sl_ := by
  obtain ⟨a, b, c, d, ps, h1, h2, h3, h4, h5, h6, h7⟩ := h
  exact ⟨a, b, c, d, ps, blk_ext h1 hb, h2.ext hb, h3.ext hb, h4, h5, h6, h7.ext hb⟩
def stL (L : List (Option MFn)) (Sl_ : List Int) (i : Int) : Int × Int := if liveL L i = true then (Sl_.getD i.toNat 0, 0) else (0, 47)
theorem stands_F {B p : Nat} {L : List (Option MFn)} {Sl_ : List Int} {w : World} (hF : FSt B w p L Sl_) (i : Int) : Calls Try.prog 64 #[.pointer (some ⟨p, 0, none⟩), .int .i64 i] w fun e w' => e = .returned (.tuple #[.int .i64 (stL L Sl_ i).1, .int .i64 (stL L Sl_ i).2]) ∧ Below w.heap.size w w' := by
  obtain ⟨a, b, c, d, ps, h1, h2, h3, h4, h5, h6, h7⟩ := hF
  have h := stands_any B p a b c d ps Sl_ w h1 h2 h3 h4 h5 h6 i
  rw [show stP ps Sl_ i = stL L Sl_ i from by unfold stP stL; rw [h7.live]] at h
  exact h
theorem get_F {B p : Nat} {L : List (Option MFn)} {Sl_ : List Int} {w : World} (hF : FSt B w p L Sl_) (i : Int) : Calls Try.prog 16 #[.pointer (some ⟨p, 0, none⟩), .int .i64 i] w fun e w' => e = .returned (.tuple #[fnV (gotL L i), .bool (liveL L i)]) ∧ Below w.heap.size w w' := by
  obtain ⟨a, b, c, d, ps, h1, h2, h3, h4, h5, h6, h7⟩ := hF
  exact get_any B p a b c d ps Sl_ w h1 h2 h3 h4 h5 h6 L h7 i
def callL (L : List (Option MFn)) (Sl_ : List Int) (i : Int) : MFn × Int := if (stL L Sl_ i).2 = 0 then (if liveL L (stL L Sl_ i).1 = true then (gotL L (stL L Sl_ i).1, 0) else (zFn, 47)) else (zFn, (stL L Sl_ i).2)

set_option maxHeartbeats 1000000 in
set_option maxRecDepth 100000 in
theorem called_any (B p : Nat) (L : List (Option MFn)) (Sl_ : List Int) (w : World) (hF : FSt B w p L Sl_) (i : Int) : Calls Try.prog 17 #[(.pointer (some ⟨p, 0, none⟩)), (.int .i64 i)] w fun e w' => e = .returned (.tuple #[fnV (callL L Sl_ i).1, .int .i64 (callL L Sl_ i).2]) ∧ Below w.heap.size w w' := by
  refine sx_enter (L := [(0, (.pointer (some ⟨p, 0, none⟩))), (1, (.int .i64 i))]) Try.func17 rfl rfl rfl rfl (fun fa hf => ?_)
  have hb : Below w.heap.size w w := Below.refl _ _
  refine wp_seq_k (fun K1 hK1 => ?_)
  refine wp_region_lit ?_
  refine sqdt hf (d_alloc (z := (.agg #[(.string ⟨#[]⟩), (.string ⟨#[]⟩), (.int .i64 (0 : Int)), (.string ⟨#[]⟩), (.slice none 0 0), (.slice none 0 0), (.slice none 0 0)])) (cs := #[(.string ⟨#[]⟩), (.string ⟨#[]⟩), (.int .i64 (0 : Int)), (.string ⟨#[]⟩), (.slice none 0 0), (.slice none 0 0), (.slice none 0 0)]) (by kernel_rfl) rfl) rfl rfl rfl ?_; clear hf fa; rintro fa _ w1 ⟨b1, rfl, hle1, hk1, he1⟩ hf
  have hBb1 : w.heap.size ≤ b1 := Nat.le_trans hb.size hle1
  replace hb := hb.trans (Below.mono he1 hb.size)
  refine sqv hf (r_assign rfl) rfl rfl rfl ?_; clear hf fa; intro fa hf
  apply wpList_nil
  (try simp only [Exit.then, Exit.inBlock, ↓reduceIte, Nat.reduceEqDiff])
  refine hK1 _ _ ?_
  refine wp_seq_k (fun K2 hK2 => ?_)
  refine wp_region_lit ?_
  refine sqv hf (r_move rfl) rfl rfl rfl ?_; clear hf fa; intro fa hf
  refine sqv hf (r_move rfl) rfl rfl rfl ?_; clear hf fa; intro fa hf
  refine sqdt hf (d_callB (vs := [(.pointer (some ⟨p, 0, none⟩)), (.int .i64 i)]) rfl Try.func64 (by kernel_rfl) (by kernel_rfl) (stands_F (hF.ext hb) i)) rfl rfl rfl ?_; clear hf fa; rintro fa _ w2 ⟨rfl, he2⟩ hf
  replace hk1 := blk_ext hk1 he2
  replace hb := hb.trans (Below.mono he2 hb.size)
  refine sqv hf (r_move rfl) rfl rfl rfl ?_; clear hf fa; intro fa hf
  refine sqv hf (r_extract rfl (i := 0) rfl) rfl rfl rfl ?_; clear hf fa; intro fa hf
  refine sqv hf (r_extract rfl (i := 1) rfl) rfl rfl rfl ?_; clear hf fa; intro fa hf
  refine sqv hf (r_assign rfl) rfl rfl rfl ?_; clear hf fa; intro fa hf
  refine sqv hf (r_assign rfl) rfl rfl rfl ?_; clear hf fa; intro fa hf
  apply wpList_nil
  (try simp only [Exit.then, Exit.inBlock, ↓reduceIte, Nat.reduceEqDiff])
  refine hK2 _ _ ?_
  refine wp_seq_k (fun K3 hK3 => ?_)
  refine wp_seq_k (fun K4 hK4 => ?_)
  refine wp_region_lit ?_
  refine sqv hf (r_move rfl) rfl rfl rfl ?_; clear hf fa; intro fa hf
  refine sqv hf (r_ne rfl rfl) rfl rfl rfl ?_; clear hf fa; intro fa hf
  apply wpList_nil
  (try simp only [Exit.then, Exit.inBlock, ↓reduceIte, Nat.reduceEqDiff])
  refine hK4 _ _ ?_
  refine wp_cond_split (t := (decide (((stL L Sl_ i).2) ≠ (0 : Int)))) (hf.ev rfl) (fun hqt17_1 => ?_) (fun hqt17_1 => ?_)
  · have hqt17_1b := hqt17_1
    try simp only [decide_eq_true_eq, Bool.and_eq_true, Bool.or_eq_true, Bool.not_eq_true', decide_eq_false_iff_not, ne_eq, Bool.not_eq_true] at hqt17_1
    refine wp_seq_k (fun K5 hK5 => ?_)
    refine wp_region_lit ?_
    refine sqv hf (r_build (vs := []) (cs := #[(.string ⟨#[]⟩), (.string ⟨#[]⟩), (.int .i64 (0 : Int)), (.string ⟨#[]⟩), (.slice none 0 0), (.slice none 0 0), (.slice none 0 0)]) rfl (fun _ => by kernel_rfl)) rfl rfl rfl ?_; clear hf fa; intro fa hf
    refine sqv hf (r_move rfl) rfl rfl rfl ?_; clear hf fa; intro fa hf
    refine sqn hf (d_storeK (T := 37) (v := (.agg #[(.string ⟨#[]⟩), (.string ⟨#[]⟩), (.int .i64 (0 : Int)), (.string ⟨#[]⟩), (.slice none 0 0), (.slice none 0 0), (.slice none 0 0)])) (cs := #[(.string ⟨#[]⟩), (.string ⟨#[]⟩), (.int .i64 (0 : Int)), (.string ⟨#[]⟩), (.slice none 0 0), (.slice none 0 0), (.slice none 0 0)]) (cs' := #[(.string ⟨#[]⟩), (.string ⟨#[]⟩), (.int .i64 (0 : Int)), (.string ⟨#[]⟩), (.slice none 0 0), (.slice none 0 0), (.slice none 0 0)]) rfl rfl (by kernel_rfl) (by kernel_rfl) hk1 (by kernel_rfl) (by kernel_rfl)) rfl rfl ?_; clear hf fa; rintro fa _ w3 ⟨hk2, hg1⟩ hf
    replace hb := hb.trans (grown_below hg1 hb.size hBb1)
    refine sqv hf (r_assign rfl) rfl rfl rfl ?_; clear hf fa; intro fa hf
    apply wpList_nil
    (try simp only [Exit.then, Exit.inBlock, ↓reduceIte, Nat.reduceEqDiff])
    refine hK5 _ _ ?_
    refine wp_ret ?_
    (try simp only [Exit.then, Exit.inBlock])
    refine retCT hf rfl rfl hk2 Try.underlying37 rfl (by kernel_rfl) rfl ?_
    have hD : callL L Sl_ i = (zFn, (stL L Sl_ i).2) := by unfold callL; rw [if_neg (by have h := hqt17_1; first | exact h | simpa using h)]
    rw [hD]; exact ⟨rfl, hb⟩
  · have hqt17_1b := hqt17_1
    replace hqt17_1 := Bool.eq_false_iff.1 hqt17_1
    try simp only [ne_eq, decide_eq_true_eq, Bool.and_eq_true, Bool.or_eq_true, Bool.not_eq_true', decide_eq_false_iff_not] at hqt17_1
    refine wp_skip ?_
    (try simp only [Exit.then, Exit.inBlock, ↓reduceIte, Nat.reduceEqDiff])
    refine hK3 _ _ ?_
    refine wp_seq_k (fun K6 hK6 => ?_)
    refine wp_region_lit ?_
    refine sqv hf (r_move rfl) rfl rfl rfl ?_; clear hf fa; intro fa hf
    refine sqv hf (r_move rfl) rfl rfl rfl ?_; clear hf fa; intro fa hf
    refine sqdt hf (d_callB (vs := [(.pointer (some ⟨p, 0, none⟩)), (.int .i64 ((stL L Sl_ i).1))]) rfl Try.func16 (by kernel_rfl) (by kernel_rfl) (get_F (hF.ext hb) ((stL L Sl_ i).1))) rfl rfl rfl ?_; clear hf fa; rintro fa _ w4 ⟨rfl, he3⟩ hf
    replace hk1 := blk_ext hk1 he3
    replace hb := hb.trans (Below.mono he3 hb.size)
    refine sqv hf (r_move rfl) rfl rfl rfl ?_; clear hf fa; intro fa hf
    refine sqv hf (r_extract rfl (i := 0) rfl) rfl rfl rfl ?_; clear hf fa; intro fa hf
    refine sqv hf (r_extract rfl (i := 1) rfl) rfl rfl rfl ?_; clear hf fa; intro fa hf
    refine sqdt hf (d_alloc (z := (.agg #[(.string ⟨#[]⟩), (.string ⟨#[]⟩), (.int .i64 (0 : Int)), (.string ⟨#[]⟩), (.slice none 0 0), (.slice none 0 0), (.slice none 0 0)])) (cs := #[(.string ⟨#[]⟩), (.string ⟨#[]⟩), (.int .i64 (0 : Int)), (.string ⟨#[]⟩), (.slice none 0 0), (.slice none 0 0), (.slice none 0 0)]) (by kernel_rfl) rfl) rfl rfl rfl ?_; clear hf fa; rintro fa _ w5 ⟨b2, rfl, hle2, hk3, he4⟩ hf
    have hBb2 : w.heap.size ≤ b2 := Nat.le_trans hb.size hle2
    have : b1 < b2 := Nat.lt_of_lt_of_le (blk_lt hk1) hle2
    replace hk1 := blk_ext hk1 he4
    replace hb := hb.trans (Below.mono he4 hb.size)
    refine sqn hf (d_storeK (T := 37) (v := (.agg #[(.string (gotL L ((stL L Sl_ i).1)).1), (.string (gotL L ((stL L Sl_ i).1)).2.1), (.int .i64 ((gotL L ((stL L Sl_ i).1)).2.2.1)), (.string ⟨#[]⟩), (.slice (gotL L ((stL L Sl_ i).1)).2.2.2.1 ((gotL L ((stL L Sl_ i).1)).2.2.2.2) (gotL L ((stL L Sl_ i).1)).2.2.2.2), (.slice none 0 0), (.slice none 0 0)])) (cs := #[(.string ⟨#[]⟩), (.string ⟨#[]⟩), (.int .i64 (0 : Int)), (.string ⟨#[]⟩), (.slice none 0 0), (.slice none 0 0), (.slice none 0 0)]) (cs' := #[(.string (gotL L ((stL L Sl_ i).1)).1), (.string (gotL L ((stL L Sl_ i).1)).2.1), (.int .i64 ((gotL L ((stL L Sl_ i).1)).2.2.1)), (.string ⟨#[]⟩), (.slice (gotL L ((stL L Sl_ i).1)).2.2.2.1 ((gotL L ((stL L Sl_ i).1)).2.2.2.2) (gotL L ((stL L Sl_ i).1)).2.2.2.2), (.slice none 0 0), (.slice none 0 0)]) rfl rfl (by kernel_rfl) (by kernel_rfl) hk3 (by kernel_rfl) (by kernel_rfl)) rfl rfl ?_; clear hf fa; rintro fa _ w6 ⟨hk4, hg2⟩ hf
    replace hk1 := blk_grown hk1 hg2 (by omega)
    replace hb := hb.trans (grown_below hg2 hb.size hBb2)
    refine sqv hf (r_assign rfl) rfl rfl rfl ?_; clear hf fa; intro fa hf
    apply wpList_nil
    (try simp only [Exit.then, Exit.inBlock, ↓reduceIte, Nat.reduceEqDiff])
    refine hK6 _ _ ?_
    refine wp_seq_k (fun K7 hK7 => ?_)
    refine wp_seq_k (fun K8 hK8 => ?_)
    refine wp_region_lit ?_
    refine sqv hf (r_move rfl) rfl rfl rfl ?_; clear hf fa; intro fa hf
    refine sqv hf (r_not rfl) rfl rfl rfl ?_; clear hf fa; intro fa hf
    apply wpList_nil
    (try simp only [Exit.then, Exit.inBlock, ↓reduceIte, Nat.reduceEqDiff])
    refine hK8 _ _ ?_
    refine wp_cond_split (t := (!(liveL L ((stL L Sl_ i).1)))) (hf.ev rfl) (fun hqt27_1 => ?_) (fun hqt27_1 => ?_)
    · have hqt27_1b := hqt27_1
      try simp only [decide_eq_true_eq, Bool.and_eq_true, Bool.or_eq_true, Bool.not_eq_true', decide_eq_false_iff_not, ne_eq, Bool.not_eq_true] at hqt27_1
      refine wp_seq_k (fun K9 hK9 => ?_)
      refine wp_region_lit ?_
      refine sqv hf (r_build (vs := []) (cs := #[(.string ⟨#[]⟩), (.string ⟨#[]⟩), (.int .i64 (0 : Int)), (.string ⟨#[]⟩), (.slice none 0 0), (.slice none 0 0), (.slice none 0 0)]) rfl (fun _ => by kernel_rfl)) rfl rfl rfl ?_; clear hf fa; intro fa hf
      refine sqn hf (d_storeK (T := 37) (v := (.agg #[(.string ⟨#[]⟩), (.string ⟨#[]⟩), (.int .i64 (0 : Int)), (.string ⟨#[]⟩), (.slice none 0 0), (.slice none 0 0), (.slice none 0 0)])) (cs := #[(.string ⟨#[]⟩), (.string ⟨#[]⟩), (.int .i64 (0 : Int)), (.string ⟨#[]⟩), (.slice none 0 0), (.slice none 0 0), (.slice none 0 0)]) (cs' := #[(.string ⟨#[]⟩), (.string ⟨#[]⟩), (.int .i64 (0 : Int)), (.string ⟨#[]⟩), (.slice none 0 0), (.slice none 0 0), (.slice none 0 0)]) rfl rfl (by kernel_rfl) (by kernel_rfl) hk1 (by kernel_rfl) (by kernel_rfl)) rfl rfl ?_; clear hf fa; rintro fa _ w7 ⟨hk5, hg3⟩ hf
      replace hk4 := blk_grown hk4 hg3 (by omega)
      replace hb := hb.trans (grown_below hg3 hb.size hBb1)
      refine sqv hf (r_assign rfl) rfl rfl rfl ?_; clear hf fa; intro fa hf
      apply wpList_nil
      (try simp only [Exit.then, Exit.inBlock, ↓reduceIte, Nat.reduceEqDiff])
      refine hK9 _ _ ?_
      refine wp_ret ?_
      (try simp only [Exit.then, Exit.inBlock])
      refine retCT hf rfl rfl hk5 Try.underlying37 rfl (by kernel_rfl) rfl ?_
      have hz : (stL L Sl_ i).2 = 0 := by have h := hqt17_1; first | exact Decidable.not_not.1 h | omega
      have hD : callL L Sl_ i = (zFn, 47) := by unfold callL; rw [if_pos hz, if_neg (by have h := hqt27_1; simpa using h)]
      rw [hD]; exact ⟨rfl, hb⟩
    · have hqt27_1b := hqt27_1
      replace hqt27_1 := Bool.eq_false_iff.1 hqt27_1
      try simp only [ne_eq, decide_eq_true_eq, Bool.and_eq_true, Bool.or_eq_true, Bool.not_eq_true', decide_eq_false_iff_not] at hqt27_1
      refine wp_skip ?_
      (try simp only [Exit.then, Exit.inBlock, ↓reduceIte, Nat.reduceEqDiff])
      refine hK7 _ _ ?_
      refine wp_seq_k (fun K10 hK10 => ?_)
      refine wp_region_lit ?_
      refine sqv hf (r_loadA (cs := [(.string (gotL L ((stL L Sl_ i).1)).1), (.string (gotL L ((stL L Sl_ i).1)).2.1), (.int .i64 ((gotL L ((stL L Sl_ i).1)).2.2.1)), (.string ⟨#[]⟩), (.slice (gotL L ((stL L Sl_ i).1)).2.2.2.1 ((gotL L ((stL L Sl_ i).1)).2.2.2.2) (gotL L ((stL L Sl_ i).1)).2.2.2.2), (.slice none 0 0), (.slice none 0 0)]) rfl Try.underlying37 rfl (by kernel_rfl) (cellsAt_blk hk4)) rfl rfl rfl ?_; clear hf fa; intro fa hf
      refine sqn hf (d_storeK (T := 37) (v := (.agg #[(.string (gotL L ((stL L Sl_ i).1)).1), (.string (gotL L ((stL L Sl_ i).1)).2.1), (.int .i64 ((gotL L ((stL L Sl_ i).1)).2.2.1)), (.string ⟨#[]⟩), (.slice (gotL L ((stL L Sl_ i).1)).2.2.2.1 ((gotL L ((stL L Sl_ i).1)).2.2.2.2) (gotL L ((stL L Sl_ i).1)).2.2.2.2), (.slice none 0 0), (.slice none 0 0)])) (cs := #[(.string ⟨#[]⟩), (.string ⟨#[]⟩), (.int .i64 (0 : Int)), (.string ⟨#[]⟩), (.slice none 0 0), (.slice none 0 0), (.slice none 0 0)]) (cs' := #[(.string (gotL L ((stL L Sl_ i).1)).1), (.string (gotL L ((stL L Sl_ i).1)).2.1), (.int .i64 ((gotL L ((stL L Sl_ i).1)).2.2.1)), (.string ⟨#[]⟩), (.slice (gotL L ((stL L Sl_ i).1)).2.2.2.1 ((gotL L ((stL L Sl_ i).1)).2.2.2.2) (gotL L ((stL L Sl_ i).1)).2.2.2.2), (.slice none 0 0), (.slice none 0 0)]) rfl rfl (by kernel_rfl) (by kernel_rfl) hk1 (by kernel_rfl) (by kernel_rfl)) rfl rfl ?_; clear hf fa; rintro fa _ w8 ⟨hk6, hg4⟩ hf
      replace hk4 := blk_grown hk4 hg4 (by omega)
      replace hb := hb.trans (grown_below hg4 hb.size hBb1)
      refine sqv hf (r_assign rfl) rfl rfl rfl ?_; clear hf fa; intro fa hf
      apply wpList_nil
      (try simp only [Exit.then, Exit.inBlock, ↓reduceIte, Nat.reduceEqDiff])
      refine hK10 _ _ ?_
      refine wp_ret ?_
      (try simp only [Exit.then, Exit.inBlock])
      refine retCT hf rfl rfl hk6 Try.underlying37 rfl (by kernel_rfl) rfl ?_
      have hz : (stL L Sl_ i).2 = 0 := by have h := hqt17_1; first | exact Decidable.not_not.1 h | omega
      have hD : callL L Sl_ i = (gotL L (stL L Sl_ i).1, 0) := by unfold callL; rw [if_pos hz, if_pos (by have h := hqt27_1; simpa using h)]
      rw [hD]; exact ⟨rfl, hb⟩

def kT (t : Nat) : ByteArray × ByteArray := if t % 3 = 0 then (⟨#[]⟩, ⟨#[]⟩) else if t % 3 = 1 then (⟨#[127]⟩, ⟨#[]⟩) else (⟨#[127]⟩, ⟨#[126]⟩)

set_option maxHeartbeats 1000000 in
set_option maxRecDepth 100000 in
theorem kind_any (t : Nat) (w : World) (ht : t < 256) : Calls Try.prog 65 #[(.int .u8 ((t : Nat) : Int))] w fun e w' => e = .returned (.agg #[.string (kT t).1, .string (kT t).2]) ∧ Below w.heap.size w w' := by
  refine sx_enter (L := [(0, (.int .u8 ((t : Nat) : Int)))]) Try.func65 rfl rfl rfl rfl (fun fa hf => ?_)
  have hb : Below w.heap.size w w := Below.refl _ _
  refine wp_seq_k (fun K1 hK1 => ?_)
  refine wp_region_lit ?_
  refine sqdt hf (d_alloc (z := (.agg #[(.string ⟨#[]⟩), (.string ⟨#[]⟩)])) (cs := #[(.string ⟨#[]⟩), (.string ⟨#[]⟩)]) (by kernel_rfl) rfl) rfl rfl rfl ?_; clear hf fa; rintro fa _ w1 ⟨b1, rfl, hle1, hk1, he1⟩ hf
  have hBb1 : w.heap.size ≤ b1 := Nat.le_trans hb.size hle1
  replace hb := hb.trans (Below.mono he1 hb.size)
  apply wpList_nil
  (try simp only [Exit.then, Exit.inBlock, ↓reduceIte, Nat.reduceEqDiff])
  refine hK1 _ _ ?_
  refine wp_seq_k (fun K2 hK2 => ?_)
  refine wp_seq_k (fun K3 hK3 => ?_)
  refine wp_region_lit ?_
  refine sqv hf (r_move rfl) rfl rfl rfl ?_; clear hf fa; intro fa hf
  refine sqv hf (r_rem (C := (((t % 3) : Nat) : Int)) rfl rfl (by omega) (by rw [Int.tmod_eq_emod_of_nonneg (by omega)]; omega)) rfl rfl rfl ?_; clear hf fa; intro fa hf
  apply wpList_nil
  (try simp only [Exit.then, Exit.inBlock, ↓reduceIte, Nat.reduceEqDiff])
  refine hK3 _ _ ?_
  refine wp_block ?_
  refine wp_seq_k (fun K4 hK4 => ?_)
  refine wp_region_lit ?_
  refine sqv hf (r_eq rfl rfl) rfl rfl rfl ?_; clear hf fa; intro fa hf
  refine sqv hf (r_assign rfl) rfl rfl rfl ?_; clear hf fa; intro fa hf
  apply wpList_nil
  (try simp only [Exit.then, Exit.inBlock, ↓reduceIte, Nat.reduceEqDiff])
  refine hK4 _ _ ?_
  refine wp_cond_split (t := (decide ((((t % 3) : Nat) : Int) = (0 : Int)))) (hf.ev rfl) (fun hqt5_1 => ?_) (fun hqt5_1 => ?_)
  · have hqt5_1b := hqt5_1
    try simp only [decide_eq_true_eq, Bool.and_eq_true, Bool.or_eq_true, Bool.not_eq_true', decide_eq_false_iff_not, ne_eq, Bool.not_eq_true] at hqt5_1
    refine wp_seq_k (fun K5 hK5 => ?_)
    refine wp_region_lit ?_
    refine sqv hf (r_build (vs := []) (cs := #[(.string ⟨#[]⟩), (.string ⟨#[]⟩)]) rfl (fun _ => by kernel_rfl)) rfl rfl rfl ?_; clear hf fa; intro fa hf
    refine sqn hf (d_storeK (T := 31) (v := (.agg #[(.string ⟨#[]⟩), (.string ⟨#[]⟩)])) (cs := #[(.string ⟨#[]⟩), (.string ⟨#[]⟩)]) (cs' := #[(.string ⟨#[]⟩), (.string ⟨#[]⟩)]) rfl rfl (by kernel_rfl) (by kernel_rfl) hk1 (by kernel_rfl) (by kernel_rfl)) rfl rfl ?_; clear hf fa; rintro fa _ w2 ⟨hk2, hg1⟩ hf
    replace hb := hb.trans (grown_below hg1 hb.size hBb1)
    apply wpList_nil
    (try simp only [Exit.then, Exit.inBlock, ↓reduceIte, Nat.reduceEqDiff])
    refine hK5 _ _ ?_
    refine wp_ret ?_
    (try simp only [Exit.then, Exit.inBlock])
    refine retC hf rfl rfl hk2 Try.underlying31 rfl (by kernel_rfl) ?_
    have hD : kT t = (⟨#[]⟩, ⟨#[]⟩) := by unfold kT; rw [if_pos (by have h := hqt5_1; omega)]
    rw [hD]; exact ⟨rfl, hb⟩
  · have hqt5_1b := hqt5_1
    replace hqt5_1 := Bool.eq_false_iff.1 hqt5_1
    try simp only [ne_eq, decide_eq_true_eq, Bool.and_eq_true, Bool.or_eq_true, Bool.not_eq_true', decide_eq_false_iff_not] at hqt5_1
    refine wp_seq_k (fun K6 hK6 => ?_)
    refine wp_region_lit ?_
    refine sqv hf (r_eq rfl rfl) rfl rfl rfl ?_; clear hf fa; intro fa hf
    refine sqv hf (r_assign rfl) rfl rfl rfl ?_; clear hf fa; intro fa hf
    apply wpList_nil
    (try simp only [Exit.then, Exit.inBlock, ↓reduceIte, Nat.reduceEqDiff])
    refine hK6 _ _ ?_
    refine wp_cond_split (t := (decide ((((t % 3) : Nat) : Int) = (1 : Int)))) (hf.ev rfl) (fun hqt8_1 => ?_) (fun hqt8_1 => ?_)
    · have hqt8_1b := hqt8_1
      try simp only [decide_eq_true_eq, Bool.and_eq_true, Bool.or_eq_true, Bool.not_eq_true', decide_eq_false_iff_not, ne_eq, Bool.not_eq_true] at hqt8_1
      refine wp_seq_k (fun K7 hK7 => ?_)
      refine wp_region_lit ?_
      refine sqv hf (r_build (vs := [(0, (.string ⟨#[127]⟩))]) (cs := #[(.string ⟨#[127]⟩), (.string ⟨#[]⟩)]) rfl (fun _ => by kernel_rfl)) rfl rfl rfl ?_; clear hf fa; intro fa hf
      refine sqn hf (d_storeK (T := 31) (v := (.agg #[(.string ⟨#[127]⟩), (.string ⟨#[]⟩)])) (cs := #[(.string ⟨#[]⟩), (.string ⟨#[]⟩)]) (cs' := #[(.string ⟨#[127]⟩), (.string ⟨#[]⟩)]) rfl rfl (by kernel_rfl) (by kernel_rfl) hk1 (by kernel_rfl) (by kernel_rfl)) rfl rfl ?_; clear hf fa; rintro fa _ w3 ⟨hk3, hg2⟩ hf
      replace hb := hb.trans (grown_below hg2 hb.size hBb1)
      apply wpList_nil
      (try simp only [Exit.then, Exit.inBlock, ↓reduceIte, Nat.reduceEqDiff])
      refine hK7 _ _ ?_
      refine wp_ret ?_
      (try simp only [Exit.then, Exit.inBlock])
      refine retC hf rfl rfl hk3 Try.underlying31 rfl (by kernel_rfl) ?_
      have hD : kT t = (⟨#[127]⟩, ⟨#[]⟩) := by unfold kT; rw [if_neg (by have h := hqt5_1; omega), if_pos (by have h := hqt8_1; omega)]
      rw [hD]; exact ⟨rfl, hb⟩
    · have hqt8_1b := hqt8_1
      replace hqt8_1 := Bool.eq_false_iff.1 hqt8_1
      try simp only [ne_eq, decide_eq_true_eq, Bool.and_eq_true, Bool.or_eq_true, Bool.not_eq_true', decide_eq_false_iff_not] at hqt8_1
      refine wp_skip ?_
      (try simp only [Exit.then, Exit.inBlock, ↓reduceIte, Nat.reduceEqDiff])
      refine hK2 _ _ ?_
      refine wp_seq_k (fun K8 hK8 => ?_)
      refine wp_region_lit ?_
      refine sqv hf (r_build (vs := [(0, (.string ⟨#[127]⟩)), (1, (.string ⟨#[126]⟩))]) (cs := #[(.string ⟨#[127]⟩), (.string ⟨#[126]⟩)]) rfl (fun _ => by kernel_rfl)) rfl rfl rfl ?_; clear hf fa; intro fa hf
      refine sqn hf (d_storeK (T := 31) (v := (.agg #[(.string ⟨#[127]⟩), (.string ⟨#[126]⟩)])) (cs := #[(.string ⟨#[]⟩), (.string ⟨#[]⟩)]) (cs' := #[(.string ⟨#[127]⟩), (.string ⟨#[126]⟩)]) rfl rfl (by kernel_rfl) (by kernel_rfl) hk1 (by kernel_rfl) (by kernel_rfl)) rfl rfl ?_; clear hf fa; rintro fa _ w4 ⟨hk4, hg3⟩ hf
      replace hb := hb.trans (grown_below hg3 hb.size hBb1)
      apply wpList_nil
      (try simp only [Exit.then, Exit.inBlock, ↓reduceIte, Nat.reduceEqDiff])
      refine hK8 _ _ ?_
      refine wp_ret ?_
      (try simp only [Exit.then, Exit.inBlock])
      refine retC hf rfl rfl hk4 Try.underlying31 rfl (by kernel_rfl) ?_
      have hD : kT t = (⟨#[127]⟩, ⟨#[126]⟩) := by unfold kT; rw [if_neg (by have h := hqt5_1; omega), if_neg (by have h := hqt8_1; omega)]
      rw [hD]; exact ⟨rfl, hb⟩

set_option maxHeartbeats 1000000 in
set_option maxRecDepth 100000 in
theorem fnew_any (w : World) : Calls Try.prog 11 #[] w fun e w' => ∃ p, e = .returned (.pointer (some ⟨p, 0, none⟩)) ∧ FSt w.heap.size w' p [] [] ∧ Below w.heap.size w w' := by
  refine sx_enter (L := []) Try.func11 rfl rfl rfl rfl (fun fa hf => ?_)
  have hb : Below w.heap.size w w := Below.refl _ _
  refine wp_seq_k (fun K1 hK1 => ?_)
  refine wp_region_lit ?_
  refine sqv hf (r_assign rfl) rfl rfl rfl ?_; clear hf fa; intro fa hf
  apply wpList_nil
  (try simp only [Exit.then, Exit.inBlock, ↓reduceIte, Nat.reduceEqDiff])
  refine hK1 _ _ ?_
  refine wp_seq_k (fun K2 hK2 => ?_)
  refine wp_region_lit ?_
  refine sqv hf (r_build (vs := []) (cs := #[(.slice none 0 0), (.slice none 0 0)]) rfl (fun _ => by kernel_rfl)) rfl rfl rfl ?_; clear hf fa; intro fa hf
  refine sqdt hf (d_box (cs := #[(.slice none 0 0), (.slice none 0 0)]) rfl rfl) rfl rfl rfl ?_; clear hf fa; rintro fa _ w1 ⟨b1, rfl, hle1, hk1, he1⟩ hf
  have hBb1 : w.heap.size ≤ b1 := Nat.le_trans hb.size hle1
  replace hb := hb.trans (Below.mono he1 hb.size)
  refine sqv hf (r_assign rfl) rfl rfl rfl ?_; clear hf fa; intro fa hf
  apply wpList_nil
  (try simp only [Exit.then, Exit.inBlock, ↓reduceIte, Nat.reduceEqDiff])
  refine hK2 _ _ ?_
  refine wp_ret ?_
  (try simp only [Exit.then, Exit.inBlock])
  refine ret1 hf rfl rfl ?_
  exact ⟨_, rfl, ⟨none, none, 0, 0, [], hk1, Row.nil, Row.nil, hBb1, by decide, rfl, rfl, fun j q h => by cases h⟩, hb⟩
end Go.Proofs.Ytmcmickgllffoaa
