/- What is proved here: functions by numbers: awake. -/
import Derived.Test.YtmcmickgllffoaaFnD
namespace Go.Proofs.Ytmcmickgllffoaa
open Go.RowKit
set_option linter.unusedVariables false
set_option linter.unusedSimpArgs false
theorem free_F {w0 w : World} (hb : Below w0.heap.size w0 w) {p : Nat} {L : List (Option MFn)} {Sl_ : List Int} (hF : FSt w0.heap.size w p L Sl_) (i : Int) : Calls Try.prog 15 #[.pointer (some ⟨p, 0, none⟩), .int .i64 i] w fun e w' => ∃ x, e = .returned x ∧ x = .int .i64 (if liveL L i = true then 0 else 47) ∧ FSt w0.heap.size w' p (frL L i) (frS L Sl_ i) ∧ Below w0.heap.size w0 w' := by
  obtain ⟨a, b, c, d, ps, h1, h2, h3, h4, h5, h6, h7⟩ := hF
  exact (free_raw p a b c d ps Sl_ w0 w hb h1 h2 h3 h4 h5 h6 L h7 i (h7.live i)).mono (fun e w' h => ⟨_, h.1, rfl, h.2⟩)
theorem swap_F {w0 w : World} (hb : Below w0.heap.size w0 w) {p : Nat} {L : List (Option MFn)} {Sl_ : List Int} (hF : FSt w0.heap.size w p L Sl_) (i j : Int) : Calls Try.prog 14 #[.pointer (some ⟨p, 0, none⟩), .int .i64 i, .int .i64 j] w fun e w' => ∃ x, e = .returned x ∧ x = .tuple #[.int .i64 (swR L Sl_ i j).1, .int .i64 (swR L Sl_ i j).2.1] ∧ FSt w0.heap.size w' p L (swR L Sl_ i j).2.2 ∧ Below w0.heap.size w0 w' := by
  obtain ⟨a, b, c, d, ps, h1, h2, h3, h4, h5, h6, h7⟩ := hF
  exact (swap_raw p a b c d ps Sl_ w0 w hb h1 h2 h3 h4 h5 h6 L h7 i j h7.live).mono (fun e w' h => ⟨_, h.1, rfl, h.2⟩)
theorem add_F {w0 w : World} (hb : Below w0.heap.size w0 w) {p : Nat} {L : List (Option MFn)} {Sl_ : List Int} (hF : FSt w0.heap.size w p L Sl_) (x : MFn) (hl : L.length + 1 ≤ 1000) : Calls Try.prog 12 #[.pointer (some ⟨p, 0, none⟩), fnV x] w fun e w' => ∃ y, e = .returned y ∧ y = .int .i64 ((L.length : Nat) : Int) ∧ FSt w0.heap.size w' p (L ++ [some x]) (Sl_ ++ [((L.length : Nat) : Int)]) ∧ Below w0.heap.size w0 w' := by
  obtain ⟨a, b, c, d, ps, h1, h2, h3, h4, h5, h6, h7⟩ := hF
  exact (add_raw p a b c d ps Sl_ w0 w hb h1 h2 h3 h4 h5 h6 L h7 x (by rw [h7.1]; exact hl)).mono (fun e w' h => ⟨_, h.1, rfl, h.2⟩)

set_option maxHeartbeats 1000000 in
set_option maxRecDepth 100000 in
theorem made_any (t : Nat) (o m : Int) (w : World) (ht : t < 256) : Calls Try.prog 13 #[(.int .u8 ((t : Nat) : Int)), (.int .i64 o), (.int .u64 m)] w fun e w' => ∃ x, e = .returned x ∧ ∃ k, x = fnV ((kT t).1, (kT t).2, o, some ⟨k, 0, none⟩, 2) ∧ Below w.heap.size w w' := by
  refine sx_enter (L := [(0, (.int .u8 ((t : Nat) : Int))), (1, (.int .i64 o)), (2, (.int .u64 m))]) Try.func13 rfl rfl rfl rfl (fun fa hf => ?_)
  have hb : Below w.heap.size w w := Below.refl _ _
  refine wp_seq_k (fun K1 hK1 => ?_)
  refine wp_region_lit ?_
  refine sqdt hf (d_alloc (z := (.agg #[(.string ⟨#[]⟩), (.string ⟨#[]⟩), (.int .i64 (0 : Int)), (.string ⟨#[]⟩), (.slice none 0 0), (.slice none 0 0), (.slice none 0 0)])) (cs := #[(.string ⟨#[]⟩), (.string ⟨#[]⟩), (.int .i64 (0 : Int)), (.string ⟨#[]⟩), (.slice none 0 0), (.slice none 0 0), (.slice none 0 0)]) (by kernel_rfl) rfl) rfl rfl rfl ?_; clear hf fa; rintro fa _ w1 ⟨b1, rfl, hle1, hk1, he1⟩ hf
  have hBb1 : w.heap.size ≤ b1 := Nat.le_trans hb.size hle1
  replace hb := hb.trans (Below.mono he1 hb.size)
  apply wpList_nil
  (try simp only [Exit.then, Exit.inBlock, ↓reduceIte, Nat.reduceEqDiff])
  refine hK1 _ _ ?_
  refine wp_seq_k (fun K2 hK2 => ?_)
  refine wp_region_lit ?_
  refine sqv hf (r_move rfl) rfl rfl rfl ?_; clear hf fa; intro fa hf
  refine sqdt hf (d_callB (vs := [(.int .u8 ((t : Nat) : Int))]) rfl Try.func65 (by kernel_rfl) (by kernel_rfl) (kind_any t _ ht)) rfl rfl rfl ?_; clear hf fa; rintro fa _ w2 ⟨rfl, he2⟩ hf
  replace hk1 := blk_ext hk1 he2
  replace hb := hb.trans (Below.mono he2 hb.size)
  refine sqv hf (r_move rfl) rfl rfl rfl ?_; clear hf fa; intro fa hf
  refine sqv hf (r_move rfl) rfl rfl rfl ?_; clear hf fa; intro fa hf
  refine sqv hf (r_build (vs := [(0, (.int .u8 (66 : Int))), (1, (.int .u64 m))]) (cs := #[(.int .u8 (66 : Int)), (.int .u64 m), (.int .u64 (0 : Int)), (.slice none 0 0)]) rfl (fun _ => by kernel_rfl)) rfl rfl rfl ?_; clear hf fa; intro fa hf
  refine sqv hf (r_build (vs := [(0, (.int .u8 (11 : Int)))]) (cs := #[(.int .u8 (11 : Int)), (.int .u64 (0 : Int)), (.int .u64 (0 : Int)), (.slice none 0 0)]) rfl (fun _ => by kernel_rfl)) rfl rfl rfl ?_; clear hf fa; intro fa hf
  refine sqdt hf (d_bslice (z := (.agg #[(.int .u8 (0 : Int)), (.int .u64 (0 : Int)), (.int .u64 (0 : Int)), (.slice none 0 0)])) (sz := 4) (vs := [(0, (.agg #[(.int .u8 (66 : Int)), (.int .u64 m), (.int .u64 (0 : Int)), (.slice none 0 0)])), (1, (.agg #[(.int .u8 (11 : Int)), (.int .u64 (0 : Int)), (.int .u64 (0 : Int)), (.slice none 0 0)]))]) (cs := #[(.int .u8 (66 : Int)), (.int .u64 m), (.int .u64 (0 : Int)), (.slice none 0 0), (.int .u8 (11 : Int)), (.int .u64 (0 : Int)), (.int .u64 (0 : Int)), (.slice none 0 0)]) rfl Try.underlying32 (by kernel_rfl) rfl (by kernel_rfl)) rfl rfl rfl ?_; clear hf fa; rintro fa _ w3 ⟨b2, rfl, hle2, hk2, he3⟩ hf
  have hBb2 : w.heap.size ≤ b2 := Nat.le_trans hb.size hle2
  have : b1 < b2 := Nat.lt_of_lt_of_le (blk_lt hk1) hle2
  replace hk1 := blk_ext hk1 he3
  replace hb := hb.trans (Below.mono he3 hb.size)
  refine sqv hf (r_build (vs := [(0, (.agg #[(.string (kT t).1), (.string (kT t).2)])), (1, (.int .i64 o)), (3, (.slice (some ⟨b2, 0, none⟩) 2 2))]) (cs := #[(.string (kT t).1), (.string (kT t).2), (.int .i64 o), (.string ⟨#[]⟩), (.slice (some ⟨b2, 0, none⟩) 2 2), (.slice none 0 0), (.slice none 0 0)]) rfl (fun _ => by kernel_rfl)) rfl rfl rfl ?_; clear hf fa; intro fa hf
  refine sqn hf (d_storeK (T := 37) (v := (.agg #[(.string (kT t).1), (.string (kT t).2), (.int .i64 o), (.string ⟨#[]⟩), (.slice (some ⟨b2, 0, none⟩) 2 2), (.slice none 0 0), (.slice none 0 0)])) (cs := #[(.string ⟨#[]⟩), (.string ⟨#[]⟩), (.int .i64 (0 : Int)), (.string ⟨#[]⟩), (.slice none 0 0), (.slice none 0 0), (.slice none 0 0)]) (cs' := #[(.string (kT t).1), (.string (kT t).2), (.int .i64 o), (.string ⟨#[]⟩), (.slice (some ⟨b2, 0, none⟩) 2 2), (.slice none 0 0), (.slice none 0 0)]) rfl rfl (by kernel_rfl) (by kernel_rfl) hk1 (by kernel_rfl) (by kernel_rfl)) rfl rfl ?_; clear hf fa; rintro fa _ w4 ⟨hk3, hg1⟩ hf
  replace hk2 := blk_grown hk2 hg1 (by omega)
  replace hb := hb.trans (grown_below hg1 hb.size hBb1)
  apply wpList_nil
  (try simp only [Exit.then, Exit.inBlock, ↓reduceIte, Nat.reduceEqDiff])
  refine hK2 _ _ ?_
  refine wp_ret ?_
  (try simp only [Exit.then, Exit.inBlock])
  refine retC hf rfl rfl hk3 Try.underlying37 rfl (by kernel_rfl) ?_
  exact ⟨_, rfl, _, rfl, hb⟩

theorem awk_sw {x y : MFn} (h1 : x.1 = y.1) (h2 : x.2.1 = y.2.1) : swR [some x, some y] [0, 1] 0 1 = (0, 0, [1, 1]) := by
  simp [swR, liveL, gotL, h1, h2]
theorem awk_st {x y : MFn} : stL [some x, some y] [1, 1] 0 = (1, 0) ∧ stL [some x, some y] [1, 1] 1 = (1, 0) := by
  simp [stL, liveL]
theorem fnew_F (w : World) : Calls Try.prog 11 #[] w fun e w' => ∃ x, e = .returned x ∧ ∃ p, x = .pointer (some ⟨p, 0, none⟩) ∧ FSt w.heap.size w' p [] [] ∧ Below w.heap.size w w' :=
  (fnew_any w).mono (fun e w' h => by obtain ⟨p, h1, h2, h3⟩ := h; exact ⟨_, h1, p, rfl, h2, h3⟩)
theorem swap_A {w0 w : World} (hb : Below w0.heap.size w0 w) {p : Nat} {x y : MFn} (hF : FSt w0.heap.size w p [some x, some y] [0, 1]) (h1 : x.1 = y.1) (h2 : x.2.1 = y.2.1) : Calls Try.prog 14 #[.pointer (some ⟨p, 0, none⟩), .int .i64 (0 : Int), .int .i64 (1 : Int)] w fun e w' => ∃ z, e = .returned z ∧ z = .tuple #[.int .i64 0, .int .i64 0] ∧ FSt w0.heap.size w' p [some x, some y] [1, 1] ∧ Below w0.heap.size w0 w' := by
  have h := swap_F hb hF 0 1
  rw [awk_sw h1 h2] at h
  exact h
theorem stands_A0 {B : Nat} {w : World} {p : Nat} {x y : MFn} (hF : FSt B w p [some x, some y] [1, 1]) : Calls Try.prog 64 #[.pointer (some ⟨p, 0, none⟩), .int .i64 (0 : Int)] w fun e w' => e = .returned (.tuple #[.int .i64 1, .int .i64 0]) ∧ Below w.heap.size w w' := by
  have h := stands_F hF 0
  rw [awk_st.1] at h
  exact h
theorem stands_A1 {B : Nat} {w : World} {p : Nat} {x y : MFn} (hF : FSt B w p [some x, some y] [1, 1]) : Calls Try.prog 64 #[.pointer (some ⟨p, 0, none⟩), .int .i64 (1 : Int)] w fun e w' => e = .returned (.tuple #[.int .i64 1, .int .i64 0]) ∧ Below w.heap.size w w' := by
  have h := stands_F hF 1
  rw [awk_st.2] at h
  exact h

set_option maxHeartbeats 1000000 in
set_option maxRecDepth 100000 in
theorem awake29_any (w : World) : Calls Try.prog 10 #[] w fun e w' => e = .returned (.bool true) ∧ Below w.heap.size w w' := by
  refine sx_enter (L := []) Try.func10 rfl rfl rfl rfl (fun fa hf => ?_)
  have hb : Below w.heap.size w w := Below.refl _ _
  refine wp_seq_k (fun K1 hK1 => ?_)
  refine wp_region_lit ?_
  refine sqv hf (r_assign rfl) rfl rfl rfl ?_; clear hf fa; intro fa hf
  apply wpList_nil
  (try simp only [Exit.then, Exit.inBlock, ↓reduceIte, Nat.reduceEqDiff])
  refine hK1 _ _ ?_
  refine wp_seq_k (fun K2 hK2 => ?_)
  refine wp_region_lit ?_
  refine sqdt hf (d_callX (vs := []) rfl Try.func11 (by kernel_rfl) (by kernel_rfl) (fnew_F _)) rfl rfl rfl ?_; clear hf fa; rintro fa _ w1 ⟨pf1, rfl, hF, he1⟩ hf
  replace hb := he1
  refine sqv hf (r_assign rfl) rfl rfl rfl ?_; clear hf fa; intro fa hf
  apply wpList_nil
  (try simp only [Exit.then, Exit.inBlock, ↓reduceIte, Nat.reduceEqDiff])
  refine hK2 _ _ ?_
  refine wp_seq_k (fun K3 hK3 => ?_)
  refine wp_seq_k (fun K4 hK4 => ?_)
  refine wp_region_lit ?_
  refine sqv hf (r_move rfl) rfl rfl rfl ?_; clear hf fa; intro fa hf
  refine sqv hf (r_pnil rfl rfl Try.underlying24) rfl rfl rfl ?_; clear hf fa; intro fa hf
  apply wpList_nil
  (try simp only [Exit.then, Exit.inBlock, ↓reduceIte, Nat.reduceEqDiff])
  refine hK4 _ _ ?_
  refine wp_cond_false (hf.ev rfl) ?_
  refine wp_skip ?_
  (try simp only [Exit.then, Exit.inBlock, ↓reduceIte, Nat.reduceEqDiff])
  refine hK3 _ _ ?_
  refine wp_seq_k (fun K5 hK5 => ?_)
  refine wp_region_lit ?_
  refine sqv hf (r_move rfl) rfl rfl rfl ?_; clear hf fa; intro fa hf
  refine sqdt hf (d_callX (vs := [(.int .u8 (1 : Int)), (.int .i64 (1 : Int)), (.int .u64 (0 : Int))]) rfl Try.func13 (by kernel_rfl) (by kernel_rfl) (made_any 1 (1 : Int) (0 : Int) _ (by omega))) rfl rfl rfl ?_; clear hf fa; rintro fa _ w2 ⟨mk1, rfl, he2⟩ hf
  replace hb := hb.trans (Below.mono he2 hb.size)
  replace hF := hF.ext he2
  refine sqdt hf (d_callX (vs := [(.pointer (some ⟨pf1, 0, none⟩)), (.agg #[(.string (kT 1).1), (.string (kT 1).2), (.int .i64 ((1 : Int))), (.string ⟨#[]⟩), (.slice (some ⟨mk1, 0, none⟩) 2 2), (.slice none 0 0), (.slice none 0 0)])]) rfl Try.func12 (by kernel_rfl) (by kernel_rfl) (add_F hb hF ((kT 1).1, (kT 1).2, (1 : Int), some (⟨mk1, 0, none⟩ : Addr), 2) (Nat.le_of_ble_eq_true rfl))) rfl rfl rfl ?_; clear hf fa; rintro fa _ w3 ⟨rfl, hF2, hb2⟩ hf; clear hF; have hF : FSt w.heap.size w3 pf1 [some ((kT 1).1, (kT 1).2, (1 : Int), some (⟨mk1, 0, none⟩ : Addr), 2)] [0] := hF2; clear hF2; replace hb := hb2; clear hb2
  apply wpList_nil
  (try simp only [Exit.then, Exit.inBlock, ↓reduceIte, Nat.reduceEqDiff])
  refine hK5 _ _ ?_
  refine wp_seq_k (fun K6 hK6 => ?_)
  refine wp_region_lit ?_
  refine sqv hf (r_move rfl) rfl rfl rfl ?_; clear hf fa; intro fa hf
  refine sqdt hf (d_callX (vs := [(.int .u8 (1 : Int)), (.int .i64 (2 : Int)), (.int .u64 (0 : Int))]) rfl Try.func13 (by kernel_rfl) (by kernel_rfl) (made_any 1 (2 : Int) (0 : Int) _ (by omega))) rfl rfl rfl ?_; clear hf fa; rintro fa _ w4 ⟨mk2, rfl, he3⟩ hf
  replace hb := hb.trans (Below.mono he3 hb.size)
  replace hF := hF.ext he3
  refine sqdt hf (d_callX (vs := [(.pointer (some ⟨pf1, 0, none⟩)), (.agg #[(.string (kT 1).1), (.string (kT 1).2), (.int .i64 ((2 : Int))), (.string ⟨#[]⟩), (.slice (some ⟨mk2, 0, none⟩) 2 2), (.slice none 0 0), (.slice none 0 0)])]) rfl Try.func12 (by kernel_rfl) (by kernel_rfl) (add_F hb hF ((kT 1).1, (kT 1).2, (2 : Int), some (⟨mk2, 0, none⟩ : Addr), 2) (Nat.le_of_ble_eq_true rfl))) rfl rfl rfl ?_; clear hf fa; rintro fa _ w5 ⟨rfl, hF2, hb2⟩ hf; clear hF; have hF : FSt w.heap.size w5 pf1 [some ((kT 1).1, (kT 1).2, (1 : Int), some (⟨mk1, 0, none⟩ : Addr), 2), some ((kT 1).1, (kT 1).2, (2 : Int), some (⟨mk2, 0, none⟩ : Addr), 2)] [0, 1] := hF2; clear hF2; replace hb := hb2; clear hb2
  apply wpList_nil
  (try simp only [Exit.then, Exit.inBlock, ↓reduceIte, Nat.reduceEqDiff])
  refine hK6 _ _ ?_
  refine wp_seq_k (fun K7 hK7 => ?_)
  refine wp_region_lit ?_
  refine sqv hf (r_move rfl) rfl rfl rfl ?_; clear hf fa; intro fa hf
  refine sqdt hf (d_callX (vs := [(.pointer (some ⟨pf1, 0, none⟩)), (.int .i64 (0 : Int)), (.int .i64 (1 : Int))]) rfl Try.func14 (by kernel_rfl) (by kernel_rfl) (swap_A hb hF rfl rfl)) rfl rfl rfl ?_; clear hf fa; rintro fa _ w6 ⟨rfl, hF2, hb2⟩ hf; clear hF; have hF : FSt w.heap.size w6 pf1 [some ((kT 1).1, (kT 1).2, (1 : Int), some (⟨mk1, 0, none⟩ : Addr), 2), some ((kT 1).1, (kT 1).2, (2 : Int), some (⟨mk2, 0, none⟩ : Addr), 2)] [1, 1] := hF2; clear hF2; replace hb := hb2; clear hb2
  refine sqv hf (r_move rfl) rfl rfl rfl ?_; clear hf fa; intro fa hf
  refine sqv hf (r_extract rfl (i := 0) rfl) rfl rfl rfl ?_; clear hf fa; intro fa hf
  refine sqv hf (r_extract rfl (i := 1) rfl) rfl rfl rfl ?_; clear hf fa; intro fa hf
  refine sqv hf (r_assign rfl) rfl rfl rfl ?_; clear hf fa; intro fa hf
  refine sqv hf (r_assign rfl) rfl rfl rfl ?_; clear hf fa; intro fa hf
  apply wpList_nil
  (try simp only [Exit.then, Exit.inBlock, ↓reduceIte, Nat.reduceEqDiff])
  refine hK7 _ _ ?_
  refine wp_seq_k (fun K8 hK8 => ?_)
  refine wp_region_lit ?_
  refine sqv hf (r_move rfl) rfl rfl rfl ?_; clear hf fa; intro fa hf
  refine sqdt hf (d_callB (vs := [(.pointer (some ⟨pf1, 0, none⟩)), (.int .i64 (0 : Int))]) rfl Try.func64 (by kernel_rfl) (by kernel_rfl) (stands_A0 hF)) rfl rfl rfl ?_; clear hf fa; rintro fa _ w7 ⟨rfl, he4⟩ hf
  replace hb := hb.trans (Below.mono he4 hb.size)
  replace hF := hF.ext he4
  refine sqv hf (r_move rfl) rfl rfl rfl ?_; clear hf fa; intro fa hf
  refine sqv hf (r_extract rfl (i := 0) rfl) rfl rfl rfl ?_; clear hf fa; intro fa hf
  refine sqv hf (r_extract rfl (i := 1) rfl) rfl rfl rfl ?_; clear hf fa; intro fa hf
  refine sqv hf (r_assign rfl) rfl rfl rfl ?_; clear hf fa; intro fa hf
  refine sqv hf (r_assign rfl) rfl rfl rfl ?_; clear hf fa; intro fa hf
  apply wpList_nil
  (try simp only [Exit.then, Exit.inBlock, ↓reduceIte, Nat.reduceEqDiff])
  refine hK8 _ _ ?_
  refine wp_seq_k (fun K9 hK9 => ?_)
  refine wp_region_lit ?_
  refine sqv hf (r_move rfl) rfl rfl rfl ?_; clear hf fa; intro fa hf
  refine sqdt hf (d_callB (vs := [(.pointer (some ⟨pf1, 0, none⟩)), (.int .i64 (1 : Int))]) rfl Try.func64 (by kernel_rfl) (by kernel_rfl) (stands_A1 hF)) rfl rfl rfl ?_; clear hf fa; rintro fa _ w8 ⟨rfl, he5⟩ hf
  replace hb := hb.trans (Below.mono he5 hb.size)
  replace hF := hF.ext he5
  refine sqv hf (r_move rfl) rfl rfl rfl ?_; clear hf fa; intro fa hf
  refine sqv hf (r_extract rfl (i := 0) rfl) rfl rfl rfl ?_; clear hf fa; intro fa hf
  refine sqv hf (r_extract rfl (i := 1) rfl) rfl rfl rfl ?_; clear hf fa; intro fa hf
  refine sqv hf (r_assign rfl) rfl rfl rfl ?_; clear hf fa; intro fa hf
  refine sqv hf (r_assign rfl) rfl rfl rfl ?_; clear hf fa; intro fa hf
  apply wpList_nil
  (try simp only [Exit.then, Exit.inBlock, ↓reduceIte, Nat.reduceEqDiff])
  refine hK9 _ _ ?_
  refine wp_seq_k (fun K10 hK10 => ?_)
  refine wp_region_lit ?_
  refine sqv hf (r_move rfl) rfl rfl rfl ?_; clear hf fa; intro fa hf
  refine sqv hf (r_eq rfl rfl) rfl rfl rfl ?_; clear hf fa; intro fa hf
  refine sqv hf (r_move rfl) rfl rfl rfl ?_; clear hf fa; intro fa hf
  refine sqgT (act := (decide ((0 : Int) = (0 : Int)))) (ag := true) (c := (decide ((0 : Int) = (0 : Int)))) (v := (.int .i64 (0 : Int))) hf rfl rfl rfl (fun hact => (r_move rfl)) rfl rfl ?_; clear hf fa; intro fa hf
  refine sqgT (act := (decide ((0 : Int) = (0 : Int)))) (ag := true) (c := (decide ((0 : Int) = (0 : Int)))) (v := (.bool (decide ((0 : Int) = (0 : Int))))) hf rfl rfl rfl (fun hact => (r_eq (gb_ev hact rfl) rfl)) rfl rfl ?_; clear hf fa; intro fa hf
  refine sqv hf (r_pickA (b := (decide ((0 : Int) = (0 : Int)))) (e := (decide ((0 : Int) = (0 : Int)))) rfl rfl rfl) rfl rfl rfl ?_; clear hf fa; intro fa hf
  refine sqv hf (r_move rfl) rfl rfl rfl ?_; clear hf fa; intro fa hf
  refine sqgT (act := ((decide ((0 : Int) = (0 : Int))) && (decide ((0 : Int) = (0 : Int))))) (ag := true) (c := ((decide ((0 : Int) = (0 : Int))) && (decide ((0 : Int) = (0 : Int))))) (v := (.int .i64 (1 : Int))) hf rfl rfl rfl (fun hact => (r_move rfl)) rfl rfl ?_; clear hf fa; intro fa hf
  refine sqgT (act := ((decide ((0 : Int) = (0 : Int))) && (decide ((0 : Int) = (0 : Int))))) (ag := true) (c := ((decide ((0 : Int) = (0 : Int))) && (decide ((0 : Int) = (0 : Int))))) (v := (.bool (decide ((1 : Int) = (1 : Int))))) hf rfl rfl rfl (fun hact => (r_eq (gb_ev hact rfl) rfl)) rfl rfl ?_; clear hf fa; intro fa hf
  refine sqv hf (r_pickA (b := ((decide ((0 : Int) = (0 : Int))) && (decide ((0 : Int) = (0 : Int))))) (e := (decide ((1 : Int) = (1 : Int)))) rfl rfl rfl) rfl rfl rfl ?_; clear hf fa; intro fa hf
  refine sqv hf (r_move rfl) rfl rfl rfl ?_; clear hf fa; intro fa hf
  refine sqgT (act := (((decide ((0 : Int) = (0 : Int))) && (decide ((0 : Int) = (0 : Int)))) && (decide ((1 : Int) = (1 : Int))))) (ag := true) (c := (((decide ((0 : Int) = (0 : Int))) && (decide ((0 : Int) = (0 : Int)))) && (decide ((1 : Int) = (1 : Int))))) (v := (.int .i64 (1 : Int))) hf rfl rfl rfl (fun hact => (r_move rfl)) rfl rfl ?_; clear hf fa; intro fa hf
  refine sqgT (act := (((decide ((0 : Int) = (0 : Int))) && (decide ((0 : Int) = (0 : Int)))) && (decide ((1 : Int) = (1 : Int))))) (ag := true) (c := (((decide ((0 : Int) = (0 : Int))) && (decide ((0 : Int) = (0 : Int)))) && (decide ((1 : Int) = (1 : Int))))) (v := (.bool (decide ((1 : Int) = (1 : Int))))) hf rfl rfl rfl (fun hact => (r_eq (gb_ev hact rfl) rfl)) rfl rfl ?_; clear hf fa; intro fa hf
  refine sqv hf (r_pickA (b := (((decide ((0 : Int) = (0 : Int))) && (decide ((0 : Int) = (0 : Int)))) && (decide ((1 : Int) = (1 : Int))))) (e := (decide ((1 : Int) = (1 : Int)))) rfl rfl rfl) rfl rfl rfl ?_; clear hf fa; intro fa hf
  refine sqv hf (r_move rfl) rfl rfl rfl ?_; clear hf fa; intro fa hf
  refine sqgT (act := ((((decide ((0 : Int) = (0 : Int))) && (decide ((0 : Int) = (0 : Int)))) && (decide ((1 : Int) = (1 : Int)))) && (decide ((1 : Int) = (1 : Int))))) (ag := true) (c := ((((decide ((0 : Int) = (0 : Int))) && (decide ((0 : Int) = (0 : Int)))) && (decide ((1 : Int) = (1 : Int)))) && (decide ((1 : Int) = (1 : Int))))) (v := (.int .i64 (0 : Int))) hf rfl rfl rfl (fun hact => (r_move rfl)) rfl rfl ?_; clear hf fa; intro fa hf
  refine sqgT (act := ((((decide ((0 : Int) = (0 : Int))) && (decide ((0 : Int) = (0 : Int)))) && (decide ((1 : Int) = (1 : Int)))) && (decide ((1 : Int) = (1 : Int))))) (ag := true) (c := ((((decide ((0 : Int) = (0 : Int))) && (decide ((0 : Int) = (0 : Int)))) && (decide ((1 : Int) = (1 : Int)))) && (decide ((1 : Int) = (1 : Int))))) (v := (.bool (decide ((0 : Int) = (0 : Int))))) hf rfl rfl rfl (fun hact => (r_eq (gb_ev hact rfl) rfl)) rfl rfl ?_; clear hf fa; intro fa hf
  refine sqv hf (r_pickA (b := ((((decide ((0 : Int) = (0 : Int))) && (decide ((0 : Int) = (0 : Int)))) && (decide ((1 : Int) = (1 : Int)))) && (decide ((1 : Int) = (1 : Int))))) (e := (decide ((0 : Int) = (0 : Int)))) rfl rfl rfl) rfl rfl rfl ?_; clear hf fa; intro fa hf
  refine sqv hf (r_move rfl) rfl rfl rfl ?_; clear hf fa; intro fa hf
  refine sqgT (act := (((((decide ((0 : Int) = (0 : Int))) && (decide ((0 : Int) = (0 : Int)))) && (decide ((1 : Int) = (1 : Int)))) && (decide ((1 : Int) = (1 : Int)))) && (decide ((0 : Int) = (0 : Int))))) (ag := true) (c := (((((decide ((0 : Int) = (0 : Int))) && (decide ((0 : Int) = (0 : Int)))) && (decide ((1 : Int) = (1 : Int)))) && (decide ((1 : Int) = (1 : Int)))) && (decide ((0 : Int) = (0 : Int))))) (v := (.int .i64 (0 : Int))) hf rfl rfl rfl (fun hact => (r_move rfl)) rfl rfl ?_; clear hf fa; intro fa hf
  refine sqgT (act := (((((decide ((0 : Int) = (0 : Int))) && (decide ((0 : Int) = (0 : Int)))) && (decide ((1 : Int) = (1 : Int)))) && (decide ((1 : Int) = (1 : Int)))) && (decide ((0 : Int) = (0 : Int))))) (ag := true) (c := (((((decide ((0 : Int) = (0 : Int))) && (decide ((0 : Int) = (0 : Int)))) && (decide ((1 : Int) = (1 : Int)))) && (decide ((1 : Int) = (1 : Int)))) && (decide ((0 : Int) = (0 : Int))))) (v := (.bool (decide ((0 : Int) = (0 : Int))))) hf rfl rfl rfl (fun hact => (r_eq (gb_ev hact rfl) rfl)) rfl rfl ?_; clear hf fa; intro fa hf
  refine sqv hf (r_pickA (b := (((((decide ((0 : Int) = (0 : Int))) && (decide ((0 : Int) = (0 : Int)))) && (decide ((1 : Int) = (1 : Int)))) && (decide ((1 : Int) = (1 : Int)))) && (decide ((0 : Int) = (0 : Int))))) (e := (decide ((0 : Int) = (0 : Int)))) rfl rfl rfl) rfl rfl rfl ?_; clear hf fa; intro fa hf
  refine sqv hf (r_assign rfl) rfl rfl rfl ?_; clear hf fa; intro fa hf
  apply wpList_nil
  (try simp only [Exit.then, Exit.inBlock, ↓reduceIte, Nat.reduceEqDiff])
  refine hK10 _ _ ?_
  refine wp_ret ?_
  (try simp only [Exit.then, Exit.inBlock])
  refine ret1 hf rfl rfl ?_
  exact ⟨rfl, hb⟩
end Go.Proofs.Ytmcmickgllffoaa
