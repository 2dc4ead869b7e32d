/- What is proved here: exports: Right and Put. -/
import Derived.Test.YtcmdajkkdognfaaTyL
import Derived.Test.YtcmdajkkdognfaaUwC
namespace Go.Proofs.Ytcmdajkkdognfaa
open Go.RowKit
set_option linter.unusedVariables false
set_option linter.unusedSimpArgs false
theorem checkF_le {s : ByteArray} (h : Ut.checkF s = 0) : s.size ≤ 200 := by
  unfold Ut.checkF at h
  split at h
  · cases h
  · omega

def erightP (ep : MExp) : Int :=
  bif (decide (((Ut.checkF ep.1)) ≠ (0 : Int))) then (Ut.checkF ep.1)
  else bif (decide ((3 : Int) < ep.2.1)) then (43 : Int)
  else (0 : Int)

set_option maxHeartbeats 1000000 in
set_option maxRecDepth 100000 in
theorem eright_any (ep : MExp) (w : World) (hs : ep.1.size ≤ 1000000) : Calls Try.prog 70 #[(.agg #[(.string ep.1), (.int .u8 ep.2.1), (.int .u32 ep.2.2.1)])] w fun e w' => e = .returned (.int .i64 ((erightP ep))) ∧ Below w.heap.size w w' := by
  refine sx_enter (L := [(0, (.agg #[(.string ep.1), (.int .u8 ep.2.1), (.int .u32 ep.2.2.1)]))]) Try.func70 rfl rfl rfl rfl (fun fa hf => ?_)
  have hb : Below w.heap.size w w := Below.refl _ _
  refine wp_seq_k (fun K1 hK1 => ?_)
  refine wp_region_lit ?_
  refine sqdt hf (d_box (cs := #[(.string ep.1), (.int .u8 ep.2.1), (.int .u32 ep.2.2.1)]) rfl rfl) rfl rfl rfl ?_; clear hf fa; rintro fa _ w1 ⟨b1, rfl, hle1, hk1, he1⟩ hf
  have hBb1 : w.heap.size ≤ b1 := Nat.le_trans hb.size hle1
  replace hb := hb.trans (Below.mono he1 hb.size)
  refine sqv hf (r_assign rfl) rfl rfl rfl ?_; clear hf fa; intro fa hf
  apply wpList_nil
  (try simp only [Exit.then, Exit.inBlock, ↓reduceIte, Nat.reduceEqDiff])
  refine hK1 _ _ ?_
  refine wp_seq_k (fun K2 hK2 => ?_)
  refine wp_seq_k (fun K3 hK3 => ?_)
  refine wp_region_lit ?_
  refine sqv hf (r_fa rfl Try.underlying26 (f := 0) (q := 0) rfl (by kernel_rfl) rfl) rfl rfl rfl ?_; clear hf fa; intro fa hf
  refine sqv hf (r_load (v := (.string ep.1)) rfl Try.underlying9 rfl (cell_blk hk1 rfl)) rfl rfl rfl ?_; clear hf fa; intro fa hf
  refine sqdt hf (d_callB (vs := [(.string ep.1)]) rfl Try.func109 (by kernel_rfl) (by kernel_rfl) (Ut.check_any ep.1 _ (by omega))) rfl rfl rfl ?_; clear hf fa; rintro fa _ w2 ⟨rfl, he2⟩ hf
  replace hk1 := blk_ext hk1 he2
  replace hb := hb.trans (Below.mono he2 hb.size)
  refine sqv hf (r_assign rfl) rfl rfl rfl ?_; clear hf fa; intro fa hf
  apply wpList_nil
  (try simp only [Exit.then, Exit.inBlock, ↓reduceIte, Nat.reduceEqDiff])
  refine hK3 _ _ ?_
  refine wp_seq_k (fun K4 hK4 => ?_)
  refine wp_region_lit ?_
  refine sqv hf (r_move rfl) rfl rfl rfl ?_; clear hf fa; intro fa hf
  refine sqv hf (r_ne rfl rfl) rfl rfl rfl ?_; clear hf fa; intro fa hf
  apply wpList_nil
  (try simp only [Exit.then, Exit.inBlock, ↓reduceIte, Nat.reduceEqDiff])
  refine hK4 _ _ ?_
  refine wp_cond_split (t := (decide (((Ut.checkF ep.1)) ≠ (0 : Int)))) (hf.ev rfl) (fun hqt8_1 => ?_) (fun hqt8_1 => ?_)
  · have hqt8_1b := hqt8_1
    try simp only [decide_eq_true_eq, Bool.and_eq_true, Bool.or_eq_true, Bool.not_eq_true', decide_eq_false_iff_not, ne_eq, Bool.not_eq_true] at hqt8_1
    refine wp_seq_k (fun K5 hK5 => ?_)
    refine wp_region_lit ?_
    refine sqv hf (r_move rfl) rfl rfl rfl ?_; clear hf fa; intro fa hf
    refine sqv hf (r_assign rfl) rfl rfl rfl ?_; clear hf fa; intro fa hf
    apply wpList_nil
    (try simp only [Exit.then, Exit.inBlock, ↓reduceIte, Nat.reduceEqDiff])
    refine hK5 _ _ ?_
    refine wp_ret ?_
    (try simp only [Exit.then, Exit.inBlock])
    refine ret1 hf rfl rfl ?_
    refine ⟨?_, hb⟩; unfold erightP; rw [hqt8_1b]; (try rfl)
  · have hqt8_1b := hqt8_1
    replace hqt8_1 := Bool.eq_false_iff.1 hqt8_1
    try simp only [ne_eq, decide_eq_true_eq, Bool.and_eq_true, Bool.or_eq_true, Bool.not_eq_true', decide_eq_false_iff_not] at hqt8_1
    refine wp_skip ?_
    (try simp only [Exit.then, Exit.inBlock, ↓reduceIte, Nat.reduceEqDiff])
    refine hK2 _ _ ?_
    refine wp_seq_k (fun K6 hK6 => ?_)
    refine wp_seq_k (fun K7 hK7 => ?_)
    refine wp_region_lit ?_
    refine sqv hf (r_fa rfl Try.underlying26 (f := 1) (q := 1) rfl (by kernel_rfl) rfl) rfl rfl rfl ?_; clear hf fa; intro fa hf
    refine sqv hf (r_load (v := (.int .u8 ep.2.1)) rfl Try.underlying5 rfl (cell_blk hk1 rfl)) rfl rfl rfl ?_; clear hf fa; intro fa hf
    refine sqv hf (r_gt rfl rfl) rfl rfl rfl ?_; clear hf fa; intro fa hf
    apply wpList_nil
    (try simp only [Exit.then, Exit.inBlock, ↓reduceIte, Nat.reduceEqDiff])
    refine hK7 _ _ ?_
    refine wp_cond_split (t := (decide ((3 : Int) < ep.2.1))) (hf.ev rfl) (fun hqt12_1 => ?_) (fun hqt12_1 => ?_)
    · have hqt12_1b := hqt12_1
      try simp only [decide_eq_true_eq, Bool.and_eq_true, Bool.or_eq_true, Bool.not_eq_true', decide_eq_false_iff_not, ne_eq, Bool.not_eq_true] at hqt12_1
      refine wp_seq_k (fun K8 hK8 => ?_)
      refine wp_region_lit ?_
      refine sqv hf (r_assign rfl) rfl rfl rfl ?_; clear hf fa; intro fa hf
      apply wpList_nil
      (try simp only [Exit.then, Exit.inBlock, ↓reduceIte, Nat.reduceEqDiff])
      refine hK8 _ _ ?_
      refine wp_ret ?_
      (try simp only [Exit.then, Exit.inBlock])
      refine ret1 hf rfl rfl ?_
      refine ⟨?_, hb⟩; unfold erightP; rw [hqt8_1b, hqt12_1b]; (try rfl)
    · have hqt12_1b := hqt12_1
      replace hqt12_1 := Bool.eq_false_iff.1 hqt12_1
      try simp only [ne_eq, decide_eq_true_eq, Bool.and_eq_true, Bool.or_eq_true, Bool.not_eq_true', decide_eq_false_iff_not] at hqt12_1
      refine wp_skip ?_
      (try simp only [Exit.then, Exit.inBlock, ↓reduceIte, Nat.reduceEqDiff])
      refine hK6 _ _ ?_
      refine wp_seq_k (fun K9 hK9 => ?_)
      refine wp_region_lit ?_
      refine sqv hf (r_assign rfl) rfl rfl rfl ?_; clear hf fa; intro fa hf
      apply wpList_nil
      (try simp only [Exit.then, Exit.inBlock, ↓reduceIte, Nat.reduceEqDiff])
      refine hK9 _ _ ?_
      refine wp_ret ?_
      (try simp only [Exit.then, Exit.inBlock])
      refine ret1 hf rfl rfl ?_
      refine ⟨?_, hb⟩; unfold erightP; rw [hqt8_1b, hqt12_1b]; (try rfl)

def encE (ep : MExp) : List Int := uL ep.1.size ++ nums ep.1 ++ [ep.2.1] ++ uL ep.2.2.1.toNat
def eputL (ep : MExp) : List Int := if erightP ep = 0 then encE ep else []
theorem eright_le {ep : MExp} (h : erightP ep = 0) : ep.1.size ≤ 200 := by
  unfold erightP at h
  by_cases hc : Ut.checkF ep.1 = 0
  · exact checkF_le hc
  · rw [show decide (Ut.checkF ep.1 ≠ 0) = true by simpa using hc] at h
    exact absurd h hc

set_option maxHeartbeats 1000000 in
set_option maxRecDepth 100000 in
theorem eput_any (ep : MExp) (w : World) (hs : ep.1.size ≤ 1000000) (hx1 : 0 ≤ ep.2.1 ∧ ep.2.1 < 256) (hx2 : 0 ≤ ep.2.2.1 ∧ ep.2.2.1 < 4294967296) : Calls Try.prog 69 #[(.agg #[(.string ep.1), (.int .u8 ep.2.1), (.int .u32 ep.2.2.1)])] w fun e w' => ∃ v, e = .returned (.tuple #[v, .int .i64 (erightP ep)]) ∧ Row 1 (vInt .u8) 5 w.heap.size w' v (eputL ep) ∧ Below w.heap.size w w' := by
  refine sx_enter (L := [(0, (.agg #[(.string ep.1), (.int .u8 ep.2.1), (.int .u32 ep.2.2.1)]))]) Try.func69 rfl rfl rfl rfl (fun fa hf => ?_)
  have hb : Below w.heap.size w w := Below.refl _ _
  refine wp_seq_k (fun K1 hK1 => ?_)
  refine wp_region_lit ?_
  refine sqdt hf (d_box (cs := #[(.string ep.1), (.int .u8 ep.2.1), (.int .u32 ep.2.2.1)]) rfl rfl) rfl rfl rfl ?_; clear hf fa; rintro fa _ w1 ⟨b1, rfl, hle1, hk1, he1⟩ hf
  have hBb1 : w.heap.size ≤ b1 := Nat.le_trans hb.size hle1
  replace hb := hb.trans (Below.mono he1 hb.size)
  refine sqv hf (r_assign rfl) rfl rfl rfl ?_; clear hf fa; intro fa hf
  refine sqv hf (r_assign rfl) rfl rfl rfl ?_; clear hf fa; intro fa hf
  apply wpList_nil
  (try simp only [Exit.then, Exit.inBlock, ↓reduceIte, Nat.reduceEqDiff])
  refine hK1 _ _ ?_
  refine wp_seq_k (fun K2 hK2 => ?_)
  refine wp_seq_k (fun K3 hK3 => ?_)
  refine wp_region_lit ?_
  refine sqv hf (r_loadA (cs := [(.string ep.1), (.int .u8 ep.2.1), (.int .u32 ep.2.2.1)]) rfl Try.underlying26 rfl (by kernel_rfl) (cellsAt_blk hk1)) rfl rfl rfl ?_; clear hf fa; intro fa hf
  refine sqdt hf (d_callB (vs := [(.agg #[(.string ep.1), (.int .u8 ep.2.1), (.int .u32 ep.2.2.1)])]) rfl Try.func70 (by kernel_rfl) (by kernel_rfl) (eright_any ep _ hs)) rfl rfl rfl ?_; clear hf fa; rintro fa _ w2 ⟨rfl, he2⟩ hf
  replace hk1 := blk_ext hk1 he2
  replace hb := hb.trans (Below.mono he2 hb.size)
  refine sqv hf (r_assign rfl) rfl rfl rfl ?_; clear hf fa; intro fa hf
  apply wpList_nil
  (try simp only [Exit.then, Exit.inBlock, ↓reduceIte, Nat.reduceEqDiff])
  refine hK3 _ _ ?_
  refine wp_seq_k (fun K4 hK4 => ?_)
  refine wp_region_lit ?_
  refine sqv hf (r_move rfl) rfl rfl rfl ?_; clear hf fa; intro fa hf
  refine sqv hf (r_ne rfl rfl) rfl rfl rfl ?_; clear hf fa; intro fa hf
  apply wpList_nil
  (try simp only [Exit.then, Exit.inBlock, ↓reduceIte, Nat.reduceEqDiff])
  refine hK4 _ _ ?_
  refine wp_cond_split (t := (decide (((erightP ep)) ≠ (0 : Int)))) (hf.ev rfl) (fun hqt9_1 => ?_) (fun hqt9_1 => ?_)
  · have hqt9_1b := hqt9_1
    try simp only [decide_eq_true_eq, Bool.and_eq_true, Bool.or_eq_true, Bool.not_eq_true', decide_eq_false_iff_not, ne_eq, Bool.not_eq_true] at hqt9_1
    refine wp_seq_k (fun K5 hK5 => ?_)
    refine wp_region_lit ?_
    refine sqv hf (r_move rfl) rfl rfl rfl ?_; clear hf fa; intro fa hf
    refine sqv hf (r_assign rfl) rfl rfl rfl ?_; clear hf fa; intro fa hf
    refine sqv hf (r_assign rfl) rfl rfl rfl ?_; clear hf fa; intro fa hf
    apply wpList_nil
    (try simp only [Exit.then, Exit.inBlock, ↓reduceIte, Nat.reduceEqDiff])
    refine hK5 _ _ ?_
    refine wp_ret ?_
    (try simp only [Exit.then, Exit.inBlock])
    refine ret2 hf rfl rfl rfl ?_
    refine ⟨_, rfl, ?_, hb⟩
    rw [eputL, if_neg hqt9_1]; exact Row.nil
  · have hqt9_1b := hqt9_1
    replace hqt9_1 := Bool.eq_false_iff.1 hqt9_1
    try simp only [ne_eq, decide_eq_true_eq, Bool.and_eq_true, Bool.or_eq_true, Bool.not_eq_true', decide_eq_false_iff_not] at hqt9_1
    refine wp_skip ?_
    (try simp only [Exit.then, Exit.inBlock, ↓reduceIte, Nat.reduceEqDiff])
    refine hK2 _ _ ?_
    refine wp_seq_k (fun K6 hK6 => ?_)
    have hz : erightP ep = 0 := by have h := hqt9_1; omega
    have hz2 := eright_le hz
    have hu1 := uL_len ep.1.size (by omega)
    have hu2 := uL_len ep.2.2.1.toNat (by omega)
    refine wp_region_vnT 8 (fun _ wq => Below w2.heap.size w2 wq)
      (fun V S => [(fun x _ => x = (.pointer (some ⟨b1, 0, none⟩))), (fun x _ => x = (.string ep.1)), (fun x _ => x = (.int .i64 ((ep.1.size : Nat) : Int))), (fun x _ => x = (.int .u64 ((ep.1.size : Nat) : Int))), (fun x wq => ∃ b, (∃ c, x = .slice (some ⟨b, 0, none⟩) (((uL ep.1.size)).length) c) ∧ w2.heap.size ≤ b ∧ (¬ S 7 → Row 1 (vInt .u8) 5 w2.heap.size wq x (uL ep.1.size))), (fun x _ => x = (.pointer (some ⟨b1, 0, none⟩))), (fun x _ => x = (.string ep.1)), (fun x wq => ∃ b, (∃ c, x = .slice (some ⟨b, 0, none⟩) ((uL ep.1.size) ++ (nums ep.1)).length c) ∧ w2.heap.size ≤ b ∧ Row 1 (vInt .u8) 5 w2.heap.size wq x ((uL ep.1.size) ++ (nums ep.1)))])
      [4]
      [[], [0], [1], [2], [3], [], [5], [4, 6], []]
      hf (by kernel_rfl) (by kernel_rfl) (by kernel_rfl) (fun _ _ => rfl) (fun _ _ => (Below.refl _ _).drew) (fun _ _ _ _ _ _ => rfl) ?_ ?_
    · skip
      intro V
      have hKP : ∀ (i : Nat) (S : Nat → Prop) (wk : World), (∀ q ∈ ([7] : List Nat), q ≠ i) → ∀ j v w', (((fun (S : Nat → Prop) => ([(fun x _ => x = (.pointer (some ⟨b1, 0, none⟩))), (fun x _ => x = (.string ep.1)), (fun x _ => x = (.int .i64 ((ep.1.size : Nat) : Int))), (fun x _ => x = (.int .u64 ((ep.1.size : Nat) : Int))), (fun x wq => ∃ b, (∃ c, x = .slice (some ⟨b, 0, none⟩) (((uL ep.1.size)).length) c) ∧ w2.heap.size ≤ b ∧ (¬ S 7 → Row 1 (vInt .u8) 5 w2.heap.size wq x (uL ep.1.size))), (fun x _ => x = (.pointer (some ⟨b1, 0, none⟩))), (fun x _ => x = (.string ep.1)), (fun x wq => ∃ b, (∃ c, x = .slice (some ⟨b, 0, none⟩) ((uL ep.1.size) ++ (nums ep.1)).length c) ∧ w2.heap.size ≤ b ∧ Row 1 (vInt .u8) 5 w2.heap.size wq x ((uL ep.1.size) ++ (nums ep.1)))] : List (Value → World → Prop))) S).getD j (fun _ _ => True)) v wk → Below wk.heap.size wk w' → (((fun (S : Nat → Prop) => ([(fun x _ => x = (.pointer (some ⟨b1, 0, none⟩))), (fun x _ => x = (.string ep.1)), (fun x _ => x = (.int .i64 ((ep.1.size : Nat) : Int))), (fun x _ => x = (.int .u64 ((ep.1.size : Nat) : Int))), (fun x wq => ∃ b, (∃ c, x = .slice (some ⟨b, 0, none⟩) (((uL ep.1.size)).length) c) ∧ w2.heap.size ≤ b ∧ (¬ S 7 → Row 1 (vInt .u8) 5 w2.heap.size wq x (uL ep.1.size))), (fun x _ => x = (.pointer (some ⟨b1, 0, none⟩))), (fun x _ => x = (.string ep.1)), (fun x wq => ∃ b, (∃ c, x = .slice (some ⟨b, 0, none⟩) ((uL ep.1.size) ++ (nums ep.1)).length c) ∧ w2.heap.size ≤ b ∧ Row 1 (vInt .u8) 5 w2.heap.size wq x ((uL ep.1.size) ++ (nums ep.1)))] : List (Value → World → Prop))) (ad i S)).getD j (fun _ _ => True)) v w' := by
        intro i S wk hi j v w' h hB
        match j with
        | 0 =>
          exact h
        | 1 =>
          exact h
        | 2 =>
          exact h
        | 3 =>
          exact h
        | 4 =>
          obtain ⟨b, e1, e2, e3⟩ := h
          exact ⟨b, e1, e2, fun hn => Row.ext (e3 (fun hs => hn (.inr hs))) hB⟩
        | 5 =>
          exact h
        | 6 =>
          exact h
        | 7 =>
          obtain ⟨b, e1, e2, e3⟩ := h
          exact ⟨b, e1, e2, Row.ext e3 hB⟩
        | _ + 8 => trivial
      refine ⟨fun S wu0 hC hS hd hi => ?_, ?_⟩
      · skip
        replace hC : Below w2.heap.size w2 wu0 := hC
        refine uv_plain (C := (fun _ wq => Below w2.heap.size w2 wq)) (hKP 0 S wu0 (by decide)) (fun _ h1 h2 => Below.trans h1 (Below.mono h2 (Below.size h1))) hC hS ?_
        replace hb := hb.trans (hC.mono hb.size)
        replace hk1 := blk_ext hk1 hC
        exact Runs.does (r_fa rfl Try.underlying26 (f := 0) (q := 0) rfl (by kernel_rfl) rfl) ⟨Below.refl _ _, rfl, nofr rfl⟩
      refine ⟨fun S wu1 hC hS hd hi => ?_, ?_⟩
      · skip
        replace hC : Below w2.heap.size w2 wu1 := hC
        refine uv_plain (C := (fun _ wq => Below w2.heap.size w2 wq)) (hKP 1 S wu1 (by decide)) (fun _ h1 h2 => Below.trans h1 (Below.mono h2 (Below.size h1))) hC hS ?_
        have h0 := hS.post 0 (hd 0 (by decide))
        replace h0 : V 0 = (.pointer (some ⟨b1, 0, none⟩)) := h0
        replace hb := hb.trans (hC.mono hb.size)
        replace hk1 := blk_ext hk1 hC
        exact Runs.does (r_load (v := (.string ep.1)) (congrArg some h0) Try.underlying9 rfl (cell_blk hk1 rfl)) ⟨Below.refl _ _, rfl, nofr rfl⟩
      refine ⟨fun S wu2 hC hS hd hi => ?_, ?_⟩
      · skip
        replace hC : Below w2.heap.size w2 wu2 := hC
        refine uv_plain (C := (fun _ wq => Below w2.heap.size w2 wq)) (hKP 2 S wu2 (by decide)) (fun _ h1 h2 => Below.trans h1 (Below.mono h2 (Below.size h1))) hC hS ?_
        have h1 := hS.post 1 (hd 1 (by decide))
        replace h1 : V 1 = (.string ep.1) := h1
        replace hb := hb.trans (hC.mono hb.size)
        replace hk1 := blk_ext hk1 hC
        exact Runs.does (r_lens (congrArg some h1) Try.underlying9) ⟨Below.refl _ _, rfl, nofr rfl⟩
      refine ⟨fun S wu3 hC hS hd hi => ?_, ?_⟩
      · skip
        replace hC : Below w2.heap.size w2 wu3 := hC
        refine uv_plain (C := (fun _ wq => Below w2.heap.size w2 wq)) (hKP 3 S wu3 (by decide)) (fun _ h1 h2 => Below.trans h1 (Below.mono h2 (Below.size h1))) hC hS ?_
        have h2 := hS.post 2 (hd 2 (by decide))
        replace h2 : V 2 = (.int .i64 ((ep.1.size : Nat) : Int)) := h2
        replace hb := hb.trans (hC.mono hb.size)
        replace hk1 := blk_ext hk1 hC
        exact Runs.does (r_conv (C := ((ep.1.size : Nat) : Int)) (congrArg some h2) Try.underlying3 Try.underlying55 (by rw [IntKind.wrap_u64]; omega)) ⟨Below.refl _ _, rfl, nofr rfl⟩
      refine ⟨fun S wu4 hC hS hd hi => ?_, ?_⟩
      · skip
        replace hC : Below w2.heap.size w2 wu4 := hC
        refine uv_plain (C := (fun _ wq => Below w2.heap.size w2 wq)) (hKP 4 S wu4 (by decide)) (fun _ h1 h2 => Below.trans h1 (Below.mono h2 (Below.size h1))) hC hS ?_
        have h3 := hS.post 3 (hd 3 (by decide))
        replace h3 : V 3 = (.int .u64 ((ep.1.size : Nat) : Int)) := h3
        replace hb := hb.trans (hC.mono hb.size)
        replace hk1 := blk_ext hk1 hC
        refine Does.mono (d_callX (vs := [(.int .u64 ((ep.1.size : Nat) : Int))]) (show [some (V 3)] = [some (.int .u64 ((ep.1.size : Nat) : Int))] from by rw [h3]) Try.func110 (by kernel_rfl) (by kernel_rfl) (uint_row ep.1.size (by omega) _)) ?_
        rintro _ w' ⟨hF2, hF3⟩
        obtain ⟨ra, rc, rfl, _, _⟩ := Row.slice hF2
        obtain ⟨b, rfl, hF, hF4⟩ := Row.some hF2 (by first | omega | (simp only [Sl.list_length, List.length_set, List.length_take, List.length_append, List.length_replicate, List.length_cons, List.length_nil, List.length_map, nums_len]; omega))
        exact ⟨hF3, ⟨b, ⟨rc, rfl⟩, Nat.le_trans hC.size hF, fun _ => hF2.rebase hC.size⟩, isfr rfl hF (Row.lt hF2 _ rfl).2⟩
      refine ⟨fun S wu5 hC hS hd hi => ?_, ?_⟩
      · skip
        replace hC : Below w2.heap.size w2 wu5 := hC
        refine uv_plain (C := (fun _ wq => Below w2.heap.size w2 wq)) (hKP 5 S wu5 (by decide)) (fun _ h1 h2 => Below.trans h1 (Below.mono h2 (Below.size h1))) hC hS ?_
        replace hb := hb.trans (hC.mono hb.size)
        replace hk1 := blk_ext hk1 hC
        exact Runs.does (r_fa rfl Try.underlying26 (f := 0) (q := 0) rfl (by kernel_rfl) rfl) ⟨Below.refl _ _, rfl, nofr rfl⟩
      refine ⟨fun S wu6 hC hS hd hi => ?_, ?_⟩
      · skip
        replace hC : Below w2.heap.size w2 wu6 := hC
        refine uv_plain (C := (fun _ wq => Below w2.heap.size w2 wq)) (hKP 6 S wu6 (by decide)) (fun _ h1 h2 => Below.trans h1 (Below.mono h2 (Below.size h1))) hC hS ?_
        have h5 := hS.post 5 (hd 5 (by decide))
        replace h5 : V 5 = (.pointer (some ⟨b1, 0, none⟩)) := h5
        replace hb := hb.trans (hC.mono hb.size)
        replace hk1 := blk_ext hk1 hC
        exact Runs.does (r_load (v := (.string ep.1)) (congrArg some h5) Try.underlying9 rfl (cell_blk hk1 rfl)) ⟨Below.refl _ _, rfl, nofr rfl⟩
      refine ⟨fun S wu7 hC hS hd hi => ?_, ?_⟩
      · skip
        replace hC : Below w2.heap.size w2 wu7 := hC
        have h4 := hS.post 4 (hd 4 (by decide))
        obtain ⟨mb1, ⟨mc1, h4⟩, hle2, hr1⟩ := h4
        replace hr1 := hr1 hi
        rw [h4] at hr1
        have h6 := hS.post 6 (hd 6 (by decide))
        replace h6 : V 6 = (.string ep.1) := h6
        replace hb := hb.trans (hC.mono hb.size)
        replace hk1 := blk_ext hk1 hC
        refine Does.mono (d_appendS (base := w2.heap.size) (l := (uL ep.1.size)) (congrArg some h4) (congrArg some h6) Try.underlying47 Try.underlying9 (by kernel_rfl) hr1 (by first | omega | (simp only [List.length_cons, List.length_nil, List.length_append, nums_len]; omega)) hC.size) ?_
        rintro v' wz ⟨hY, hgY⟩
        obtain ⟨ra, rc, rfl, _, _⟩ := Row.slice hY
        obtain ⟨br, rfl, hbr, _⟩ := Row.some hY (by first | omega | (simp only [Sl.list_length, List.length_set, List.length_take, List.length_append, List.length_replicate, List.length_cons, List.length_nil, List.length_map, nums_len]; omega))
        refine ⟨⟨hC.trans (row_below hr1 hgY hC.size (Nat.le_refl _)), fun j hj => ?_, hgY.size⟩, ⟨br, ⟨rc, rfl⟩, hbr, hY⟩, nofr rfl⟩
        match j with
        | 0 =>
          exact hS.post 0 hj
        | 1 =>
          exact hS.post 1 hj
        | 2 =>
          exact hS.post 2 hj
        | 3 =>
          exact hS.post 3 hj
        | 4 =>
          exact ⟨mb1, ⟨mc1, h4⟩, hle2, fun hn => absurd (.inl rfl) hn⟩
        | 5 =>
          exact hS.post 5 hj
        | 6 =>
          exact hS.post 6 hj
        | 7 =>
          exact absurd hj hi
        | _ + 8 => trivial
      trivial
    · skip
      clear hf fa; intro V S w3 fa hall he3 hp hnb hf
      have hv0 := postsHold_at hp 0 rfl
      replace hv0 : V 0 = (.pointer (some ⟨b1, 0, none⟩)) := hv0
      have hv1 := postsHold_at hp 1 rfl
      replace hv1 : V 1 = (.string ep.1) := hv1
      have hv2 := postsHold_at hp 2 rfl
      replace hv2 : V 2 = (.int .i64 ((ep.1.size : Nat) : Int)) := hv2
      have hv3 := postsHold_at hp 3 rfl
      replace hv3 : V 3 = (.int .u64 ((ep.1.size : Nat) : Int)) := hv3
      have hv4 := postsHold_at hp 4 rfl
      obtain ⟨mb1, ⟨mc1, hv4⟩, hle2, hr1⟩ := hv4
      clear hr1
      have hBmb1 : w.heap.size ≤ mb1 := Nat.le_trans hb.size hle2
      have hv5 := postsHold_at hp 5 rfl
      replace hv5 : V 5 = (.pointer (some ⟨b1, 0, none⟩)) := hv5
      have hv6 := postsHold_at hp 6 rfl
      replace hv6 : V 6 = (.string ep.1) := hv6
      have hv7 := postsHold_at hp 7 rfl
      obtain ⟨mb2, ⟨mc2, hv7⟩, hle3, hr2⟩ := hv7
      rw [hv7] at hr2
      replace hr2 := Row.rebase hr2 hb.size
      have hcmc2 := Row.caps hr2
      have hBmb2 : w.heap.size ≤ mb2 := Nat.le_trans hb.size hle3
      simp only [List.take_succ_cons, List.take_zero, insAll, ins, hv0, hv1, hv2, hv3, hv4, hv5, hv6, hv7] at hf
      have : b1 < mb1 := Nat.lt_of_lt_of_le (blk_lt hk1) hle2
      clear hp hnb hall hv0 hv1 hv2 hv3 hv4 hv5 hv6 hv7
      replace hk1 := blk_ext hk1 he3
      replace hb := hb.trans (Below.mono he3 hb.size)
      simp only [List.drop_succ_cons, List.drop_zero]
      refine sqv hf (r_assign rfl) rfl rfl rfl ?_; clear hf fa; intro fa hf
      apply wpList_nil
      (try simp only [Exit.then, Exit.inBlock, ↓reduceIte, Nat.reduceEqDiff])
      refine hK6 _ _ ?_
      refine wp_seq_k (fun K7 hK7 => ?_)
      have hbO : w.heap.size ≤ mb2 := (Row.lt hr2 mb2 rfl).1
      have hlO : mb2 < w3.heap.size := (Row.lt hr2 mb2 rfl).2
      have hnob1 : b1 ≠ mb2 := (fun e => Row.ne_type hr2 hk1 rfl (show some mb2 = some b1 by rw [e]))
      refine wp_region_vnT 8 (fun S wq => w3.grownBy wq (some mb2) ∧ (¬ S 4 → Row 1 (vInt .u8) 5 (w.heap.size) wq (.slice (some ⟨mb2, 0, none⟩) (((uL ep.1.size) ++ (nums ep.1)).length) mc2) ((uL ep.1.size) ++ (nums ep.1))))
        (fun V S => [(fun x _ => x = (.slice (some ⟨mb2, 0, none⟩) (((uL ep.1.size) ++ (nums ep.1)).length) mc2)), (fun x _ => x = (.pointer (some ⟨b1, 1, none⟩))), (fun x _ => x = (.int .u8 ep.2.1)), (fun x wq => ∃ b, x = .slice (some ⟨b, 0, none⟩) 1 1 ∧ w3.heap.size ≤ b ∧ (¬ S 4 → wq.heap[b]? = some (.cells #[(.int .u8 ep.2.1)] 5 (0, 0)))), (fun x wq => ∃ b, (∃ c, x = .slice (some ⟨b, 0, none⟩) (((uL ep.1.size) ++ (nums ep.1)) ++ [ep.2.1]).length c) ∧ w.heap.size ≤ b ∧ Row 1 (vInt .u8) 5 w.heap.size wq x (((uL ep.1.size) ++ (nums ep.1)) ++ [ep.2.1])), (fun x _ => x = (.pointer (some ⟨b1, 2, none⟩))), (fun x _ => x = (.int .u32 ep.2.2.1)), (fun x _ => x = (.int .u64 ep.2.2.1))])
        [3]
        [[], [], [1], [2], [0, 3], [], [5], [6], [], [], [], []]
        hf (by kernel_rfl) (by kernel_rfl) (by kernel_rfl) (fun _ _ => rfl) (fun _ _ => ⟨below_grown (Below.refl _ _).drew, fun _ => Row.ext hr2 (Below.refl _ _).drew⟩) (fun _ _ _ _ _ _ => rfl) ?_ ?_
      · skip
        intro V
        have hKP : ∀ (i : Nat) (S : Nat → Prop) (wk : World), (∀ q ∈ ([4] : List Nat), q ≠ i) → ∀ j v w', (((fun (S : Nat → Prop) => ([(fun x _ => x = (.slice (some ⟨mb2, 0, none⟩) (((uL ep.1.size) ++ (nums ep.1)).length) mc2)), (fun x _ => x = (.pointer (some ⟨b1, 1, none⟩))), (fun x _ => x = (.int .u8 ep.2.1)), (fun x wq => ∃ b, x = .slice (some ⟨b, 0, none⟩) 1 1 ∧ w3.heap.size ≤ b ∧ (¬ S 4 → wq.heap[b]? = some (.cells #[(.int .u8 ep.2.1)] 5 (0, 0)))), (fun x wq => ∃ b, (∃ c, x = .slice (some ⟨b, 0, none⟩) (((uL ep.1.size) ++ (nums ep.1)) ++ [ep.2.1]).length c) ∧ w.heap.size ≤ b ∧ Row 1 (vInt .u8) 5 w.heap.size wq x (((uL ep.1.size) ++ (nums ep.1)) ++ [ep.2.1])), (fun x _ => x = (.pointer (some ⟨b1, 2, none⟩))), (fun x _ => x = (.int .u32 ep.2.2.1)), (fun x _ => x = (.int .u64 ep.2.2.1))] : List (Value → World → Prop))) S).getD j (fun _ _ => True)) v wk → Below wk.heap.size wk w' → (((fun (S : Nat → Prop) => ([(fun x _ => x = (.slice (some ⟨mb2, 0, none⟩) (((uL ep.1.size) ++ (nums ep.1)).length) mc2)), (fun x _ => x = (.pointer (some ⟨b1, 1, none⟩))), (fun x _ => x = (.int .u8 ep.2.1)), (fun x wq => ∃ b, x = .slice (some ⟨b, 0, none⟩) 1 1 ∧ w3.heap.size ≤ b ∧ (¬ S 4 → wq.heap[b]? = some (.cells #[(.int .u8 ep.2.1)] 5 (0, 0)))), (fun x wq => ∃ b, (∃ c, x = .slice (some ⟨b, 0, none⟩) (((uL ep.1.size) ++ (nums ep.1)) ++ [ep.2.1]).length c) ∧ w.heap.size ≤ b ∧ Row 1 (vInt .u8) 5 w.heap.size wq x (((uL ep.1.size) ++ (nums ep.1)) ++ [ep.2.1])), (fun x _ => x = (.pointer (some ⟨b1, 2, none⟩))), (fun x _ => x = (.int .u32 ep.2.2.1)), (fun x _ => x = (.int .u64 ep.2.2.1))] : List (Value → World → Prop))) (ad i S)).getD j (fun _ _ => True)) v w' := by
          intro i S wk hi j v w' h hB
          match j with
          | 0 =>
            exact h
          | 1 =>
            exact h
          | 2 =>
            exact h
          | 3 =>
            obtain ⟨b, e1, e2, e3⟩ := h
            exact ⟨b, e1, e2, fun hn => blk_ext (e3 (fun hs => hn (.inr hs))) hB⟩
          | 4 =>
            obtain ⟨b, e1, e2, e3⟩ := h
            exact ⟨b, e1, e2, Row.ext e3 hB⟩
          | 5 =>
            exact h
          | 6 =>
            exact h
          | 7 =>
            exact h
          | _ + 8 => trivial
        refine ⟨fun S wu0 hC hS hd hi => ?_, ?_⟩
        · skip
          replace hC := show w3.grownBy wu0 (some mb2) ∧ (¬ S 4 → Row 1 (vInt .u8) 5 (w.heap.size) wu0 (.slice (some ⟨mb2, 0, none⟩) (((uL ep.1.size) ++ (nums ep.1)).length) mc2) ((uL ep.1.size) ++ (nums ep.1))) from hC
          refine uv_plain (C := (fun S wq => w3.grownBy wq (some mb2) ∧ (¬ S 4 → Row 1 (vInt .u8) 5 (w.heap.size) wq (.slice (some ⟨mb2, 0, none⟩) (((uL ep.1.size) ++ (nums ep.1)).length) mc2) ((uL ep.1.size) ++ (nums ep.1))))) (hKP 0 S wu0 (by decide)) (fun _ h1 h2 => ⟨grown_trans h1.1 (below_grown h2), fun hn => Row.ext (h1.2 (fun hs => hn (.inr hs))) h2⟩) hC hS ?_
          obtain ⟨hC, hCr⟩ := hC
          replace hb := hb.trans (grown_below hC hb.size hbO)
          replace hk1 := blk_grown hk1 hC hnob1
          exact Runs.does (r_move rfl) ⟨Below.refl _ _, rfl, nofr rfl⟩
        refine ⟨fun S wu1 hC hS hd hi => ?_, ?_⟩
        · skip
          replace hC := show w3.grownBy wu1 (some mb2) ∧ (¬ S 4 → Row 1 (vInt .u8) 5 (w.heap.size) wu1 (.slice (some ⟨mb2, 0, none⟩) (((uL ep.1.size) ++ (nums ep.1)).length) mc2) ((uL ep.1.size) ++ (nums ep.1))) from hC
          refine uv_plain (C := (fun S wq => w3.grownBy wq (some mb2) ∧ (¬ S 4 → Row 1 (vInt .u8) 5 (w.heap.size) wq (.slice (some ⟨mb2, 0, none⟩) (((uL ep.1.size) ++ (nums ep.1)).length) mc2) ((uL ep.1.size) ++ (nums ep.1))))) (hKP 1 S wu1 (by decide)) (fun _ h1 h2 => ⟨grown_trans h1.1 (below_grown h2), fun hn => Row.ext (h1.2 (fun hs => hn (.inr hs))) h2⟩) hC hS ?_
          obtain ⟨hC, hCr⟩ := hC
          replace hb := hb.trans (grown_below hC hb.size hbO)
          replace hk1 := blk_grown hk1 hC hnob1
          exact Runs.does (r_fa rfl Try.underlying26 (f := 1) (q := 1) rfl (by kernel_rfl) rfl) ⟨Below.refl _ _, rfl, nofr rfl⟩
        refine ⟨fun S wu2 hC hS hd hi => ?_, ?_⟩
        · skip
          replace hC := show w3.grownBy wu2 (some mb2) ∧ (¬ S 4 → Row 1 (vInt .u8) 5 (w.heap.size) wu2 (.slice (some ⟨mb2, 0, none⟩) (((uL ep.1.size) ++ (nums ep.1)).length) mc2) ((uL ep.1.size) ++ (nums ep.1))) from hC
          refine uv_plain (C := (fun S wq => w3.grownBy wq (some mb2) ∧ (¬ S 4 → Row 1 (vInt .u8) 5 (w.heap.size) wq (.slice (some ⟨mb2, 0, none⟩) (((uL ep.1.size) ++ (nums ep.1)).length) mc2) ((uL ep.1.size) ++ (nums ep.1))))) (hKP 2 S wu2 (by decide)) (fun _ h1 h2 => ⟨grown_trans h1.1 (below_grown h2), fun hn => Row.ext (h1.2 (fun hs => hn (.inr hs))) h2⟩) hC hS ?_
          obtain ⟨hC, hCr⟩ := hC
          have h1 := hS.post 1 (hd 1 (by decide))
          replace h1 : V 1 = (.pointer (some ⟨b1, 1, none⟩)) := h1
          replace hb := hb.trans (grown_below hC hb.size hbO)
          replace hk1 := blk_grown hk1 hC hnob1
          exact Runs.does (r_load (v := (.int .u8 ep.2.1)) (congrArg some h1) Try.underlying5 rfl (cell_blk hk1 rfl)) ⟨Below.refl _ _, rfl, nofr rfl⟩
        refine ⟨fun S wu3 hC hS hd hi => ?_, ?_⟩
        · skip
          replace hC := show w3.grownBy wu3 (some mb2) ∧ (¬ S 4 → Row 1 (vInt .u8) 5 (w.heap.size) wu3 (.slice (some ⟨mb2, 0, none⟩) (((uL ep.1.size) ++ (nums ep.1)).length) mc2) ((uL ep.1.size) ++ (nums ep.1))) from hC
          refine uv_plain (C := (fun S wq => w3.grownBy wq (some mb2) ∧ (¬ S 4 → Row 1 (vInt .u8) 5 (w.heap.size) wq (.slice (some ⟨mb2, 0, none⟩) (((uL ep.1.size) ++ (nums ep.1)).length) mc2) ((uL ep.1.size) ++ (nums ep.1))))) (hKP 3 S wu3 (by decide)) (fun _ h1 h2 => ⟨grown_trans h1.1 (below_grown h2), fun hn => Row.ext (h1.2 (fun hs => hn (.inr hs))) h2⟩) hC hS ?_
          obtain ⟨hC, hCr⟩ := hC
          have h2 := hS.post 2 (hd 2 (by decide))
          replace h2 : V 2 = (.int .u8 ep.2.1) := h2
          replace hb := hb.trans (grown_below hC hb.size hbO)
          replace hk1 := blk_grown hk1 hC hnob1
          refine Does.mono (d_bslice (z := (.int .u8 (0 : Int))) (sz := 1) (vs := [(0, (.int .u8 ep.2.1))]) (cs := #[(.int .u8 ep.2.1)]) (show [(0, some (V 2))] = [(0, some (.int .u8 ep.2.1))] from by rw [h2]) Try.underlying47 (by kernel_rfl) rfl (by kernel_rfl)) ?_
          rintro _ w' ⟨b, rfl, hF⟩
          exact ⟨hF.2.2, ⟨b, rfl, Nat.le_trans hC.size hF.1, fun _ => hF.2.1⟩, isfr rfl hF.1 (blk_lt hF.2.1)⟩
        refine ⟨fun S wu4 hC hS hd hi => ?_, ?_⟩
        · skip
          replace hC := show w3.grownBy wu4 (some mb2) ∧ (¬ S 4 → Row 1 (vInt .u8) 5 (w.heap.size) wu4 (.slice (some ⟨mb2, 0, none⟩) (((uL ep.1.size) ++ (nums ep.1)).length) mc2) ((uL ep.1.size) ++ (nums ep.1))) from hC
          obtain ⟨hC, hCr⟩ := hC
          have h0 := hS.post 0 (hd 0 (by decide))
          replace h0 : V 0 = (.slice (some ⟨mb2, 0, none⟩) (((uL ep.1.size) ++ (nums ep.1)).length) mc2) := h0
          have h3 := hS.post 3 (hd 3 (by decide))
          obtain ⟨b2, h3, hle4, hk2⟩ := h3
          replace hk2 := hk2 hi
          replace hb := hb.trans (grown_below hC hb.size hbO)
          replace hk1 := blk_grown hk1 hC hnob1
          have hrB := Row.of_new (k := 1) (V := (vInt .u8)) (l := [ep.2.1]) (base := w3.heap.size) hk2 hle4 rfl rfl (Nat.le_of_ble_eq_true rfl)
          refine Does.mono (d_append (V := (vInt .u8)) (k := 1) (e := 5) (bytes := 1) (z := (.int .u8 (0 : Int))) (news := [ep.2.1]) (base := w.heap.size) (by intros; rfl) (by intro x u hu; simp only [vInt, List.mem_singleton] at hu; subst hu; rfl) (congrArg some h0) (congrArg some h3) Try.underlying47 (by kernel_rfl) rfl rfl rfl (hCr hi) (Row.rd (by intros; rfl) hrB) rfl (fun h => by cases h) (by first | omega | (simp only [List.length_cons, List.length_nil, List.length_append, nums_len]; omega)) (by have := hb.size; omega)) ?_
          rintro v' wz ⟨hY, hgY⟩
          obtain ⟨ra, rc, rfl, _, _⟩ := Row.slice hY
          obtain ⟨br, rfl, hbr, _⟩ := Row.some hY (by first | omega | (simp only [Sl.list_length, List.length_set, List.length_take, List.length_append, List.length_replicate, List.length_cons, List.length_nil, List.length_map, nums_len]; omega))
          refine ⟨⟨⟨grown_trans hC hgY, fun hn => absurd (.inl rfl) hn⟩, fun j hj => ?_, hgY.size⟩, ⟨br, ⟨rc, rfl⟩, hbr, hY⟩, nofr rfl⟩
          match j with
          | 0 =>
            exact hS.post 0 hj
          | 1 =>
            exact hS.post 1 hj
          | 2 =>
            exact hS.post 2 hj
          | 3 =>
            exact ⟨b2, h3, hle4, fun hn => absurd (.inl rfl) hn⟩
          | 4 =>
            exact absurd hj hi
          | 5 =>
            exact hS.post 5 hj
          | 6 =>
            exact hS.post 6 hj
          | 7 =>
            exact hS.post 7 hj
          | _ + 8 => trivial
        refine ⟨fun S wu5 hC hS hd hi => ?_, ?_⟩
        · skip
          replace hC := show w3.grownBy wu5 (some mb2) ∧ (¬ S 4 → Row 1 (vInt .u8) 5 (w.heap.size) wu5 (.slice (some ⟨mb2, 0, none⟩) (((uL ep.1.size) ++ (nums ep.1)).length) mc2) ((uL ep.1.size) ++ (nums ep.1))) from hC
          refine uv_plain (C := (fun S wq => w3.grownBy wq (some mb2) ∧ (¬ S 4 → Row 1 (vInt .u8) 5 (w.heap.size) wq (.slice (some ⟨mb2, 0, none⟩) (((uL ep.1.size) ++ (nums ep.1)).length) mc2) ((uL ep.1.size) ++ (nums ep.1))))) (hKP 5 S wu5 (by decide)) (fun _ h1 h2 => ⟨grown_trans h1.1 (below_grown h2), fun hn => Row.ext (h1.2 (fun hs => hn (.inr hs))) h2⟩) hC hS ?_
          obtain ⟨hC, hCr⟩ := hC
          replace hb := hb.trans (grown_below hC hb.size hbO)
          replace hk1 := blk_grown hk1 hC hnob1
          exact Runs.does (r_fa rfl Try.underlying26 (f := 2) (q := 2) rfl (by kernel_rfl) rfl) ⟨Below.refl _ _, rfl, nofr rfl⟩
        refine ⟨fun S wu6 hC hS hd hi => ?_, ?_⟩
        · skip
          replace hC := show w3.grownBy wu6 (some mb2) ∧ (¬ S 4 → Row 1 (vInt .u8) 5 (w.heap.size) wu6 (.slice (some ⟨mb2, 0, none⟩) (((uL ep.1.size) ++ (nums ep.1)).length) mc2) ((uL ep.1.size) ++ (nums ep.1))) from hC
          refine uv_plain (C := (fun S wq => w3.grownBy wq (some mb2) ∧ (¬ S 4 → Row 1 (vInt .u8) 5 (w.heap.size) wq (.slice (some ⟨mb2, 0, none⟩) (((uL ep.1.size) ++ (nums ep.1)).length) mc2) ((uL ep.1.size) ++ (nums ep.1))))) (hKP 6 S wu6 (by decide)) (fun _ h1 h2 => ⟨grown_trans h1.1 (below_grown h2), fun hn => Row.ext (h1.2 (fun hs => hn (.inr hs))) h2⟩) hC hS ?_
          obtain ⟨hC, hCr⟩ := hC
          have h5 := hS.post 5 (hd 5 (by decide))
          replace h5 : V 5 = (.pointer (some ⟨b1, 2, none⟩)) := h5
          replace hb := hb.trans (grown_below hC hb.size hbO)
          replace hk1 := blk_grown hk1 hC hnob1
          exact Runs.does (r_load (v := (.int .u32 ep.2.2.1)) (congrArg some h5) Try.underlying24 rfl (cell_blk hk1 rfl)) ⟨Below.refl _ _, rfl, nofr rfl⟩
        refine ⟨fun S wu7 hC hS hd hi => ?_, ?_⟩
        · skip
          replace hC := show w3.grownBy wu7 (some mb2) ∧ (¬ S 4 → Row 1 (vInt .u8) 5 (w.heap.size) wu7 (.slice (some ⟨mb2, 0, none⟩) (((uL ep.1.size) ++ (nums ep.1)).length) mc2) ((uL ep.1.size) ++ (nums ep.1))) from hC
          refine uv_plain (C := (fun S wq => w3.grownBy wq (some mb2) ∧ (¬ S 4 → Row 1 (vInt .u8) 5 (w.heap.size) wq (.slice (some ⟨mb2, 0, none⟩) (((uL ep.1.size) ++ (nums ep.1)).length) mc2) ((uL ep.1.size) ++ (nums ep.1))))) (hKP 7 S wu7 (by decide)) (fun _ h1 h2 => ⟨grown_trans h1.1 (below_grown h2), fun hn => Row.ext (h1.2 (fun hs => hn (.inr hs))) h2⟩) hC hS ?_
          obtain ⟨hC, hCr⟩ := hC
          have h6 := hS.post 6 (hd 6 (by decide))
          replace h6 : V 6 = (.int .u32 ep.2.2.1) := h6
          replace hb := hb.trans (grown_below hC hb.size hbO)
          replace hk1 := blk_grown hk1 hC hnob1
          exact Runs.does (r_conv (C := ep.2.2.1) (congrArg some h6) Try.underlying24 Try.underlying55 (by rw [IntKind.wrap_u64]; omega)) ⟨Below.refl _ _, rfl, nofr rfl⟩
        trivial
      · skip
        clear hf fa; intro V S w4 fa hall he4 hp hnb hf
        have hv0 := postsHold_at hp 0 rfl
        replace hv0 : V 0 = (.slice (some ⟨mb2, 0, none⟩) (((uL ep.1.size) ++ (nums ep.1)).length) mc2) := hv0
        have hv1 := postsHold_at hp 1 rfl
        replace hv1 : V 1 = (.pointer (some ⟨b1, 1, none⟩)) := hv1
        have hv2 := postsHold_at hp 2 rfl
        replace hv2 : V 2 = (.int .u8 ep.2.1) := hv2
        have hv3 := postsHold_at hp 3 rfl
        obtain ⟨b2, hv3, hle4, hk2⟩ := hv3
        clear hk2
        have hBb2 : w.heap.size ≤ b2 := Nat.le_trans hb.size hle4
        have hv4 := postsHold_at hp 4 rfl
        obtain ⟨mb3, ⟨mc3, hv4⟩, hle5, hr3⟩ := hv4
        rw [hv4] at hr3
        have hcmc3 := Row.caps hr3
        have hBmb3 : w.heap.size ≤ mb3 := hle5
        have hv5 := postsHold_at hp 5 rfl
        replace hv5 : V 5 = (.pointer (some ⟨b1, 2, none⟩)) := hv5
        have hv6 := postsHold_at hp 6 rfl
        replace hv6 : V 6 = (.int .u32 ep.2.2.1) := hv6
        have hv7 := postsHold_at hp 7 rfl
        replace hv7 : V 7 = (.int .u64 ep.2.2.1) := hv7
        simp only [List.take_succ_cons, List.take_zero, insAll, ins, hv0, hv1, hv2, hv3, hv4, hv5, hv6, hv7] at hf
        have : b1 < b2 := Nat.lt_of_lt_of_le (blk_lt hk1) hle4
        clear hp hnb hall hv0 hv1 hv2 hv3 hv4 hv5 hv6 hv7
        obtain ⟨he4, _⟩ := he4
        replace hk1 := blk_grown hk1 he4 hnob1
        clear hr2
        replace hb := hb.trans (grown_below he4 hb.size hbO)
        simp only [List.drop_succ_cons, List.drop_zero]
        refine sqdt hf (d_callX (vs := [(.int .u64 ep.2.2.1)]) rfl Try.func110 (by kernel_rfl) (by kernel_rfl) (uint_rowI ep.2.2.1 (by omega) (by omega) _)) rfl rfl rfl ?_; clear hf fa; rintro fa v w5 ⟨hr4, he5⟩ hf; obtain ⟨ra1, rc1, rfl, hcrc1, hmrc1⟩ := Row.slice hr4
        replace hr4 := Row.rebase hr4 hb.size
        replace hk1 := blk_ext hk1 he5
        replace hr3 := Row.ext hr3 he5
        replace hb := hb.trans (Below.mono he5 hb.size)
        refine sqdt hf (d_append (V := (vInt .u8)) (k := 1) (e := 5) (bytes := 1) (z := (.int .u8 (0 : Int))) (news := (uL ep.2.2.1.toNat)) (base := w.heap.size) (by intros; rfl) (by intro x u hu; simp only [vInt, List.mem_singleton] at hu; subst hu; rfl) rfl rfl Try.underlying47 (by kernel_rfl) rfl rfl rfl hr3 (Row.rd (by intros; rfl) hr4) rfl (fun h => Row.nocap hr4 h) (by first | omega | (simp only [List.length_cons, List.length_nil, List.length_append, nums_len]; omega)) (by have := hb.size; omega)) rfl rfl rfl ?_; clear hf fa; rintro fa v w6 ⟨hr5, hg1⟩ hf; obtain ⟨ra2, rc2, rfl, hcrc2, hmrc2⟩ := Row.slice hr5
        replace hk1 := blk_row' hk1 hg1 (Row.ne_type hr3 hk1 rfl)
        replace hb := hb.trans (row_below hr3 hg1 hb.size (by have := hb.size; omega))
        refine sqv hf (r_assign rfl) rfl rfl rfl ?_; clear hf fa; intro fa hf
        refine sqv hf (r_assign rfl) rfl rfl rfl ?_; clear hf fa; intro fa hf
        apply wpList_nil
        (try simp only [Exit.then, Exit.inBlock, ↓reduceIte, Nat.reduceEqDiff])
        refine hK7 _ _ ?_
        refine wp_ret ?_
        (try simp only [Exit.then, Exit.inBlock])
        refine ret2 hf rfl rfl rfl ?_
        refine ⟨_, (by rw [hz]), ?_, hb⟩
        rw [eputL, if_pos hz]; exact hr5
end Go.Proofs.Ytcmdajkkdognfaa
