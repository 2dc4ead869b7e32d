/- What is proved here: the law TypesLimits is true. -/
import Derived.Test.YtcmdajkkdognfaaTyL
import Derived.Test.YtcmdajkkdognfaaTyK
namespace Go.Proofs.Ytcmdajkkdognfaa
open Go.RowKit
set_option linter.unusedVariables false
set_option linter.unusedSimpArgs false
theorem limits_eq (l : MLim) (most : Int) : decide (limitsP l most = 0) = rlimitsP l most := by
  unfold limitsP rlimitsP
  cases h : l.2.2.1 <;> simp [h] <;> grind
theorem limits_two (l : MLim) (most : Int) : limitsP l most = 0 ∨ limitsP l most = 26 := by
  unfold limitsP
  cases (((decide (most < l.1)) || (l.2.2.1 && ((decide (l.2.1 < l.1)) || (decide (most < l.2.1))))) || ((!l.2.2.1) && (decide (l.2.1 ≠ (0 : Int)))))
  · exact Or.inl rfl
  · exact Or.inr rfl
theorem fits_refl (l : MLim) : fitsP l l = true := by
  unfold fitsP
  cases l.2.2.1 <;> simp
theorem fits_self (l : MLim) (w : World) : Calls Try.prog 31 #[(.agg #[(.int .u32 l.1), (.int .u32 l.2.1), (.bool l.2.2.1)]), (.agg #[(.int .u32 l.1), (.int .u32 l.2.1), (.bool l.2.2.1)])] w fun e w' => e = .returned (.bool true) ∧ Below w.heap.size w w' := by
  have h := fits_any l l w
  rwa [fits_refl] at h
theorem fits_trans {l m n : MLim} (h1 : fitsP l m = true) (h2 : fitsP m n = true) : fitsP l n = true := by
  unfold fitsP at *
  cases a : l.2.2.1 <;> cases b : m.2.2.1 <;> cases c : n.2.2.1 <;> simp_all <;> omega
theorem fits_law (l m n : MLim) : ((!(fitsP l m)) || ((!(fitsP m n)) || (fitsP l n))) = true := by
  cases a : fitsP l m
  · rfl
  · cases b : fitsP m n
    · rfl
    · rw [fits_trans a b]; rfl

set_option maxHeartbeats 1000000 in
set_option maxRecDepth 100000 in
theorem typesLimits_any (l m n : MLim) (most : Int) (w : World) (hl1 : 0 ≤ l.1 ∧ l.1 < 4294967296) (hl2 : 0 ≤ l.2.1 ∧ l.2.1 < 4294967296) (hm : 0 ≤ most ∧ most < 4294967296) : Calls Try.prog 5 #[(.agg #[(.int .u32 l.1), (.int .u32 l.2.1), (.bool l.2.2.1), (.int .u32 m.1), (.int .u32 m.2.1), (.bool m.2.2.1), (.int .u32 n.1), (.int .u32 n.2.1), (.bool n.2.2.1)]), (.int .u32 most)] w fun e w' => e = .returned (.bool true) ∧ Below w.heap.size w w' := by
  refine sx_enter (L := [(0, (.agg #[(.int .u32 l.1), (.int .u32 l.2.1), (.bool l.2.2.1), (.int .u32 m.1), (.int .u32 m.2.1), (.bool m.2.2.1), (.int .u32 n.1), (.int .u32 n.2.1), (.bool n.2.2.1)])), (1, (.int .u32 most))]) Try.func5 rfl rfl rfl rfl (fun fa hf => ?_)
  have hb : Below w.heap.size w w := Below.refl _ _
  refine wp_seq_k (fun K1 hK1 => ?_)
  refine wp_region_lit ?_
  refine sqdt hf (d_box (cs := #[(.int .u32 l.1), (.int .u32 l.2.1), (.bool l.2.2.1), (.int .u32 m.1), (.int .u32 m.2.1), (.bool m.2.2.1), (.int .u32 n.1), (.int .u32 n.2.1), (.bool n.2.2.1)]) rfl rfl) rfl rfl rfl ?_; clear hf fa; rintro fa _ w1 ⟨b1, rfl, hle1, hk1, he1⟩ hf
  have hBb1 : w.heap.size ≤ b1 := Nat.le_trans hb.size hle1
  replace hb := hb.trans (Below.mono he1 hb.size)
  refine sqv hf (r_assign rfl) rfl rfl rfl ?_; clear hf fa; intro fa hf
  apply wpList_nil
  (try simp only [Exit.then, Exit.inBlock, ↓reduceIte, Nat.reduceEqDiff])
  refine hK1 _ _ ?_
  refine wp_seq_k (fun K2 hK2 => ?_)
  refine wp_seq_k (fun K3 hK3 => ?_)
  refine wp_region_lit ?_
  refine sqdt hf (d_callB (vs := []) rfl Try.func26 (by kernel_rfl) (by kernel_rfl) (awake04_any _)) rfl rfl rfl ?_; clear hf fa; rintro fa _ w2 ⟨rfl, he2⟩ hf
  replace hk1 := blk_ext hk1 he2
  replace hb := hb.trans (Below.mono he2 hb.size)
  refine sqv hf (Runs.veq (v' := (.bool false)) (r_not rfl) rfl) rfl rfl rfl ?_; clear hf fa; intro fa hf
  apply wpList_nil
  (try simp only [Exit.then, Exit.inBlock, ↓reduceIte, Nat.reduceEqDiff])
  refine hK3 _ _ ?_
  refine wp_cond_false (hf.ev rfl) ?_
  refine wp_skip ?_
  (try simp only [Exit.then, Exit.inBlock, ↓reduceIte, Nat.reduceEqDiff])
  refine hK2 _ _ ?_
  refine wp_seq_k (fun K4 hK4 => ?_)
  refine wp_region_vn (fun _ wq => Below w2.heap.size w2 wq)
    (fun V S => [(fun x _ => x = (.pointer (some ⟨b1, 0, none⟩))), (fun x _ => x = (.agg #[(.int .u32 l.1), (.int .u32 l.2.1), (.bool l.2.2.1)])), (fun x _ => x = (.pointer (some ⟨b1, 3, none⟩))), (fun x _ => x = (.agg #[(.int .u32 m.1), (.int .u32 m.2.1), (.bool m.2.2.1)])), (fun x _ => x = (.pointer (some ⟨b1, 6, none⟩))), (fun x _ => x = (.agg #[(.int .u32 n.1), (.int .u32 n.2.1), (.bool n.2.2.1)])), (fun x wq => ∃ b, x = .pointer (some ⟨b, 0, none⟩) ∧ w2.heap.size ≤ b ∧ (¬ S 9 → wq.heap[b]? = some (.cells #[(.int .u32 (0 : Int)), (.int .u32 (0 : Int)), (.bool false)] 43 (0, 0))) ∧ (S 9 → wq.heap[b]? = some (.cells #[(.int .u32 l.1), (.int .u32 l.2.1), (.bool l.2.2.1)] 43 (0, 0)))), (fun x wq => ∃ b, x = .pointer (some ⟨b, 0, none⟩) ∧ w2.heap.size ≤ b ∧ (¬ S 10 → wq.heap[b]? = some (.cells #[(.int .u32 (0 : Int)), (.int .u32 (0 : Int)), (.bool false)] 43 (0, 0))) ∧ (S 10 → wq.heap[b]? = some (.cells #[(.int .u32 m.1), (.int .u32 m.2.1), (.bool m.2.2.1)] 43 (0, 0)))), (fun x wq => ∃ b, x = .pointer (some ⟨b, 0, none⟩) ∧ w2.heap.size ≤ b ∧ (¬ S 11 → wq.heap[b]? = some (.cells #[(.int .u32 (0 : Int)), (.int .u32 (0 : Int)), (.bool false)] 43 (0, 0))) ∧ (S 11 → wq.heap[b]? = some (.cells #[(.int .u32 n.1), (.int .u32 n.2.1), (.bool n.2.2.1)] 43 (0, 0)))), (fun _ _ => True), (fun _ _ => True), (fun _ _ => True)])
    [6, 7, 8]
    [[], [0], [], [2], [], [4], [], [], [], [0, 1, 6, 7, 8], [0, 1, 2, 3, 6, 7, 8, 9], [0, 1, 2, 3, 4, 5, 6, 7, 8, 9, 10]]
    hf (by kernel_rfl) (by kernel_rfl) (fun _ _ => rfl) (fun _ _ => (Below.refl _ _).drew) (fun _ _ _ _ _ _ => rfl) ?_ ?_
  · skip
    intro V
    have hKP : ∀ (i : Nat) (S : Nat → Prop) (w : World), (∀ q ∈ ([9, 10, 11] : List Nat), q ≠ i) → ∀ j v w', (((fun (S : Nat → Prop) => ([(fun x _ => x = (.pointer (some ⟨b1, 0, none⟩))), (fun x _ => x = (.agg #[(.int .u32 l.1), (.int .u32 l.2.1), (.bool l.2.2.1)])), (fun x _ => x = (.pointer (some ⟨b1, 3, none⟩))), (fun x _ => x = (.agg #[(.int .u32 m.1), (.int .u32 m.2.1), (.bool m.2.2.1)])), (fun x _ => x = (.pointer (some ⟨b1, 6, none⟩))), (fun x _ => x = (.agg #[(.int .u32 n.1), (.int .u32 n.2.1), (.bool n.2.2.1)])), (fun x wq => ∃ b, x = .pointer (some ⟨b, 0, none⟩) ∧ w2.heap.size ≤ b ∧ (¬ S 9 → wq.heap[b]? = some (.cells #[(.int .u32 (0 : Int)), (.int .u32 (0 : Int)), (.bool false)] 43 (0, 0))) ∧ (S 9 → wq.heap[b]? = some (.cells #[(.int .u32 l.1), (.int .u32 l.2.1), (.bool l.2.2.1)] 43 (0, 0)))), (fun x wq => ∃ b, x = .pointer (some ⟨b, 0, none⟩) ∧ w2.heap.size ≤ b ∧ (¬ S 10 → wq.heap[b]? = some (.cells #[(.int .u32 (0 : Int)), (.int .u32 (0 : Int)), (.bool false)] 43 (0, 0))) ∧ (S 10 → wq.heap[b]? = some (.cells #[(.int .u32 m.1), (.int .u32 m.2.1), (.bool m.2.2.1)] 43 (0, 0)))), (fun x wq => ∃ b, x = .pointer (some ⟨b, 0, none⟩) ∧ w2.heap.size ≤ b ∧ (¬ S 11 → wq.heap[b]? = some (.cells #[(.int .u32 (0 : Int)), (.int .u32 (0 : Int)), (.bool false)] 43 (0, 0))) ∧ (S 11 → wq.heap[b]? = some (.cells #[(.int .u32 n.1), (.int .u32 n.2.1), (.bool n.2.2.1)] 43 (0, 0)))), (fun _ _ => True), (fun _ _ => True), (fun _ _ => True)] : List (Value → World → Prop))) S).getD j (fun _ _ => True)) v w → Below w.heap.size w w' → (((fun (S : Nat → Prop) => ([(fun x _ => x = (.pointer (some ⟨b1, 0, none⟩))), (fun x _ => x = (.agg #[(.int .u32 l.1), (.int .u32 l.2.1), (.bool l.2.2.1)])), (fun x _ => x = (.pointer (some ⟨b1, 3, none⟩))), (fun x _ => x = (.agg #[(.int .u32 m.1), (.int .u32 m.2.1), (.bool m.2.2.1)])), (fun x _ => x = (.pointer (some ⟨b1, 6, none⟩))), (fun x _ => x = (.agg #[(.int .u32 n.1), (.int .u32 n.2.1), (.bool n.2.2.1)])), (fun x wq => ∃ b, x = .pointer (some ⟨b, 0, none⟩) ∧ w2.heap.size ≤ b ∧ (¬ S 9 → wq.heap[b]? = some (.cells #[(.int .u32 (0 : Int)), (.int .u32 (0 : Int)), (.bool false)] 43 (0, 0))) ∧ (S 9 → wq.heap[b]? = some (.cells #[(.int .u32 l.1), (.int .u32 l.2.1), (.bool l.2.2.1)] 43 (0, 0)))), (fun x wq => ∃ b, x = .pointer (some ⟨b, 0, none⟩) ∧ w2.heap.size ≤ b ∧ (¬ S 10 → wq.heap[b]? = some (.cells #[(.int .u32 (0 : Int)), (.int .u32 (0 : Int)), (.bool false)] 43 (0, 0))) ∧ (S 10 → wq.heap[b]? = some (.cells #[(.int .u32 m.1), (.int .u32 m.2.1), (.bool m.2.2.1)] 43 (0, 0)))), (fun x wq => ∃ b, x = .pointer (some ⟨b, 0, none⟩) ∧ w2.heap.size ≤ b ∧ (¬ S 11 → wq.heap[b]? = some (.cells #[(.int .u32 (0 : Int)), (.int .u32 (0 : Int)), (.bool false)] 43 (0, 0))) ∧ (S 11 → wq.heap[b]? = some (.cells #[(.int .u32 n.1), (.int .u32 n.2.1), (.bool n.2.2.1)] 43 (0, 0)))), (fun _ _ => True), (fun _ _ => True), (fun _ _ => True)] : List (Value → World → Prop))) (ad i S)).getD j (fun _ _ => True)) v w' := by
      intro i S w hi j v w' h hB
      match j with
      | 0 =>
        exact h
      | 1 =>
        exact h
      | 2 =>
        exact h
      | 3 =>
        exact h
      | 4 =>
        exact h
      | 5 =>
        exact h
      | 6 =>
        obtain ⟨b, e1, e2, e3, e4⟩ := h
        exact ⟨b, e1, e2, fun hn => blk_ext (e3 (fun hs => hn (.inr hs))) hB, fun hs => by rcases hs with e | hs; exact absurd e (hi 9 (by decide)); exact blk_ext (e4 hs) hB⟩
      | 7 =>
        obtain ⟨b, e1, e2, e3, e4⟩ := h
        exact ⟨b, e1, e2, fun hn => blk_ext (e3 (fun hs => hn (.inr hs))) hB, fun hs => by rcases hs with e | hs; exact absurd e (hi 10 (by decide)); exact blk_ext (e4 hs) hB⟩
      | 8 =>
        obtain ⟨b, e1, e2, e3, e4⟩ := h
        exact ⟨b, e1, e2, fun hn => blk_ext (e3 (fun hs => hn (.inr hs))) hB, fun hs => by rcases hs with e | hs; exact absurd e (hi 11 (by decide)); exact blk_ext (e4 hs) hB⟩
      | 9 =>
        exact h
      | 10 =>
        exact h
      | 11 =>
        exact h
      | _ + 12 => trivial
    refine ⟨fun S wu0 hC hS hd hi => ?_, ?_⟩
    · skip
      replace hC : Below w2.heap.size w2 wu0 := hC
      refine uv_plain (C := fun _ wq => Below w2.heap.size w2 wq) (hKP 0 S wu0 (by decide)) (fun _ h1 h2 => Below.trans h1 (Below.mono h2 (Below.size h1))) hC hS ?_
      replace hb := hb.trans (hC.mono hb.size)
      replace hk1 := blk_ext hk1 hC
      exact Runs.does (r_ixp (sz := 3) (j := 0) (nn := 3) (q := 0) rfl rfl Try.underlying44 (by kernel_rfl) rfl (by decide) rfl) ⟨Below.refl _ _, rfl, nofr rfl⟩
    refine ⟨fun S wu1 hC hS hd hi => ?_, ?_⟩
    · skip
      replace hC : Below w2.heap.size w2 wu1 := hC
      refine uv_plain (C := fun _ wq => Below w2.heap.size w2 wq) (hKP 1 S wu1 (by decide)) (fun _ h1 h2 => Below.trans h1 (Below.mono h2 (Below.size h1))) hC hS ?_
      have h0 := hS.post 0 (hd 0 (by decide))
      replace h0 : V 0 = (.pointer (some ⟨b1, 0, none⟩)) := h0
      replace hb := hb.trans (hC.mono hb.size)
      replace hk1 := blk_ext hk1 hC
      exact Runs.does (r_loadA (cs := [(.int .u32 l.1), (.int .u32 l.2.1), (.bool l.2.2.1)]) (congrArg some h0) Try.underlying43 rfl (by kernel_rfl) (cellsAt_part (d := 0) (n := 3) (cellsAt_blk hk1) rfl rfl)) ⟨Below.refl _ _, rfl, nofr rfl⟩
    refine ⟨fun S wu2 hC hS hd hi => ?_, ?_⟩
    · skip
      replace hC : Below w2.heap.size w2 wu2 := hC
      refine uv_plain (C := fun _ wq => Below w2.heap.size w2 wq) (hKP 2 S wu2 (by decide)) (fun _ h1 h2 => Below.trans h1 (Below.mono h2 (Below.size h1))) hC hS ?_
      replace hb := hb.trans (hC.mono hb.size)
      replace hk1 := blk_ext hk1 hC
      exact Runs.does (r_ixp (sz := 3) (j := 1) (nn := 3) (q := 3) rfl rfl Try.underlying44 (by kernel_rfl) rfl (by decide) rfl) ⟨Below.refl _ _, rfl, nofr rfl⟩
    refine ⟨fun S wu3 hC hS hd hi => ?_, ?_⟩
    · skip
      replace hC : Below w2.heap.size w2 wu3 := hC
      refine uv_plain (C := fun _ wq => Below w2.heap.size w2 wq) (hKP 3 S wu3 (by decide)) (fun _ h1 h2 => Below.trans h1 (Below.mono h2 (Below.size h1))) hC hS ?_
      have h2 := hS.post 2 (hd 2 (by decide))
      replace h2 : V 2 = (.pointer (some ⟨b1, 3, none⟩)) := h2
      replace hb := hb.trans (hC.mono hb.size)
      replace hk1 := blk_ext hk1 hC
      exact Runs.does (r_loadA (cs := [(.int .u32 m.1), (.int .u32 m.2.1), (.bool m.2.2.1)]) (congrArg some h2) Try.underlying43 rfl (by kernel_rfl) (cellsAt_part (d := 3) (n := 3) (cellsAt_blk hk1) rfl rfl)) ⟨Below.refl _ _, rfl, nofr rfl⟩
    refine ⟨fun S wu4 hC hS hd hi => ?_, ?_⟩
    · skip
      replace hC : Below w2.heap.size w2 wu4 := hC
      refine uv_plain (C := fun _ wq => Below w2.heap.size w2 wq) (hKP 4 S wu4 (by decide)) (fun _ h1 h2 => Below.trans h1 (Below.mono h2 (Below.size h1))) hC hS ?_
      replace hb := hb.trans (hC.mono hb.size)
      replace hk1 := blk_ext hk1 hC
      exact Runs.does (r_ixp (sz := 3) (j := 2) (nn := 3) (q := 6) rfl rfl Try.underlying44 (by kernel_rfl) rfl (by decide) rfl) ⟨Below.refl _ _, rfl, nofr rfl⟩
    refine ⟨fun S wu5 hC hS hd hi => ?_, ?_⟩
    · skip
      replace hC : Below w2.heap.size w2 wu5 := hC
      refine uv_plain (C := fun _ wq => Below w2.heap.size w2 wq) (hKP 5 S wu5 (by decide)) (fun _ h1 h2 => Below.trans h1 (Below.mono h2 (Below.size h1))) hC hS ?_
      have h4 := hS.post 4 (hd 4 (by decide))
      replace h4 : V 4 = (.pointer (some ⟨b1, 6, none⟩)) := h4
      replace hb := hb.trans (hC.mono hb.size)
      replace hk1 := blk_ext hk1 hC
      exact Runs.does (r_loadA (cs := [(.int .u32 n.1), (.int .u32 n.2.1), (.bool n.2.2.1)]) (congrArg some h4) Try.underlying43 rfl (by kernel_rfl) (cellsAt_part (d := 6) (n := 3) (cellsAt_blk hk1) rfl rfl)) ⟨Below.refl _ _, rfl, nofr rfl⟩
    refine ⟨fun S wu6 hC hS hd hi => ?_, ?_⟩
    · skip
      replace hC : Below w2.heap.size w2 wu6 := hC
      refine uv_plain (C := fun _ wq => Below w2.heap.size w2 wq) (hKP 6 S wu6 (by decide)) (fun _ h1 h2 => Below.trans h1 (Below.mono h2 (Below.size h1))) hC hS ?_
      replace hb := hb.trans (hC.mono hb.size)
      replace hk1 := blk_ext hk1 hC
      refine Does.mono (d_alloc (z := (.agg #[(.int .u32 (0 : Int)), (.int .u32 (0 : Int)), (.bool false)])) (cs := #[(.int .u32 (0 : Int)), (.int .u32 (0 : Int)), (.bool false)]) (by kernel_rfl) rfl) ?_
      rintro _ w' ⟨b, rfl, hF⟩
      exact ⟨hF.2.2, ⟨b, rfl, Nat.le_trans hC.size hF.1, fun _ => hF.2.1, fun hs => by rcases hs with e | hs; exact absurd e (by decide); exact absurd (hS.down 9 hs 6 (by decide)) hi⟩, isfr rfl hF.1 (blk_lt hF.2.1)⟩
    refine ⟨fun S wu7 hC hS hd hi => ?_, ?_⟩
    · skip
      replace hC : Below w2.heap.size w2 wu7 := hC
      refine uv_plain (C := fun _ wq => Below w2.heap.size w2 wq) (hKP 7 S wu7 (by decide)) (fun _ h1 h2 => Below.trans h1 (Below.mono h2 (Below.size h1))) hC hS ?_
      replace hb := hb.trans (hC.mono hb.size)
      replace hk1 := blk_ext hk1 hC
      refine Does.mono (d_alloc (z := (.agg #[(.int .u32 (0 : Int)), (.int .u32 (0 : Int)), (.bool false)])) (cs := #[(.int .u32 (0 : Int)), (.int .u32 (0 : Int)), (.bool false)]) (by kernel_rfl) rfl) ?_
      rintro _ w' ⟨b, rfl, hF⟩
      exact ⟨hF.2.2, ⟨b, rfl, Nat.le_trans hC.size hF.1, fun _ => hF.2.1, fun hs => by rcases hs with e | hs; exact absurd e (by decide); exact absurd (hS.down 10 hs 7 (by decide)) hi⟩, isfr rfl hF.1 (blk_lt hF.2.1)⟩
    refine ⟨fun S wu8 hC hS hd hi => ?_, ?_⟩
    · skip
      replace hC : Below w2.heap.size w2 wu8 := hC
      refine uv_plain (C := fun _ wq => Below w2.heap.size w2 wq) (hKP 8 S wu8 (by decide)) (fun _ h1 h2 => Below.trans h1 (Below.mono h2 (Below.size h1))) hC hS ?_
      replace hb := hb.trans (hC.mono hb.size)
      replace hk1 := blk_ext hk1 hC
      refine Does.mono (d_alloc (z := (.agg #[(.int .u32 (0 : Int)), (.int .u32 (0 : Int)), (.bool false)])) (cs := #[(.int .u32 (0 : Int)), (.int .u32 (0 : Int)), (.bool false)]) (by kernel_rfl) rfl) ?_
      rintro _ w' ⟨b, rfl, hF⟩
      exact ⟨hF.2.2, ⟨b, rfl, Nat.le_trans hC.size hF.1, fun _ => hF.2.1, fun hs => by rcases hs with e | hs; exact absurd e (by decide); exact absurd (hS.down 11 hs 8 (by decide)) hi⟩, isfr rfl hF.1 (blk_lt hF.2.1)⟩
    refine ⟨fun S wu9 hC hS hd hi => ?_, ?_⟩
    · skip
      replace hC : Below w2.heap.size w2 wu9 := hC
      have h0 := hS.post 0 (hd 0 (by decide))
      replace h0 : V 0 = (.pointer (some ⟨b1, 0, none⟩)) := h0
      have h1 := hS.post 1 (hd 1 (by decide))
      replace h1 : V 1 = (.agg #[(.int .u32 l.1), (.int .u32 l.2.1), (.bool l.2.2.1)]) := h1
      have h6 := hS.post 6 (hd 6 (by decide))
      obtain ⟨b2, h6, hle2, hk2z, hk2⟩ := h6
      replace hk2 := hk2z hi
      have h7 := hS.post 7 (hd 7 (by decide))
      obtain ⟨b3, h7, hle3, hk3z, hk3⟩ := h7
      replace hk3 := hk3z (fun h => hi (hS.down 10 h 9 (by decide)))
      have h8 := hS.post 8 (hd 8 (by decide))
      obtain ⟨b4, h8, hle4, hk4z, hk4⟩ := h8
      replace hk4 := hk4z (fun h => hi (hS.down 11 h 9 (by decide)))
      replace hb := hb.trans (hC.mono hb.size)
      replace hk1 := blk_ext hk1 hC
      refine Does.mono (R := fun _ wz => Wrote wu9 b2 #[(.int .u32 l.1), (.int .u32 l.2.1), (.bool l.2.2.1)] 43 wz) (d_storeK (T := 43) (v := (.agg #[(.int .u32 l.1), (.int .u32 l.2.1), (.bool l.2.2.1)])) (cs := #[(.int .u32 (0 : Int)), (.int .u32 (0 : Int)), (.bool false)]) (cs' := #[(.int .u32 l.1), (.int .u32 l.2.1), (.bool l.2.2.1)]) (congrArg some h6) (congrArg some h1) (by kernel_rfl) (by kernel_rfl) hk2 (by kernel_rfl) (by kernel_rfl)) ?_
      rintro _ wz ⟨hY, hgY⟩
      refine ⟨⟨hC.trans (grown_below hgY hC.size hle2), fun j hj => ?_, hgY.size⟩, trivial, nofr rfl⟩
      match j with
      | 0 =>
        exact hS.post 0 hj
      | 1 =>
        exact hS.post 1 hj
      | 2 =>
        exact hS.post 2 hj
      | 3 =>
        exact hS.post 3 hj
      | 4 =>
        exact hS.post 4 hj
      | 5 =>
        exact hS.post 5 hj
      | 6 =>
        exact ⟨b2, h6, hle2, fun hn => absurd (.inl rfl) hn, fun _ => hY⟩
      | 7 =>
        obtain ⟨c, e1, e2, e3, e4⟩ := hS.post 7 hj
        have hne : c ≠ b2 := fun e => hS.ne 7 6 rfl rfl (by decide) hj (hd 6 (by decide)) (by rw [e1, h6, e] <;> rfl)
        exact ⟨c, e1, e2, fun hn => blk_grown (e3 (fun hs => hn (.inr hs))) hgY hne, fun hs => by rcases hs with e | hs; exact absurd e (by decide); exact blk_grown (e4 hs) hgY hne⟩
      | 8 =>
        obtain ⟨c, e1, e2, e3, e4⟩ := hS.post 8 hj
        have hne : c ≠ b2 := fun e => hS.ne 8 6 rfl rfl (by decide) hj (hd 6 (by decide)) (by rw [e1, h6, e] <;> rfl)
        exact ⟨c, e1, e2, fun hn => blk_grown (e3 (fun hs => hn (.inr hs))) hgY hne, fun hs => by rcases hs with e | hs; exact absurd e (by decide); exact blk_grown (e4 hs) hgY hne⟩
      | 9 =>
        trivial
      | 10 =>
        trivial
      | 11 =>
        trivial
      | _ + 12 => trivial
    refine ⟨fun S wu10 hC hS hd hi => ?_, ?_⟩
    · skip
      replace hC : Below w2.heap.size w2 wu10 := hC
      have h0 := hS.post 0 (hd 0 (by decide))
      replace h0 : V 0 = (.pointer (some ⟨b1, 0, none⟩)) := h0
      have h1 := hS.post 1 (hd 1 (by decide))
      replace h1 : V 1 = (.agg #[(.int .u32 l.1), (.int .u32 l.2.1), (.bool l.2.2.1)]) := h1
      have h2 := hS.post 2 (hd 2 (by decide))
      replace h2 : V 2 = (.pointer (some ⟨b1, 3, none⟩)) := h2
      have h3 := hS.post 3 (hd 3 (by decide))
      replace h3 : V 3 = (.agg #[(.int .u32 m.1), (.int .u32 m.2.1), (.bool m.2.2.1)]) := h3
      have h6 := hS.post 6 (hd 6 (by decide))
      obtain ⟨b2, h6, hle2, hk2z, hk2⟩ := h6
      replace hk2 := hk2 (hd 9 (by decide))
      have h7 := hS.post 7 (hd 7 (by decide))
      obtain ⟨b3, h7, hle3, hk3z, hk3⟩ := h7
      replace hk3 := hk3z hi
      have h8 := hS.post 8 (hd 8 (by decide))
      obtain ⟨b4, h8, hle4, hk4z, hk4⟩ := h8
      replace hk4 := hk4z (fun h => hi (hS.down 11 h 10 (by decide)))
      have h9 := hS.post 9 (hd 9 (by decide))
      replace hb := hb.trans (hC.mono hb.size)
      replace hk1 := blk_ext hk1 hC
      refine Does.mono (R := fun _ wz => Wrote wu10 b3 #[(.int .u32 m.1), (.int .u32 m.2.1), (.bool m.2.2.1)] 43 wz) (d_storeK (T := 43) (v := (.agg #[(.int .u32 m.1), (.int .u32 m.2.1), (.bool m.2.2.1)])) (cs := #[(.int .u32 (0 : Int)), (.int .u32 (0 : Int)), (.bool false)]) (cs' := #[(.int .u32 m.1), (.int .u32 m.2.1), (.bool m.2.2.1)]) (congrArg some h7) (congrArg some h3) (by kernel_rfl) (by kernel_rfl) hk3 (by kernel_rfl) (by kernel_rfl)) ?_
      rintro _ wz ⟨hY, hgY⟩
      refine ⟨⟨hC.trans (grown_below hgY hC.size hle3), fun j hj => ?_, hgY.size⟩, trivial, nofr rfl⟩
      match j with
      | 0 =>
        exact hS.post 0 hj
      | 1 =>
        exact hS.post 1 hj
      | 2 =>
        exact hS.post 2 hj
      | 3 =>
        exact hS.post 3 hj
      | 4 =>
        exact hS.post 4 hj
      | 5 =>
        exact hS.post 5 hj
      | 6 =>
        obtain ⟨c, e1, e2, e3, e4⟩ := hS.post 6 hj
        have hne : c ≠ b3 := fun e => hS.ne 6 7 rfl rfl (by decide) hj (hd 7 (by decide)) (by rw [e1, h7, e] <;> rfl)
        exact ⟨c, e1, e2, fun hn => blk_grown (e3 (fun hs => hn (.inr hs))) hgY hne, fun hs => by rcases hs with e | hs; exact absurd e (by decide); exact blk_grown (e4 hs) hgY hne⟩
      | 7 =>
        exact ⟨b3, h7, hle3, fun hn => absurd (.inl rfl) hn, fun _ => hY⟩
      | 8 =>
        obtain ⟨c, e1, e2, e3, e4⟩ := hS.post 8 hj
        have hne : c ≠ b3 := fun e => hS.ne 8 7 rfl rfl (by decide) hj (hd 7 (by decide)) (by rw [e1, h7, e] <;> rfl)
        exact ⟨c, e1, e2, fun hn => blk_grown (e3 (fun hs => hn (.inr hs))) hgY hne, fun hs => by rcases hs with e | hs; exact absurd e (by decide); exact blk_grown (e4 hs) hgY hne⟩
      | 9 =>
        trivial
      | 10 =>
        trivial
      | 11 =>
        trivial
      | _ + 12 => trivial
    refine ⟨fun S wu11 hC hS hd hi => ?_, ?_⟩
    · skip
      replace hC : Below w2.heap.size w2 wu11 := hC
      have h0 := hS.post 0 (hd 0 (by decide))
      replace h0 : V 0 = (.pointer (some ⟨b1, 0, none⟩)) := h0
      have h1 := hS.post 1 (hd 1 (by decide))
      replace h1 : V 1 = (.agg #[(.int .u32 l.1), (.int .u32 l.2.1), (.bool l.2.2.1)]) := h1
      have h2 := hS.post 2 (hd 2 (by decide))
      replace h2 : V 2 = (.pointer (some ⟨b1, 3, none⟩)) := h2
      have h3 := hS.post 3 (hd 3 (by decide))
      replace h3 : V 3 = (.agg #[(.int .u32 m.1), (.int .u32 m.2.1), (.bool m.2.2.1)]) := h3
      have h4 := hS.post 4 (hd 4 (by decide))
      replace h4 : V 4 = (.pointer (some ⟨b1, 6, none⟩)) := h4
      have h5 := hS.post 5 (hd 5 (by decide))
      replace h5 : V 5 = (.agg #[(.int .u32 n.1), (.int .u32 n.2.1), (.bool n.2.2.1)]) := h5
      have h6 := hS.post 6 (hd 6 (by decide))
      obtain ⟨b2, h6, hle2, hk2z, hk2⟩ := h6
      replace hk2 := hk2 (hd 9 (by decide))
      have h7 := hS.post 7 (hd 7 (by decide))
      obtain ⟨b3, h7, hle3, hk3z, hk3⟩ := h7
      replace hk3 := hk3 (hd 10 (by decide))
      have h8 := hS.post 8 (hd 8 (by decide))
      obtain ⟨b4, h8, hle4, hk4z, hk4⟩ := h8
      replace hk4 := hk4z hi
      have h9 := hS.post 9 (hd 9 (by decide))
      have h10 := hS.post 10 (hd 10 (by decide))
      replace hb := hb.trans (hC.mono hb.size)
      replace hk1 := blk_ext hk1 hC
      refine Does.mono (R := fun _ wz => Wrote wu11 b4 #[(.int .u32 n.1), (.int .u32 n.2.1), (.bool n.2.2.1)] 43 wz) (d_storeK (T := 43) (v := (.agg #[(.int .u32 n.1), (.int .u32 n.2.1), (.bool n.2.2.1)])) (cs := #[(.int .u32 (0 : Int)), (.int .u32 (0 : Int)), (.bool false)]) (cs' := #[(.int .u32 n.1), (.int .u32 n.2.1), (.bool n.2.2.1)]) (congrArg some h8) (congrArg some h5) (by kernel_rfl) (by kernel_rfl) hk4 (by kernel_rfl) (by kernel_rfl)) ?_
      rintro _ wz ⟨hY, hgY⟩
      refine ⟨⟨hC.trans (grown_below hgY hC.size hle4), fun j hj => ?_, hgY.size⟩, trivial, nofr rfl⟩
      match j with
      | 0 =>
        exact hS.post 0 hj
      | 1 =>
        exact hS.post 1 hj
      | 2 =>
        exact hS.post 2 hj
      | 3 =>
        exact hS.post 3 hj
      | 4 =>
        exact hS.post 4 hj
      | 5 =>
        exact hS.post 5 hj
      | 6 =>
        obtain ⟨c, e1, e2, e3, e4⟩ := hS.post 6 hj
        have hne : c ≠ b4 := fun e => hS.ne 6 8 rfl rfl (by decide) hj (hd 8 (by decide)) (by rw [e1, h8, e] <;> rfl)
        exact ⟨c, e1, e2, fun hn => blk_grown (e3 (fun hs => hn (.inr hs))) hgY hne, fun hs => by rcases hs with e | hs; exact absurd e (by decide); exact blk_grown (e4 hs) hgY hne⟩
      | 7 =>
        obtain ⟨c, e1, e2, e3, e4⟩ := hS.post 7 hj
        have hne : c ≠ b4 := fun e => hS.ne 7 8 rfl rfl (by decide) hj (hd 8 (by decide)) (by rw [e1, h8, e] <;> rfl)
        exact ⟨c, e1, e2, fun hn => blk_grown (e3 (fun hs => hn (.inr hs))) hgY hne, fun hs => by rcases hs with e | hs; exact absurd e (by decide); exact blk_grown (e4 hs) hgY hne⟩
      | 8 =>
        exact ⟨b4, h8, hle4, fun hn => absurd (.inl rfl) hn, fun _ => hY⟩
      | 9 =>
        trivial
      | 10 =>
        trivial
      | 11 =>
        trivial
      | _ + 12 => trivial
    trivial
  · skip
    clear hf fa; intro V S w3 fa hall he3 hp hnb hf
    have hv0 := postsHold_at hp 0 rfl
    replace hv0 : V 0 = (.pointer (some ⟨b1, 0, none⟩)) := hv0
    have hv1 := postsHold_at hp 1 rfl
    replace hv1 : V 1 = (.agg #[(.int .u32 l.1), (.int .u32 l.2.1), (.bool l.2.2.1)]) := hv1
    have hv2 := postsHold_at hp 2 rfl
    replace hv2 : V 2 = (.pointer (some ⟨b1, 3, none⟩)) := hv2
    have hv3 := postsHold_at hp 3 rfl
    replace hv3 : V 3 = (.agg #[(.int .u32 m.1), (.int .u32 m.2.1), (.bool m.2.2.1)]) := hv3
    have hv4 := postsHold_at hp 4 rfl
    replace hv4 : V 4 = (.pointer (some ⟨b1, 6, none⟩)) := hv4
    have hv5 := postsHold_at hp 5 rfl
    replace hv5 : V 5 = (.agg #[(.int .u32 n.1), (.int .u32 n.2.1), (.bool n.2.2.1)]) := hv5
    have hv6 := postsHold_at hp 6 rfl
    obtain ⟨b2, hv6, hle2, hk2z, hk2⟩ := hv6
    have hBb2 : w.heap.size ≤ b2 := Nat.le_trans hb.size hle2
    replace hk2 := hk2 (hall 9 (show 9 < 12 by decide))
    clear hk2z
    have hv7 := postsHold_at hp 7 rfl
    obtain ⟨b3, hv7, hle3, hk3z, hk3⟩ := hv7
    have hBb3 : w.heap.size ≤ b3 := Nat.le_trans hb.size hle3
    replace hk3 := hk3 (hall 10 (show 10 < 12 by decide))
    clear hk3z
    have hv8 := postsHold_at hp 8 rfl
    obtain ⟨b4, hv8, hle4, hk4z, hk4⟩ := hv8
    have hBb4 : w.heap.size ≤ b4 := Nat.le_trans hb.size hle4
    replace hk4 := hk4 (hall 11 (show 11 < 12 by decide))
    clear hk4z
    simp only [List.take_succ_cons, List.take_zero, insAll, ins, hv0, hv1, hv2, hv3, hv4, hv5, hv6, hv7, hv8] at hf
    have : b2 ≠ b3 := two_blk (i := 6) (j := 7) hnb rfl rfl rfl rfl rfl (by rw [hv6]; rfl) (by rw [hv7]; rfl)
    have : b2 ≠ b4 := two_blk (i := 6) (j := 8) hnb rfl rfl rfl rfl rfl (by rw [hv6]; rfl) (by rw [hv8]; rfl)
    have : b3 ≠ b4 := two_blk (i := 7) (j := 8) hnb rfl rfl rfl rfl rfl (by rw [hv7]; rfl) (by rw [hv8]; rfl)
    have : b1 < b2 := Nat.lt_of_lt_of_le (blk_lt hk1) hle2
    have : b1 < b3 := Nat.lt_of_lt_of_le (blk_lt hk1) hle3
    have : b1 < b4 := Nat.lt_of_lt_of_le (blk_lt hk1) hle4
    clear hp hnb hall hv0 hv1 hv2 hv3 hv4 hv5 hv6 hv7 hv8
    replace hk1 := blk_ext hk1 he3
    replace hb := hb.trans (Below.mono he3 hb.size)
    (try simp only [Exit.then, Exit.inBlock, ↓reduceIte, Nat.reduceEqDiff])
    refine hK4 _ _ ?_
    refine wp_seq_k (fun K5 hK5 => ?_)
    refine wp_region_lit ?_
    refine sqv hf (r_loadA (cs := [(.int .u32 l.1), (.int .u32 l.2.1), (.bool l.2.2.1)]) rfl Try.underlying43 rfl (by kernel_rfl) (cellsAt_blk hk2)) rfl rfl rfl ?_; clear hf fa; intro fa hf
    refine sqv hf (r_move rfl) rfl rfl rfl ?_; clear hf fa; intro fa hf
    refine sqdt hf (d_callB (vs := [(.agg #[(.int .u32 l.1), (.int .u32 l.2.1), (.bool l.2.2.1)]), (.int .u32 most)]) rfl Try.func27 (by kernel_rfl) (by kernel_rfl) (limits_any l most _ hl1 hl2 hm)) rfl rfl rfl ?_; clear hf fa; rintro fa _ w4 ⟨rfl, he4⟩ hf
    replace hk1 := blk_ext hk1 he4
    replace hk2 := blk_ext hk2 he4
    replace hk3 := blk_ext hk3 he4
    replace hk4 := blk_ext hk4 he4
    replace hb := hb.trans (Below.mono he4 hb.size)
    refine sqv hf (r_assign rfl) rfl rfl rfl ?_; clear hf fa; intro fa hf
    apply wpList_nil
    (try simp only [Exit.then, Exit.inBlock, ↓reduceIte, Nat.reduceEqDiff])
    refine hK5 _ _ ?_
    refine wp_seq_k (fun K6 hK6 => ?_)
    refine wp_seq_k (fun K7 hK7 => ?_)
    have hel := encL_len l hl1.2 hl2.2
    refine wp_region_un (fun wq => Below w4.heap.size w4 wq) (fun w w' => Below w.heap.size w w')
      (fun V => [(fun x _ => x = (.int .i64 ((limitsP l most)))), (fun x _ => x = (.bool (decide (((limitsP l most)) = (0 : Int))))), (fun x _ => x = (.agg #[(.int .u32 l.1), (.int .u32 l.2.1), (.bool l.2.2.1)])), (fun x _ => x = (.int .u32 most)), (fun x _ => x = (.int .i64 most)), (fun x _ => x = (.bool (rlimitsP l most))), (fun x _ => x = (.bool false)), (fun x _ => x = (.bool false)), (fun x _ => x = (.int .i64 ((limitsP l most)))), (fun x _ => x = (.bool (decide (((limitsP l most)) ≠ (0 : Int))))), (fun x _ => x = (.bool (decide (((limitsP l most)) ≠ (0 : Int))))), (fun x _ => x = (gb (decide (((limitsP l most)) ≠ (0 : Int))) (.int .i64 ((limitsP l most))))), (fun x _ => x = (gb (decide (((limitsP l most)) ≠ (0 : Int))) (.bool (decide (((limitsP l most)) ≠ (26 : Int)))))), (fun x _ => x = (.bool false)), (fun x _ => x = (.bool false)), (fun x _ => x = (.bool false)), (fun x _ => x = (.agg #[(.int .u32 l.1), (.int .u32 l.2.1), (.bool l.2.2.1)])), (fun x wq => ∃ b, (∃ c, x = .slice (some ⟨b, 0, none⟩) (((encL l)).length) c) ∧ w4.heap.size ≤ b ∧ Row 1 (vInt .u8) 5 w4.heap.size wq x (encL l)), (fun x _ => x = (.string (strOfNums (encL l)))), (fun x _ => x = (.agg #[(.int .u32 l.1), (.int .u32 l.2.1), (.bool l.2.2.1)])), (fun x _ => x = (.string (strOfNums (encL l)))), (fun x _ => x = (.bool false)), (fun x _ => x = (.bool false))])
      [17]
      [[], [0], [], [], [3], [2, 4], [1, 5], [5, 6], [7], [7, 8], [7, 9], [10], [10, 11], [7, 10, 12], [7, 13], [10, 14], [15], [15, 16], [15, 17], [15], [15, 17, 19], [15, 18, 20], [15, 21]]
      hf (by kernel_rfl) (by kernel_rfl) (fun _ => rfl) ((Below.refl _ _).drew) (fun a b h1 h2 => h1.trans (h2.mono h1.size)) (fun _ _ h => h.size) (fun V => ⟨kept_eq, kept_eq, kept_eq, kept_eq, kept_eq, kept_eq, kept_eq, kept_eq, kept_eq, kept_eq, kept_eq, kept_eq, kept_eq, kept_eq, kept_eq, kept_eq, kept_eq, keptX, kept_eq, kept_eq, kept_eq, kept_eq, kept_eq, trivial⟩) (fun _ _ _ _ _ => rfl) ?_ ?_
    · skip
      intro V
      refine ⟨fun wu0 hC hd => ?_, ?_⟩
      · clear hd
        replace hb := hb.trans (hC.mono hb.size)
        replace hk1 := blk_ext hk1 hC
        replace hk2 := blk_ext hk2 hC
        replace hk3 := blk_ext hk3 hC
        replace hk4 := blk_ext hk4 hC
        exact Runs.does (r_move rfl) ⟨Below.refl _ _, rfl, nofr rfl⟩
      refine ⟨fun wu1 hC hd => ?_, ?_⟩
      · obtain ⟨h0, _⟩ := hd
        skip
        replace h0 : V 0 = (.int .i64 ((limitsP l most))) := h0
        replace hb := hb.trans (hC.mono hb.size)
        replace hk1 := blk_ext hk1 hC
        replace hk2 := blk_ext hk2 hC
        replace hk3 := blk_ext hk3 hC
        replace hk4 := blk_ext hk4 hC
        exact Runs.does (r_eq (congrArg some h0) rfl) ⟨Below.refl _ _, rfl, nofr rfl⟩
      refine ⟨fun wu2 hC hd => ?_, ?_⟩
      · clear hd
        replace hb := hb.trans (hC.mono hb.size)
        replace hk1 := blk_ext hk1 hC
        replace hk2 := blk_ext hk2 hC
        replace hk3 := blk_ext hk3 hC
        replace hk4 := blk_ext hk4 hC
        exact Runs.does (r_loadA (cs := [(.int .u32 l.1), (.int .u32 l.2.1), (.bool l.2.2.1)]) rfl Try.underlying43 rfl (by kernel_rfl) (cellsAt_blk hk2)) ⟨Below.refl _ _, rfl, nofr rfl⟩
      refine ⟨fun wu3 hC hd => ?_, ?_⟩
      · clear hd
        replace hb := hb.trans (hC.mono hb.size)
        replace hk1 := blk_ext hk1 hC
        replace hk2 := blk_ext hk2 hC
        replace hk3 := blk_ext hk3 hC
        replace hk4 := blk_ext hk4 hC
        exact Runs.does (r_move rfl) ⟨Below.refl _ _, rfl, nofr rfl⟩
      refine ⟨fun wu4 hC hd => ?_, ?_⟩
      · obtain ⟨h3, _⟩ := hd
        skip
        replace h3 : V 3 = (.int .u32 most) := h3
        replace hb := hb.trans (hC.mono hb.size)
        replace hk1 := blk_ext hk1 hC
        replace hk2 := blk_ext hk2 hC
        replace hk3 := blk_ext hk3 hC
        replace hk4 := blk_ext hk4 hC
        exact Runs.does (r_conv (C := most) (congrArg some h3) Try.underlying24 Try.underlying3 (by rw [IntKind.wrap_i64]; omega)) ⟨Below.refl _ _, rfl, nofr rfl⟩
      refine ⟨fun wu5 hC hd => ?_, ?_⟩
      · obtain ⟨h2, h4, _⟩ := hd
        skip
        skip
        replace h2 : V 2 = (.agg #[(.int .u32 l.1), (.int .u32 l.2.1), (.bool l.2.2.1)]) := h2
        replace h4 : V 4 = (.int .i64 most) := h4
        replace hb := hb.trans (hC.mono hb.size)
        replace hk1 := blk_ext hk1 hC
        replace hk2 := blk_ext hk2 hC
        replace hk3 := blk_ext hk3 hC
        replace hk4 := blk_ext hk4 hC
        refine Does.mono (d_callB (vs := [(.agg #[(.int .u32 l.1), (.int .u32 l.2.1), (.bool l.2.2.1)]), (.int .i64 most)]) (show [some (V 2), some (V 4)] = [some (.agg #[(.int .u32 l.1), (.int .u32 l.2.1), (.bool l.2.2.1)]), some (.int .i64 most)] from by rw [h2, h4]) Try.func28 (by kernel_rfl) (by kernel_rfl) (rlimits_any l most _ hl1 hl2 hm)) (fun _ _ h => ⟨h.2, h.1, nofr rfl⟩)
      refine ⟨fun wu6 hC hd => ?_, ?_⟩
      · obtain ⟨h1, h5, _⟩ := hd
        skip
        skip
        replace h1 : V 1 = (.bool (decide (((limitsP l most)) = (0 : Int)))) := h1
        replace h5 : V 5 = (.bool (rlimitsP l most)) := h5
        replace hb := hb.trans (hC.mono hb.size)
        replace hk1 := blk_ext hk1 hC
        replace hk2 := blk_ext hk2 hC
        replace hk3 := blk_ext hk3 hC
        replace hk4 := blk_ext hk4 hC
        exact Runs.does (Runs.veq (r_bne Try.underlying4 (congrArg some h1) (congrArg some h5)) (congrArg Value.bool (show _ = false from (by rw [limits_eq]; simp)))) ⟨Below.refl _ _, rfl, nofr rfl⟩
      refine ⟨fun wu7 hC hd => ?_, ?_⟩
      · obtain ⟨h5, h6, _⟩ := hd
        skip
        skip
        replace h5 : V 5 = (.bool (rlimitsP l most)) := h5
        replace h6 : V 6 = (.bool false) := h6
        replace hb := hb.trans (hC.mono hb.size)
        replace hk1 := blk_ext hk1 hC
        replace hk2 := blk_ext hk2 hC
        replace hk3 := blk_ext hk3 hC
        replace hk4 := blk_ext hk4 hC
        exact Runs.does (r_move (congrArg some h6)) ⟨Below.refl _ _, rfl, nofr rfl⟩
      refine ⟨fun wu8 hC hd => ?_, ?_⟩
      · obtain ⟨h7, _⟩ := hd
        skip
        replace h7 : V 7 = (.bool false) := h7
        replace hb := hb.trans (hC.mono hb.size)
        replace hk1 := blk_ext hk1 hC
        replace hk2 := blk_ext hk2 hC
        replace hk3 := blk_ext hk3 hC
        replace hk4 := blk_ext hk4 hC
        refine ⟨true, false, congrArg some h7, fun hact => ?_, fun hact => ?_⟩
        · exact Runs.does (r_move rfl) ⟨Below.refl _ _, rfl, nofr rfl⟩
        · exfalso; simp at hact
      refine ⟨fun wu9 hC hd => ?_, ?_⟩
      · obtain ⟨h7, h8, _⟩ := hd
        skip
        skip
        replace h7 : V 7 = (.bool false) := h7
        replace h8 : V 8 = (.int .i64 ((limitsP l most))) := h8
        replace hb := hb.trans (hC.mono hb.size)
        replace hk1 := blk_ext hk1 hC
        replace hk2 := blk_ext hk2 hC
        replace hk3 := blk_ext hk3 hC
        replace hk4 := blk_ext hk4 hC
        refine ⟨true, false, congrArg some h7, fun hact => ?_, fun hact => ?_⟩
        · exact Runs.does (r_ne (congrArg some h8) rfl) ⟨Below.refl _ _, rfl, nofr rfl⟩
        · exfalso; simp at hact
      refine ⟨fun wu10 hC hd => ?_, ?_⟩
      · obtain ⟨h7, h9, _⟩ := hd
        skip
        skip
        replace h7 : V 7 = (.bool false) := h7
        replace h9 : V 9 = (.bool (decide (((limitsP l most)) ≠ (0 : Int)))) := h9
        replace hb := hb.trans (hC.mono hb.size)
        replace hk1 := blk_ext hk1 hC
        replace hk2 := blk_ext hk2 hC
        replace hk3 := blk_ext hk3 hC
        replace hk4 := blk_ext hk4 hC
        refine ⟨true, false, congrArg some h7, fun hact => ?_, fun hact => ?_⟩
        · exact Runs.does (r_move (congrArg some h9)) ⟨Below.refl _ _, rfl, nofr rfl⟩
        · exfalso; simp at hact
      refine ⟨fun wu11 hC hd => ?_, ?_⟩
      · obtain ⟨h10, _⟩ := hd
        skip
        replace h10 : V 10 = (.bool (decide (((limitsP l most)) ≠ (0 : Int)))) := h10
        replace hb := hb.trans (hC.mono hb.size)
        replace hk1 := blk_ext hk1 hC
        replace hk2 := blk_ext hk2 hC
        replace hk3 := blk_ext hk3 hC
        replace hk4 := blk_ext hk4 hC
        refine ⟨true, (decide (((limitsP l most)) ≠ (0 : Int))), congrArg some h10, fun hact => ?_, fun hact => ?_⟩
        · replace hact : (decide (((limitsP l most)) ≠ (0 : Int))) = true := by simpa using hact
          refine Runs.does (v := (.int .i64 ((limitsP l most)))) (r_move rfl) ⟨Below.refl _ _, ?_, nofr rfl⟩
          show _ = gb _ _; rw [hact]; rfl
        · replace hact : (decide (((limitsP l most)) ≠ (0 : Int))) = false := by simpa using hact
          refine ⟨Below.refl _ _, ?_, nofr rfl⟩
          show _ = gb _ _; rw [hact]; rfl
      refine ⟨fun wu12 hC hd => ?_, ?_⟩
      · obtain ⟨h10, h11, _⟩ := hd
        skip
        skip
        replace h10 : V 10 = (.bool (decide (((limitsP l most)) ≠ (0 : Int)))) := h10
        replace h11 : V 11 = (gb (decide (((limitsP l most)) ≠ (0 : Int))) (.int .i64 ((limitsP l most)))) := h11
        replace hb := hb.trans (hC.mono hb.size)
        replace hk1 := blk_ext hk1 hC
        replace hk2 := blk_ext hk2 hC
        replace hk3 := blk_ext hk3 hC
        replace hk4 := blk_ext hk4 hC
        refine ⟨true, (decide (((limitsP l most)) ≠ (0 : Int))), congrArg some h10, fun hact => ?_, fun hact => ?_⟩
        · replace hact : (decide (((limitsP l most)) ≠ (0 : Int))) = true := by simpa using hact
          refine Runs.does (v := (.bool (decide (((limitsP l most)) ≠ (26 : Int))))) (r_ne (gb_ev hact (congrArg some h11)) rfl) ⟨Below.refl _ _, ?_, nofr rfl⟩
          show _ = gb _ _; rw [hact]; rfl
        · replace hact : (decide (((limitsP l most)) ≠ (0 : Int))) = false := by simpa using hact
          refine ⟨Below.refl _ _, ?_, nofr rfl⟩
          show _ = gb _ _; rw [hact]; rfl
      refine ⟨fun wu13 hC hd => ?_, ?_⟩
      · obtain ⟨h7, h10, h12, _⟩ := hd
        skip
        skip
        skip
        replace h7 : V 7 = (.bool false) := h7
        replace h10 : V 10 = (.bool (decide (((limitsP l most)) ≠ (0 : Int)))) := h10
        replace h12 : V 12 = (gb (decide (((limitsP l most)) ≠ (0 : Int))) (.bool (decide (((limitsP l most)) ≠ (26 : Int))))) := h12
        replace hb := hb.trans (hC.mono hb.size)
        replace hk1 := blk_ext hk1 hC
        replace hk2 := blk_ext hk2 hC
        replace hk3 := blk_ext hk3 hC
        replace hk4 := blk_ext hk4 hC
        refine ⟨true, false, congrArg some h7, fun hact => ?_, fun hact => ?_⟩
        · exact Runs.does (Runs.veq (r_pickA (b := (decide (((limitsP l most)) ≠ (0 : Int)))) (e := (decide (((limitsP l most)) ≠ (26 : Int)))) (congrArg some h10) (congrArg some h12) rfl) (congrArg Value.bool (show _ = false from (by rcases limits_two l most with h | h <;> simp [h])))) ⟨Below.refl _ _, rfl, nofr rfl⟩
        · exfalso; simp at hact
      refine ⟨fun wu14 hC hd => ?_, ?_⟩
      · obtain ⟨h7, h13, _⟩ := hd
        skip
        skip
        replace h7 : V 7 = (.bool false) := h7
        replace h13 : V 13 = (.bool false) := h13
        replace hb := hb.trans (hC.mono hb.size)
        replace hk1 := blk_ext hk1 hC
        replace hk2 := blk_ext hk2 hC
        replace hk3 := blk_ext hk3 hC
        replace hk4 := blk_ext hk4 hC
        exact Runs.does (r_pick (b := false) (congrArg some h7) rfl (congrArg some h13) rfl) ⟨Below.refl _ _, rfl, nofr rfl⟩
      refine ⟨fun wu15 hC hd => ?_, ?_⟩
      · obtain ⟨h10, h14, _⟩ := hd
        skip
        skip
        replace h10 : V 10 = (.bool (decide (((limitsP l most)) ≠ (0 : Int)))) := h10
        replace h14 : V 14 = (.bool false) := h14
        replace hb := hb.trans (hC.mono hb.size)
        replace hk1 := blk_ext hk1 hC
        replace hk2 := blk_ext hk2 hC
        replace hk3 := blk_ext hk3 hC
        replace hk4 := blk_ext hk4 hC
        exact Runs.does (r_move (congrArg some h14)) ⟨Below.refl _ _, rfl, nofr rfl⟩
      refine ⟨fun wu16 hC hd => ?_, ?_⟩
      · obtain ⟨h15, _⟩ := hd
        skip
        replace h15 : V 15 = (.bool false) := h15
        replace hb := hb.trans (hC.mono hb.size)
        replace hk1 := blk_ext hk1 hC
        replace hk2 := blk_ext hk2 hC
        replace hk3 := blk_ext hk3 hC
        replace hk4 := blk_ext hk4 hC
        refine ⟨true, false, congrArg some h15, fun hact => ?_, fun hact => ?_⟩
        · exact Runs.does (r_loadA (cs := [(.int .u32 l.1), (.int .u32 l.2.1), (.bool l.2.2.1)]) rfl Try.underlying43 rfl (by kernel_rfl) (cellsAt_blk hk2)) ⟨Below.refl _ _, rfl, nofr rfl⟩
        · exfalso; simp at hact
      refine ⟨fun wu17 hC hd => ?_, ?_⟩
      · obtain ⟨h15, h16, _⟩ := hd
        skip
        skip
        replace h15 : V 15 = (.bool false) := h15
        replace h16 : V 16 = (.agg #[(.int .u32 l.1), (.int .u32 l.2.1), (.bool l.2.2.1)]) := h16
        replace hb := hb.trans (hC.mono hb.size)
        replace hk1 := blk_ext hk1 hC
        replace hk2 := blk_ext hk2 hC
        replace hk3 := blk_ext hk3 hC
        replace hk4 := blk_ext hk4 hC
        refine ⟨true, false, congrArg some h15, fun hact => ?_, fun hact => ?_⟩
        · refine Does.mono (d_callX (vs := [(.agg #[(.int .u32 l.1), (.int .u32 l.2.1), (.bool l.2.2.1)])]) (show [some (V 16)] = [some (.agg #[(.int .u32 l.1), (.int .u32 l.2.1), (.bool l.2.2.1)])] from by rw [h16]) Try.func29 (by kernel_rfl) (by kernel_rfl) (encl_any l _ hl1 hl2)) ?_
          rintro _ w' ⟨hF2, hF3⟩
          obtain ⟨ra, rc, rfl, _, _⟩ := Row.slice hF2
          obtain ⟨b, rfl, hF, hF4⟩ := Row.some hF2 (by first | omega | (simp only [Sl.list_length, List.length_set, List.length_take, List.length_append, List.length_replicate, List.length_cons, List.length_nil, List.length_map, nums_len]; omega))
          exact ⟨hF3, ⟨b, ⟨rc, rfl⟩, Nat.le_trans hC.size hF, hF2.rebase hC.size⟩, isfr rfl hF (Row.lt hF2 _ rfl).2⟩
        · exfalso; simp at hact
      refine ⟨fun wu18 hC hd => ?_, ?_⟩
      · obtain ⟨h15, h17, _⟩ := hd
        skip
        skip
        replace h15 : V 15 = (.bool false) := h15
        obtain ⟨mb1, ⟨mc1, h17⟩, hle5, hr1⟩ := h17
        rw [h17] at hr1
        replace hb := hb.trans (hC.mono hb.size)
        replace hk1 := blk_ext hk1 hC
        replace hk2 := blk_ext hk2 hC
        replace hk3 := blk_ext hk3 hC
        replace hk4 := blk_ext hk4 hC
        refine ⟨true, false, congrArg some h15, fun hact => ?_, fun hact => ?_⟩
        · exact Runs.does (r_rowstr (congrArg some h17) Try.underlying47 Try.underlying5 Try.underlying9 hr1) ⟨Below.refl _ _, rfl, nofr rfl⟩
        · exfalso; simp at hact
      refine ⟨fun wu19 hC hd => ?_, ?_⟩
      · obtain ⟨h15, _⟩ := hd
        skip
        replace h15 : V 15 = (.bool false) := h15
        replace hb := hb.trans (hC.mono hb.size)
        replace hk1 := blk_ext hk1 hC
        replace hk2 := blk_ext hk2 hC
        replace hk3 := blk_ext hk3 hC
        replace hk4 := blk_ext hk4 hC
        refine ⟨true, false, congrArg some h15, fun hact => ?_, fun hact => ?_⟩
        · exact Runs.does (r_loadA (cs := [(.int .u32 l.1), (.int .u32 l.2.1), (.bool l.2.2.1)]) rfl Try.underlying43 rfl (by kernel_rfl) (cellsAt_blk hk2)) ⟨Below.refl _ _, rfl, nofr rfl⟩
        · exfalso; simp at hact
      refine ⟨fun wu20 hC hd => ?_, ?_⟩
      · obtain ⟨h15, h17, h19, _⟩ := hd
        skip
        skip
        skip
        replace h15 : V 15 = (.bool false) := h15
        obtain ⟨mb1, ⟨mc1, h17⟩, hle5, hr1⟩ := h17
        rw [h17] at hr1
        replace h19 : V 19 = (.agg #[(.int .u32 l.1), (.int .u32 l.2.1), (.bool l.2.2.1)]) := h19
        replace hb := hb.trans (hC.mono hb.size)
        replace hk1 := blk_ext hk1 hC
        replace hk2 := blk_ext hk2 hC
        replace hk3 := blk_ext hk3 hC
        replace hk4 := blk_ext hk4 hC
        refine ⟨true, false, congrArg some h15, fun hact => ?_, fun hact => ?_⟩
        · refine Does.mono (d_callB (vs := [(.agg #[(.int .u32 l.1), (.int .u32 l.2.1), (.bool l.2.2.1)])]) (show [some (V 19)] = [some (.agg #[(.int .u32 l.1), (.int .u32 l.2.1), (.bool l.2.2.1)])] from by rw [h19]) Try.func30 (by kernel_rfl) (by kernel_rfl) (rencl_any l _ hl1 hl2)) (fun _ _ h => ⟨h.2, h.1, nofr rfl⟩)
        · exfalso; simp at hact
      refine ⟨fun wu21 hC hd => ?_, ?_⟩
      · obtain ⟨h15, h18, h20, _⟩ := hd
        skip
        skip
        skip
        replace h15 : V 15 = (.bool false) := h15
        replace h18 : V 18 = (.string (strOfNums (encL l))) := h18
        replace h20 : V 20 = (.string (strOfNums (encL l))) := h20
        replace hb := hb.trans (hC.mono hb.size)
        replace hk1 := blk_ext hk1 hC
        replace hk2 := blk_ext hk2 hC
        replace hk3 := blk_ext hk3 hC
        replace hk4 := blk_ext hk4 hC
        refine ⟨true, false, congrArg some h15, fun hact => ?_, fun hact => ?_⟩
        · exact Runs.does (Runs.veq (r_sne (congrArg some h18) (congrArg some h20)) (congrArg Value.bool (show _ = false from (by simp)))) ⟨Below.refl _ _, rfl, nofr rfl⟩
        · exfalso; simp at hact
      refine ⟨fun wu22 hC hd => ?_, ?_⟩
      · obtain ⟨h15, h21, _⟩ := hd
        skip
        skip
        replace h15 : V 15 = (.bool false) := h15
        replace h21 : V 21 = (.bool false) := h21
        replace hb := hb.trans (hC.mono hb.size)
        replace hk1 := blk_ext hk1 hC
        replace hk2 := blk_ext hk2 hC
        replace hk3 := blk_ext hk3 hC
        replace hk4 := blk_ext hk4 hC
        exact Runs.does (r_pick (b := false) (congrArg some h15) rfl (congrArg some h21) rfl) ⟨Below.refl _ _, rfl, nofr rfl⟩
      trivial
    · skip
      clear hf fa; intro V w5 fa he5 hp hnb hf
      have hv0 : V 0 = (.int .i64 ((limitsP l most))) := postsHold_at hp 0 rfl
      have hv1 : V 1 = (.bool (decide (((limitsP l most)) = (0 : Int)))) := postsHold_at hp 1 rfl
      have hv2 : V 2 = (.agg #[(.int .u32 l.1), (.int .u32 l.2.1), (.bool l.2.2.1)]) := postsHold_at hp 2 rfl
      have hv3 : V 3 = (.int .u32 most) := postsHold_at hp 3 rfl
      have hv4 : V 4 = (.int .i64 most) := postsHold_at hp 4 rfl
      have hv5 : V 5 = (.bool (rlimitsP l most)) := postsHold_at hp 5 rfl
      have hv6 : V 6 = (.bool false) := postsHold_at hp 6 rfl
      have hv7 : V 7 = (.bool false) := postsHold_at hp 7 rfl
      have hv8 : V 8 = (.int .i64 ((limitsP l most))) := postsHold_at hp 8 rfl
      have hv9 : V 9 = (.bool (decide (((limitsP l most)) ≠ (0 : Int)))) := postsHold_at hp 9 rfl
      have hv10 : V 10 = (.bool (decide (((limitsP l most)) ≠ (0 : Int)))) := postsHold_at hp 10 rfl
      have hv11 : V 11 = (gb (decide (((limitsP l most)) ≠ (0 : Int))) (.int .i64 ((limitsP l most)))) := postsHold_at hp 11 rfl
      have hv12 : V 12 = (gb (decide (((limitsP l most)) ≠ (0 : Int))) (.bool (decide (((limitsP l most)) ≠ (26 : Int))))) := postsHold_at hp 12 rfl
      have hv13 : V 13 = (.bool false) := postsHold_at hp 13 rfl
      have hv14 : V 14 = (.bool false) := postsHold_at hp 14 rfl
      have hv15 : V 15 = (.bool false) := postsHold_at hp 15 rfl
      have hv16 : V 16 = (.agg #[(.int .u32 l.1), (.int .u32 l.2.1), (.bool l.2.2.1)]) := postsHold_at hp 16 rfl
      have hv17 := postsHold_at hp 17 rfl
      obtain ⟨mb1, ⟨mc1, hv17⟩, hle5, hr1⟩ := hv17
      rw [hv17] at hr1
      replace hr1 := Row.rebase hr1 hb.size
      have hcmc1 := Row.caps hr1
      have hBmb1 : w.heap.size ≤ mb1 := Nat.le_trans hb.size hle5
      have hv18 : V 18 = (.string (strOfNums (encL l))) := postsHold_at hp 18 rfl
      have hv19 : V 19 = (.agg #[(.int .u32 l.1), (.int .u32 l.2.1), (.bool l.2.2.1)]) := postsHold_at hp 19 rfl
      have hv20 : V 20 = (.string (strOfNums (encL l))) := postsHold_at hp 20 rfl
      have hv21 : V 21 = (.bool false) := postsHold_at hp 21 rfl
      have hv22 : V 22 = (.bool false) := postsHold_at hp 22 rfl
      simp only [List.take_succ_cons, List.take_zero, insAll, ins, hv0, hv1, hv2, hv3, hv4, hv5, hv6, hv7, hv8, hv9, hv10, hv11, hv12, hv13, hv14, hv15, hv16, hv17, hv18, hv19, hv20, hv21, hv22] at hf
      have : b1 < mb1 := Nat.lt_of_lt_of_le (blk_lt hk1) hle5
      have : b2 < mb1 := Nat.lt_of_lt_of_le (blk_lt hk2) hle5
      have : b3 < mb1 := Nat.lt_of_lt_of_le (blk_lt hk3) hle5
      have : b4 < mb1 := Nat.lt_of_lt_of_le (blk_lt hk4) hle5
      clear hp hnb hv0 hv1 hv2 hv3 hv4 hv5 hv6 hv7 hv8 hv9 hv10 hv11 hv12 hv13 hv14 hv15 hv16 hv17 hv18 hv19 hv20 hv21 hv22
      replace hk1 := blk_ext hk1 he5
      replace hk2 := blk_ext hk2 he5
      replace hk3 := blk_ext hk3 he5
      replace hk4 := blk_ext hk4 he5
      replace hb := hb.trans (Below.mono he5 hb.size)
      (try simp only [Exit.then, Exit.inBlock, ↓reduceIte, Nat.reduceEqDiff])
      refine hK7 _ _ ?_
      refine wp_cond_false (hf.ev rfl) ?_
      refine wp_skip ?_
      (try simp only [Exit.then, Exit.inBlock, ↓reduceIte, Nat.reduceEqDiff])
      refine hK6 _ _ ?_
      refine wp_seq_k (fun K8 hK8 => ?_)
      refine wp_region_lit ?_
      refine sqv hf (r_fa rfl Try.underlying43 (f := 0) (q := 0) rfl (by kernel_rfl) rfl) rfl rfl rfl ?_; clear hf fa; intro fa hf
      refine sqv hf (r_load (v := (.int .u32 l.1)) rfl Try.underlying24 rfl (cell_blk hk2 rfl)) rfl rfl rfl ?_; clear hf fa; intro fa hf
      refine sqv hf (r_fa rfl Try.underlying43 (f := 0) (q := 0) rfl (by kernel_rfl) rfl) rfl rfl rfl ?_; clear hf fa; intro fa hf
      refine sqv hf (r_load (v := (.int .u32 m.1)) rfl Try.underlying24 rfl (cell_blk hk3 rfl)) rfl rfl rfl ?_; clear hf fa; intro fa hf
      refine sqv hf (r_ge rfl rfl) rfl rfl rfl ?_; clear hf fa; intro fa hf
      refine sqv hf (r_move rfl) rfl rfl rfl ?_; clear hf fa; intro fa hf
      refine sqgT (act := (decide (m.1 ≤ l.1))) (ag := true) (c := (decide (m.1 ≤ l.1))) (v := (.pointer (some ⟨b3, 2, none⟩))) hf rfl rfl rfl (fun hact => (r_fa rfl Try.underlying43 (f := 2) (q := 2) rfl (by kernel_rfl) rfl)) rfl rfl ?_; clear hf fa; intro fa hf
      refine sqgT (act := (decide (m.1 ≤ l.1))) (ag := true) (c := (decide (m.1 ≤ l.1))) (v := (.bool m.2.2.1)) hf rfl rfl rfl (fun hact => (r_load (v := (.bool m.2.2.1)) (gb_ev hact rfl) Try.underlying4 rfl (cell_blk hk3 rfl))) rfl rfl ?_; clear hf fa; intro fa hf
      refine sqgT (act := (decide (m.1 ≤ l.1))) (ag := true) (c := (decide (m.1 ≤ l.1))) (v := (.bool (!m.2.2.1))) hf rfl rfl rfl (fun hact => (r_not (gb_ev hact rfl))) rfl rfl ?_; clear hf fa; intro fa hf
      refine sqgT (act := (decide (m.1 ≤ l.1))) (ag := true) (c := (decide (m.1 ≤ l.1))) (v := (.bool (!m.2.2.1))) hf rfl rfl rfl (fun hact => (r_move (gb_ev hact rfl))) rfl rfl ?_; clear hf fa; intro fa hf
      refine sqgF (act := ((decide (m.1 ≤ l.1)) && !(!m.2.2.1))) (ag := (decide (m.1 ≤ l.1))) (c := (!m.2.2.1)) (v := (.pointer (some ⟨b2, 2, none⟩))) hf rfl rfl rfl (fun hact => (r_fa rfl Try.underlying43 (f := 2) (q := 2) rfl (by kernel_rfl) rfl)) rfl rfl ?_; clear hf fa; intro fa hf
      refine sqgF (act := ((decide (m.1 ≤ l.1)) && !(!m.2.2.1))) (ag := (decide (m.1 ≤ l.1))) (c := (!m.2.2.1)) (v := (.bool l.2.2.1)) hf rfl rfl rfl (fun hact => (r_load (v := (.bool l.2.2.1)) (gb_ev hact rfl) Try.underlying4 rfl (cell_blk hk2 rfl))) rfl rfl ?_; clear hf fa; intro fa hf
      refine sqgF (act := ((decide (m.1 ≤ l.1)) && !(!m.2.2.1))) (ag := (decide (m.1 ≤ l.1))) (c := (!m.2.2.1)) (v := (.bool l.2.2.1)) hf rfl rfl rfl (fun hact => (r_move (gb_ev hact rfl))) rfl rfl ?_; clear hf fa; intro fa hf
      refine sqgT (act := (((decide (m.1 ≤ l.1)) && !(!m.2.2.1)) && l.2.2.1)) (ag := ((decide (m.1 ≤ l.1)) && !(!m.2.2.1))) (c := l.2.2.1) (v := (.pointer (some ⟨b2, 1, none⟩))) hf rfl rfl rfl (fun hact => (r_fa rfl Try.underlying43 (f := 1) (q := 1) rfl (by kernel_rfl) rfl)) rfl rfl ?_; clear hf fa; intro fa hf
      refine sqgT (act := (((decide (m.1 ≤ l.1)) && !(!m.2.2.1)) && l.2.2.1)) (ag := ((decide (m.1 ≤ l.1)) && !(!m.2.2.1))) (c := l.2.2.1) (v := (.int .u32 l.2.1)) hf rfl rfl rfl (fun hact => (r_load (v := (.int .u32 l.2.1)) (gb_ev hact rfl) Try.underlying24 rfl (cell_blk hk2 rfl))) rfl rfl ?_; clear hf fa; intro fa hf
      refine sqgT (act := (((decide (m.1 ≤ l.1)) && !(!m.2.2.1)) && l.2.2.1)) (ag := ((decide (m.1 ≤ l.1)) && !(!m.2.2.1))) (c := l.2.2.1) (v := (.pointer (some ⟨b3, 1, none⟩))) hf rfl rfl rfl (fun hact => (r_fa rfl Try.underlying43 (f := 1) (q := 1) rfl (by kernel_rfl) rfl)) rfl rfl ?_; clear hf fa; intro fa hf
      refine sqgT (act := (((decide (m.1 ≤ l.1)) && !(!m.2.2.1)) && l.2.2.1)) (ag := ((decide (m.1 ≤ l.1)) && !(!m.2.2.1))) (c := l.2.2.1) (v := (.int .u32 m.2.1)) hf rfl rfl rfl (fun hact => (r_load (v := (.int .u32 m.2.1)) (gb_ev hact rfl) Try.underlying24 rfl (cell_blk hk3 rfl))) rfl rfl ?_; clear hf fa; intro fa hf
      refine sqgT (act := (((decide (m.1 ≤ l.1)) && !(!m.2.2.1)) && l.2.2.1)) (ag := ((decide (m.1 ≤ l.1)) && !(!m.2.2.1))) (c := l.2.2.1) (v := (.bool (decide (l.2.1 ≤ m.2.1)))) hf rfl rfl rfl (fun hact => (r_le (gb_ev hact rfl) (gb_ev hact rfl))) rfl rfl ?_; clear hf fa; intro fa hf
      refine sqgF (act := ((decide (m.1 ≤ l.1)) && !(!m.2.2.1))) (ag := (decide (m.1 ≤ l.1))) (c := (!m.2.2.1)) (v := (.bool (l.2.2.1 && (decide (l.2.1 ≤ m.2.1))))) hf rfl rfl rfl (fun hact => (r_pickA2 (q := ((decide (m.1 ≤ l.1)) && !(!m.2.2.1))) (b := l.2.2.1) (e := (decide (l.2.1 ≤ m.2.1))) hact rfl rfl rfl)) rfl rfl ?_; clear hf fa; intro fa hf
      refine sqgT (act := (decide (m.1 ≤ l.1))) (ag := true) (c := (decide (m.1 ≤ l.1))) (v := (.bool ((!m.2.2.1) || (l.2.2.1 && (decide (l.2.1 ≤ m.2.1)))))) hf rfl rfl rfl (fun hact => (r_pickO2 (q := (decide (m.1 ≤ l.1))) (b := (!m.2.2.1)) (e := (l.2.2.1 && (decide (l.2.1 ≤ m.2.1)))) hact rfl rfl rfl)) rfl rfl ?_; clear hf fa; intro fa hf
      refine sqv hf (r_pickA (b := (decide (m.1 ≤ l.1))) (e := ((!m.2.2.1) || (l.2.2.1 && (decide (l.2.1 ≤ m.2.1))))) rfl rfl rfl) rfl rfl rfl ?_; clear hf fa; intro fa hf
      refine sqv hf (r_assign rfl) rfl rfl rfl ?_; clear hf fa; intro fa hf
      apply wpList_nil
      (try simp only [Exit.then, Exit.inBlock, ↓reduceIte, Nat.reduceEqDiff])
      refine hK8 _ _ ?_
      refine wp_seq_k (fun K9 hK9 => ?_)
      refine wp_region_un (fun wq => Below w5.heap.size w5 wq) (fun w w' => Below w.heap.size w w')
        (fun V => [(fun x _ => x = (.agg #[(.int .u32 l.1), (.int .u32 l.2.1), (.bool l.2.2.1)])), (fun x _ => x = (.agg #[(.int .u32 m.1), (.int .u32 m.2.1), (.bool m.2.2.1)])), (fun x _ => x = (.bool (fitsP l m))), (fun x _ => x = (.agg #[(.int .u32 m.1), (.int .u32 m.2.1), (.bool m.2.2.1)])), (fun x _ => x = (.agg #[(.int .u32 n.1), (.int .u32 n.2.1), (.bool n.2.2.1)])), (fun x _ => x = (.bool (fitsP m n))), (fun x _ => x = (.agg #[(.int .u32 l.1), (.int .u32 l.2.1), (.bool l.2.2.1)])), (fun x _ => x = (.agg #[(.int .u32 n.1), (.int .u32 n.2.1), (.bool n.2.2.1)])), (fun x _ => x = (.bool (fitsP l n))), (fun x _ => x = (.bool (fitsP l m))), (fun x _ => x = (.bool (fitsP m n))), (fun x _ => x = (.bool (fitsP l n)))])
        []
        [[], [], [0, 1], [], [], [2, 3, 4], [], [], [5, 6, 7], [0, 1, 2, 8], [0, 1, 2, 3, 4, 5, 9], [0, 1, 2, 3, 4, 5, 6, 7, 8, 9, 10]]
        hf (by kernel_rfl) (by kernel_rfl) (fun _ => rfl) ((Below.refl _ _).drew) (fun a b h1 h2 => h1.trans (h2.mono h1.size)) (fun _ _ h => h.size) (fun V => ⟨kept_eq, kept_eq, kept_eq, kept_eq, kept_eq, kept_eq, kept_eq, kept_eq, kept_eq, kept_eq, kept_eq, kept_eq, trivial⟩) (fun _ _ _ _ _ => rfl) ?_ ?_
      · skip
        intro V
        refine ⟨fun wu0 hC hd => ?_, ?_⟩
        · clear hd
          replace hb := hb.trans (hC.mono hb.size)
          replace hk1 := blk_ext hk1 hC
          replace hk2 := blk_ext hk2 hC
          replace hk3 := blk_ext hk3 hC
          replace hk4 := blk_ext hk4 hC
          replace hr1 := Row.ext hr1 hC
          exact Runs.does (r_loadA (cs := [(.int .u32 l.1), (.int .u32 l.2.1), (.bool l.2.2.1)]) rfl Try.underlying43 rfl (by kernel_rfl) (cellsAt_blk hk2)) ⟨Below.refl _ _, rfl, nofr rfl⟩
        refine ⟨fun wu1 hC hd => ?_, ?_⟩
        · clear hd
          replace hb := hb.trans (hC.mono hb.size)
          replace hk1 := blk_ext hk1 hC
          replace hk2 := blk_ext hk2 hC
          replace hk3 := blk_ext hk3 hC
          replace hk4 := blk_ext hk4 hC
          replace hr1 := Row.ext hr1 hC
          exact Runs.does (r_loadA (cs := [(.int .u32 m.1), (.int .u32 m.2.1), (.bool m.2.2.1)]) rfl Try.underlying43 rfl (by kernel_rfl) (cellsAt_blk hk3)) ⟨Below.refl _ _, rfl, nofr rfl⟩
        refine ⟨fun wu2 hC hd => ?_, ?_⟩
        · obtain ⟨h0, h1, _⟩ := hd
          skip
          skip
          replace h0 : V 0 = (.agg #[(.int .u32 l.1), (.int .u32 l.2.1), (.bool l.2.2.1)]) := h0
          replace h1 : V 1 = (.agg #[(.int .u32 m.1), (.int .u32 m.2.1), (.bool m.2.2.1)]) := h1
          replace hb := hb.trans (hC.mono hb.size)
          replace hk1 := blk_ext hk1 hC
          replace hk2 := blk_ext hk2 hC
          replace hk3 := blk_ext hk3 hC
          replace hk4 := blk_ext hk4 hC
          replace hr1 := Row.ext hr1 hC
          refine Does.mono (d_callB (vs := [(.agg #[(.int .u32 l.1), (.int .u32 l.2.1), (.bool l.2.2.1)]), (.agg #[(.int .u32 m.1), (.int .u32 m.2.1), (.bool m.2.2.1)])]) (show [some (V 0), some (V 1)] = [some (.agg #[(.int .u32 l.1), (.int .u32 l.2.1), (.bool l.2.2.1)]), some (.agg #[(.int .u32 m.1), (.int .u32 m.2.1), (.bool m.2.2.1)])] from by rw [h0, h1]) Try.func31 (by kernel_rfl) (by kernel_rfl) (fits_any l m _)) (fun _ _ h => ⟨h.2, h.1, nofr rfl⟩)
        refine ⟨fun wu3 hC hd => ?_, ?_⟩
        · clear hd
          replace hb := hb.trans (hC.mono hb.size)
          replace hk1 := blk_ext hk1 hC
          replace hk2 := blk_ext hk2 hC
          replace hk3 := blk_ext hk3 hC
          replace hk4 := blk_ext hk4 hC
          replace hr1 := Row.ext hr1 hC
          exact Runs.does (r_loadA (cs := [(.int .u32 m.1), (.int .u32 m.2.1), (.bool m.2.2.1)]) rfl Try.underlying43 rfl (by kernel_rfl) (cellsAt_blk hk3)) ⟨Below.refl _ _, rfl, nofr rfl⟩
        refine ⟨fun wu4 hC hd => ?_, ?_⟩
        · clear hd
          replace hb := hb.trans (hC.mono hb.size)
          replace hk1 := blk_ext hk1 hC
          replace hk2 := blk_ext hk2 hC
          replace hk3 := blk_ext hk3 hC
          replace hk4 := blk_ext hk4 hC
          replace hr1 := Row.ext hr1 hC
          exact Runs.does (r_loadA (cs := [(.int .u32 n.1), (.int .u32 n.2.1), (.bool n.2.2.1)]) rfl Try.underlying43 rfl (by kernel_rfl) (cellsAt_blk hk4)) ⟨Below.refl _ _, rfl, nofr rfl⟩
        refine ⟨fun wu5 hC hd => ?_, ?_⟩
        · obtain ⟨h2, h3, h4, _⟩ := hd
          skip
          skip
          skip
          replace h2 : V 2 = (.bool (fitsP l m)) := h2
          replace h3 : V 3 = (.agg #[(.int .u32 m.1), (.int .u32 m.2.1), (.bool m.2.2.1)]) := h3
          replace h4 : V 4 = (.agg #[(.int .u32 n.1), (.int .u32 n.2.1), (.bool n.2.2.1)]) := h4
          replace hb := hb.trans (hC.mono hb.size)
          replace hk1 := blk_ext hk1 hC
          replace hk2 := blk_ext hk2 hC
          replace hk3 := blk_ext hk3 hC
          replace hk4 := blk_ext hk4 hC
          replace hr1 := Row.ext hr1 hC
          refine Does.mono (d_callB (vs := [(.agg #[(.int .u32 m.1), (.int .u32 m.2.1), (.bool m.2.2.1)]), (.agg #[(.int .u32 n.1), (.int .u32 n.2.1), (.bool n.2.2.1)])]) (show [some (V 3), some (V 4)] = [some (.agg #[(.int .u32 m.1), (.int .u32 m.2.1), (.bool m.2.2.1)]), some (.agg #[(.int .u32 n.1), (.int .u32 n.2.1), (.bool n.2.2.1)])] from by rw [h3, h4]) Try.func31 (by kernel_rfl) (by kernel_rfl) (fits_any m n _)) (fun _ _ h => ⟨h.2, h.1, nofr rfl⟩)
        refine ⟨fun wu6 hC hd => ?_, ?_⟩
        · clear hd
          replace hb := hb.trans (hC.mono hb.size)
          replace hk1 := blk_ext hk1 hC
          replace hk2 := blk_ext hk2 hC
          replace hk3 := blk_ext hk3 hC
          replace hk4 := blk_ext hk4 hC
          replace hr1 := Row.ext hr1 hC
          exact Runs.does (r_loadA (cs := [(.int .u32 l.1), (.int .u32 l.2.1), (.bool l.2.2.1)]) rfl Try.underlying43 rfl (by kernel_rfl) (cellsAt_blk hk2)) ⟨Below.refl _ _, rfl, nofr rfl⟩
        refine ⟨fun wu7 hC hd => ?_, ?_⟩
        · clear hd
          replace hb := hb.trans (hC.mono hb.size)
          replace hk1 := blk_ext hk1 hC
          replace hk2 := blk_ext hk2 hC
          replace hk3 := blk_ext hk3 hC
          replace hk4 := blk_ext hk4 hC
          replace hr1 := Row.ext hr1 hC
          exact Runs.does (r_loadA (cs := [(.int .u32 n.1), (.int .u32 n.2.1), (.bool n.2.2.1)]) rfl Try.underlying43 rfl (by kernel_rfl) (cellsAt_blk hk4)) ⟨Below.refl _ _, rfl, nofr rfl⟩
        refine ⟨fun wu8 hC hd => ?_, ?_⟩
        · obtain ⟨h5, h6, h7, _⟩ := hd
          skip
          skip
          skip
          replace h5 : V 5 = (.bool (fitsP m n)) := h5
          replace h6 : V 6 = (.agg #[(.int .u32 l.1), (.int .u32 l.2.1), (.bool l.2.2.1)]) := h6
          replace h7 : V 7 = (.agg #[(.int .u32 n.1), (.int .u32 n.2.1), (.bool n.2.2.1)]) := h7
          replace hb := hb.trans (hC.mono hb.size)
          replace hk1 := blk_ext hk1 hC
          replace hk2 := blk_ext hk2 hC
          replace hk3 := blk_ext hk3 hC
          replace hk4 := blk_ext hk4 hC
          replace hr1 := Row.ext hr1 hC
          refine Does.mono (d_callB (vs := [(.agg #[(.int .u32 l.1), (.int .u32 l.2.1), (.bool l.2.2.1)]), (.agg #[(.int .u32 n.1), (.int .u32 n.2.1), (.bool n.2.2.1)])]) (show [some (V 6), some (V 7)] = [some (.agg #[(.int .u32 l.1), (.int .u32 l.2.1), (.bool l.2.2.1)]), some (.agg #[(.int .u32 n.1), (.int .u32 n.2.1), (.bool n.2.2.1)])] from by rw [h6, h7]) Try.func31 (by kernel_rfl) (by kernel_rfl) (fits_any l n _)) (fun _ _ h => ⟨h.2, h.1, nofr rfl⟩)
        refine ⟨fun wu9 hC hd => ?_, ?_⟩
        · obtain ⟨h0, h1, h2, h8, _⟩ := hd
          skip
          skip
          skip
          skip
          replace h0 : V 0 = (.agg #[(.int .u32 l.1), (.int .u32 l.2.1), (.bool l.2.2.1)]) := h0
          replace h1 : V 1 = (.agg #[(.int .u32 m.1), (.int .u32 m.2.1), (.bool m.2.2.1)]) := h1
          replace h2 : V 2 = (.bool (fitsP l m)) := h2
          replace h8 : V 8 = (.bool (fitsP l n)) := h8
          replace hb := hb.trans (hC.mono hb.size)
          replace hk1 := blk_ext hk1 hC
          replace hk2 := blk_ext hk2 hC
          replace hk3 := blk_ext hk3 hC
          replace hk4 := blk_ext hk4 hC
          replace hr1 := Row.ext hr1 hC
          exact Runs.does (r_assign (congrArg some h2)) ⟨Below.refl _ _, rfl, nofr rfl⟩
        refine ⟨fun wu10 hC hd => ?_, ?_⟩
        · obtain ⟨h0, h1, h2, h3, h4, h5, h9, _⟩ := hd
          skip
          skip
          skip
          skip
          skip
          skip
          skip
          replace h0 : V 0 = (.agg #[(.int .u32 l.1), (.int .u32 l.2.1), (.bool l.2.2.1)]) := h0
          replace h1 : V 1 = (.agg #[(.int .u32 m.1), (.int .u32 m.2.1), (.bool m.2.2.1)]) := h1
          replace h2 : V 2 = (.bool (fitsP l m)) := h2
          replace h3 : V 3 = (.agg #[(.int .u32 m.1), (.int .u32 m.2.1), (.bool m.2.2.1)]) := h3
          replace h4 : V 4 = (.agg #[(.int .u32 n.1), (.int .u32 n.2.1), (.bool n.2.2.1)]) := h4
          replace h5 : V 5 = (.bool (fitsP m n)) := h5
          replace h9 : V 9 = (.bool (fitsP l m)) := h9
          replace hb := hb.trans (hC.mono hb.size)
          replace hk1 := blk_ext hk1 hC
          replace hk2 := blk_ext hk2 hC
          replace hk3 := blk_ext hk3 hC
          replace hk4 := blk_ext hk4 hC
          replace hr1 := Row.ext hr1 hC
          exact Runs.does (r_assign (congrArg some h5)) ⟨Below.refl _ _, rfl, nofr rfl⟩
        refine ⟨fun wu11 hC hd => ?_, ?_⟩
        · obtain ⟨h0, h1, h2, h3, h4, h5, h6, h7, h8, h9, h10, _⟩ := hd
          skip
          skip
          skip
          skip
          skip
          skip
          skip
          skip
          skip
          skip
          skip
          replace h0 : V 0 = (.agg #[(.int .u32 l.1), (.int .u32 l.2.1), (.bool l.2.2.1)]) := h0
          replace h1 : V 1 = (.agg #[(.int .u32 m.1), (.int .u32 m.2.1), (.bool m.2.2.1)]) := h1
          replace h2 : V 2 = (.bool (fitsP l m)) := h2
          replace h3 : V 3 = (.agg #[(.int .u32 m.1), (.int .u32 m.2.1), (.bool m.2.2.1)]) := h3
          replace h4 : V 4 = (.agg #[(.int .u32 n.1), (.int .u32 n.2.1), (.bool n.2.2.1)]) := h4
          replace h5 : V 5 = (.bool (fitsP m n)) := h5
          replace h6 : V 6 = (.agg #[(.int .u32 l.1), (.int .u32 l.2.1), (.bool l.2.2.1)]) := h6
          replace h7 : V 7 = (.agg #[(.int .u32 n.1), (.int .u32 n.2.1), (.bool n.2.2.1)]) := h7
          replace h8 : V 8 = (.bool (fitsP l n)) := h8
          replace h9 : V 9 = (.bool (fitsP l m)) := h9
          replace h10 : V 10 = (.bool (fitsP m n)) := h10
          replace hb := hb.trans (hC.mono hb.size)
          replace hk1 := blk_ext hk1 hC
          replace hk2 := blk_ext hk2 hC
          replace hk3 := blk_ext hk3 hC
          replace hk4 := blk_ext hk4 hC
          replace hr1 := Row.ext hr1 hC
          exact Runs.does (r_assign (congrArg some h8)) ⟨Below.refl _ _, rfl, nofr rfl⟩
        trivial
      · skip
        clear hf fa; intro V w6 fa he6 hp hnb hf
        have hv0 : V 0 = (.agg #[(.int .u32 l.1), (.int .u32 l.2.1), (.bool l.2.2.1)]) := postsHold_at hp 0 rfl
        have hv1 : V 1 = (.agg #[(.int .u32 m.1), (.int .u32 m.2.1), (.bool m.2.2.1)]) := postsHold_at hp 1 rfl
        have hv2 : V 2 = (.bool (fitsP l m)) := postsHold_at hp 2 rfl
        have hv3 : V 3 = (.agg #[(.int .u32 m.1), (.int .u32 m.2.1), (.bool m.2.2.1)]) := postsHold_at hp 3 rfl
        have hv4 : V 4 = (.agg #[(.int .u32 n.1), (.int .u32 n.2.1), (.bool n.2.2.1)]) := postsHold_at hp 4 rfl
        have hv5 : V 5 = (.bool (fitsP m n)) := postsHold_at hp 5 rfl
        have hv6 : V 6 = (.agg #[(.int .u32 l.1), (.int .u32 l.2.1), (.bool l.2.2.1)]) := postsHold_at hp 6 rfl
        have hv7 : V 7 = (.agg #[(.int .u32 n.1), (.int .u32 n.2.1), (.bool n.2.2.1)]) := postsHold_at hp 7 rfl
        have hv8 : V 8 = (.bool (fitsP l n)) := postsHold_at hp 8 rfl
        have hv9 : V 9 = (.bool (fitsP l m)) := postsHold_at hp 9 rfl
        have hv10 : V 10 = (.bool (fitsP m n)) := postsHold_at hp 10 rfl
        have hv11 : V 11 = (.bool (fitsP l n)) := postsHold_at hp 11 rfl
        simp only [List.take_succ_cons, List.take_zero, insAll, ins, hv0, hv1, hv2, hv3, hv4, hv5, hv6, hv7, hv8, hv9, hv10, hv11] at hf
        clear hp hnb hv0 hv1 hv2 hv3 hv4 hv5 hv6 hv7 hv8 hv9 hv10 hv11
        replace hk1 := blk_ext hk1 he6
        replace hk2 := blk_ext hk2 he6
        replace hk3 := blk_ext hk3 he6
        replace hk4 := blk_ext hk4 he6
        replace hr1 := Row.ext hr1 he6
        replace hb := hb.trans (Below.mono he6 hb.size)
        (try simp only [Exit.then, Exit.inBlock, ↓reduceIte, Nat.reduceEqDiff])
        refine hK9 _ _ ?_
        refine wp_seq_k (fun K10 hK10 => ?_)
        refine wp_region_lit ?_
        refine sqv hf (r_move rfl) rfl rfl rfl ?_; clear hf fa; intro fa hf
        refine sqv hf (r_move rfl) rfl rfl rfl ?_; clear hf fa; intro fa hf
        refine sqv hf (Runs.veq (r_beq Try.underlying4 rfl rfl) (congrArg Value.bool (show _ = true from (beq_iff_eq.2 rfl)))) rfl rfl rfl ?_; clear hf fa; intro fa hf
        refine sqv hf (r_move rfl) rfl rfl rfl ?_; clear hf fa; intro fa hf
        refine sqgd (act := true) (g := 3) (want := true) (ag := true) (c := true) hf (by rfl) (by rfl) rfl (fun _ =>  Runs.does (R := fun vq wq => vq = (.bool (fitsP l m)) ∧ w6 = wq) (r_move rfl) ⟨rfl, rfl⟩) (fun h => by cases h) rfl ?_; clear hf fa; rintro fa _ _ ⟨rfl, rfl⟩ hf
        change Fr _ _ ((81, (.bool (fitsP l m))) :: _) at hf
        refine sqgd (act := true) (g := 3) (want := true) (ag := true) (c := true) hf (by rfl) (by rfl) rfl (fun _ =>  Runs.does (R := fun vq wq => vq = (.bool (!(fitsP l m))) ∧ w6 = wq) (r_not rfl) ⟨rfl, rfl⟩) (fun h => by cases h) rfl ?_; clear hf fa; rintro fa _ _ ⟨rfl, rfl⟩ hf
        change Fr _ _ ((82, (.bool (!(fitsP l m)))) :: _) at hf
        refine sqgd (act := true) (g := 3) (want := true) (ag := true) (c := true) hf (by rfl) (by rfl) rfl (fun _ =>  Runs.does (R := fun vq wq => vq = (.bool (!(fitsP l m))) ∧ w6 = wq) (r_move rfl) ⟨rfl, rfl⟩) (fun h => by cases h) rfl ?_; clear hf fa; rintro fa _ _ ⟨rfl, rfl⟩ hf
        change Fr _ _ ((83, (.bool (!(fitsP l m)))) :: _) at hf
        refine sqgF (act := (!(!(fitsP l m)))) (ag := true) (c := (!(fitsP l m))) (v := (.bool (fitsP m n))) hf rfl rfl rfl (fun hact => (r_move rfl)) rfl rfl ?_; clear hf fa; intro fa hf
        refine sqgF (act := (!(!(fitsP l m)))) (ag := true) (c := (!(fitsP l m))) (v := (.bool (!(fitsP m n)))) hf rfl rfl rfl (fun hact => (r_not (gb_ev hact rfl))) rfl rfl ?_; clear hf fa; intro fa hf
        refine sqgd (act := true) (g := 3) (want := true) (ag := true) (c := true) hf (by rfl) (by rfl) rfl (fun _ =>  Runs.does (R := fun vq wq => vq = (.bool ((!(fitsP l m)) || (!(fitsP m n)))) ∧ w6 = wq) (r_pickO (b := (!(fitsP l m))) (e := (!(fitsP m n))) rfl rfl rfl) ⟨rfl, rfl⟩) (fun h => by cases h) rfl ?_; clear hf fa; rintro fa _ _ ⟨rfl, rfl⟩ hf
        change Fr _ _ ((86, (.bool ((!(fitsP l m)) || (!(fitsP m n))))) :: _) at hf
        refine sqgd (act := true) (g := 3) (want := true) (ag := true) (c := true) hf (by rfl) (by rfl) rfl (fun _ =>  Runs.does (R := fun vq wq => vq = (.bool ((!(fitsP l m)) || (!(fitsP m n)))) ∧ w6 = wq) (r_move rfl) ⟨rfl, rfl⟩) (fun h => by cases h) rfl ?_; clear hf fa; rintro fa _ _ ⟨rfl, rfl⟩ hf
        change Fr _ _ ((87, (.bool ((!(fitsP l m)) || (!(fitsP m n))))) :: _) at hf
        refine sqgF (act := (!((!(fitsP l m)) || (!(fitsP m n))))) (ag := true) (c := ((!(fitsP l m)) || (!(fitsP m n)))) (v := (.bool (fitsP l n))) hf rfl rfl rfl (fun hact => (r_move rfl)) rfl rfl ?_; clear hf fa; intro fa hf
        refine sqgd (act := true) (g := 3) (want := true) (ag := true) (c := true) hf (by rfl) (by rfl) rfl (fun _ =>  Runs.does (R := fun vq wq => vq = (.bool true) ∧ w6 = wq) (Runs.veq (r_pickO (b := ((!(fitsP l m)) || (!(fitsP m n)))) (e := (fitsP l n)) rfl rfl rfl) (congrArg Value.bool (show _ = true from (by rw [Bool.or_assoc]; exact fits_law l m n)))) ⟨rfl, rfl⟩) (fun h => by cases h) rfl ?_; clear hf fa; rintro fa _ _ ⟨rfl, rfl⟩ hf
        change Fr _ _ ((89, (.bool true)) :: _) at hf
        refine sqv hf (r_pick (b := true) rfl rfl rfl rfl) rfl rfl rfl ?_; clear hf fa; intro fa hf
        refine sqv hf (r_move rfl) rfl rfl rfl ?_; clear hf fa; intro fa hf
        refine sqgd (act := true) (g := 14) (want := true) (ag := true) (c := true) hf (by rfl) (by rfl) rfl (fun _ =>  Runs.does (R := fun vq wq => vq = (.agg #[(.int .u32 l.1), (.int .u32 l.2.1), (.bool l.2.2.1)]) ∧ w6 = wq) (r_loadA (cs := [(.int .u32 l.1), (.int .u32 l.2.1), (.bool l.2.2.1)]) rfl Try.underlying43 rfl (by kernel_rfl) (cellsAt_blk hk2)) ⟨rfl, rfl⟩) (fun h => by cases h) rfl ?_; clear hf fa; rintro fa _ _ ⟨rfl, rfl⟩ hf
        change Fr _ _ ((92, (.agg #[(.int .u32 l.1), (.int .u32 l.2.1), (.bool l.2.2.1)])) :: _) at hf
        refine sqgd (act := true) (g := 14) (want := true) (ag := true) (c := true) hf (by rfl) (by rfl) rfl (fun _ =>  Runs.does (R := fun vq wq => vq = (.agg #[(.int .u32 l.1), (.int .u32 l.2.1), (.bool l.2.2.1)]) ∧ w6 = wq) (r_loadA (cs := [(.int .u32 l.1), (.int .u32 l.2.1), (.bool l.2.2.1)]) rfl Try.underlying43 rfl (by kernel_rfl) (cellsAt_blk hk2)) ⟨rfl, rfl⟩) (fun h => by cases h) rfl ?_; clear hf fa; rintro fa _ _ ⟨rfl, rfl⟩ hf
        change Fr _ _ ((93, (.agg #[(.int .u32 l.1), (.int .u32 l.2.1), (.bool l.2.2.1)])) :: _) at hf
        refine sqgd (act := true) (g := 14) (want := true) (ag := true) (c := true) hf (by rfl) (by rfl) rfl (fun _ =>  (d_callB (vs := [(.agg #[(.int .u32 l.1), (.int .u32 l.2.1), (.bool l.2.2.1)]), (.agg #[(.int .u32 l.1), (.int .u32 l.2.1), (.bool l.2.2.1)])]) rfl Try.func31 (by kernel_rfl) (by kernel_rfl) (fits_self l _)) ) (fun h => by cases h) rfl ?_; clear hf fa; rintro fa _ w7 ⟨rfl, he7⟩ hf
        replace hk1 := blk_ext hk1 he7
        replace hk2 := blk_ext hk2 he7
        replace hk3 := blk_ext hk3 he7
        replace hk4 := blk_ext hk4 he7
        replace hr1 := Row.ext hr1 he7
        replace hb := hb.trans (Below.mono he7 hb.size)
        change Fr _ _ ((94, (.bool true)) :: _) at hf
        refine sqv hf (r_pick (b := true) rfl rfl rfl rfl) rfl rfl rfl ?_; clear hf fa; intro fa hf
        refine sqv hf (r_assign rfl) rfl rfl rfl ?_; clear hf fa; intro fa hf
        apply wpList_nil
        (try simp only [Exit.then, Exit.inBlock, ↓reduceIte, Nat.reduceEqDiff])
        refine hK10 _ _ ?_
        refine wp_ret ?_
        (try simp only [Exit.then, Exit.inBlock])
        refine ret1 hf rfl rfl ?_
        exact ⟨rfl, hb⟩
end Go.Proofs.Ytcmdajkkdognfaa
