/- What is proved here: a module in lines, by the document. What is proved here: the law TextOutlines is true. What is proved here: the statement TextOutlines, for every input. -/
import Derived.Test.YtpalmpfkliepfaaTextOutlinesMgAD
import Derived.Test.YtpalmpfkliepfaaRows
import Derived.Test.YtpalmpfkliepfaaTextOutlinesMgAA
import Derived.ProofKit
import Derived.OpenShut
import Derived.ShutString
import Derived.ChangeOld
import Derived.Below
namespace Go.Proofs.Ytpalmpfkliepfaa
open Go.RowKit Ut
set_option linter.unusedVariables false
set_option linter.unusedSimpArgs false
set_option maxHeartbeats 8000000 in
set_option maxRecDepth 100000 in
theorem routline_any (m : MMd) (w : World) (g : fMMd w m) (hS : smallP m = true) : Calls Try.prog 11 #[(.agg #[(.slice m.1.at' m.1.len m.1.cap), (.slice m.2.1.at' m.2.1.len m.2.1.cap), (.slice m.2.2.1.at' m.2.2.1.len m.2.2.1.cap), (.slice m.2.2.2.1.at' m.2.2.2.1.len m.2.2.2.1.cap), (.slice m.2.2.2.2.1.at' m.2.2.2.2.1.len m.2.2.2.2.1.cap), (.slice m.2.2.2.2.2.1.at' m.2.2.2.2.2.1.len m.2.2.2.2.2.1.cap), (.slice m.2.2.2.2.2.2.1.at' m.2.2.2.2.2.2.1.len m.2.2.2.2.2.2.1.cap), (.int .i64 m.2.2.2.2.2.2.2.1), (.slice m.2.2.2.2.2.2.2.2.1.at' m.2.2.2.2.2.2.2.2.1.len m.2.2.2.2.2.2.2.2.1.cap), (.slice m.2.2.2.2.2.2.2.2.2.1.at' m.2.2.2.2.2.2.2.2.2.1.len m.2.2.2.2.2.2.2.2.2.1.cap), (.slice m.2.2.2.2.2.2.2.2.2.2.1.at' m.2.2.2.2.2.2.2.2.2.2.1.len m.2.2.2.2.2.2.2.2.2.2.1.cap), (.bool m.2.2.2.2.2.2.2.2.2.2.2.1.1), (.int .u32 m.2.2.2.2.2.2.2.2.2.2.2.1.2.1), (.int .u32 m.2.2.2.2.2.2.2.2.2.2.2.1.2.2.1), (.int .u32 m.2.2.2.2.2.2.2.2.2.2.2.1.2.2.2.1), (.int .u32 m.2.2.2.2.2.2.2.2.2.2.2.1.2.2.2.2.1), (.slice m.2.2.2.2.2.2.2.2.2.2.2.1.2.2.2.2.2.1.at' m.2.2.2.2.2.2.2.2.2.2.2.1.2.2.2.2.2.1.len m.2.2.2.2.2.2.2.2.2.2.2.1.2.2.2.2.2.1.cap)])] w fun e w' => ∃ v, e = .returned v ∧ Row 1 vStr 9 w.heap.size w' v (outL m) ∧ Below w.heap.size w w' := by
  have hz_m0 := g.1.1; have hl_m0 := g.1.2.1; have hm_m0 := g.1.2.2.1; have hn_m0 := g.1.2.2.2.1; (try unfold maxLen at hm_m0)
  have hz_m1 := g.2.1.1; have hl_m1 := g.2.1.2.1; have hm_m1 := g.2.1.2.2.1; have hn_m1 := g.2.1.2.2.2.1; (try unfold maxLen at hm_m1)
  have hz_m2 := g.2.2.2.2.2.2.1.1; have hl_m2 := g.2.2.2.2.2.2.1.2.1; have hm_m2 := g.2.2.2.2.2.2.1.2.2.1; have hn_m2 := g.2.2.2.2.2.2.1.2.2.2.1; (try unfold maxLen at hm_m2)
  have hz_m3 := g.2.2.2.2.2.2.2.2.2.2.2.1.2.2.2.2.2.1.1; have hl_m3 := g.2.2.2.2.2.2.2.2.2.2.2.1.2.2.2.2.2.1.2.1; have hm_m3 := g.2.2.2.2.2.2.2.2.2.2.2.1.2.2.2.2.2.1.2.2.1; have hn_m3 := g.2.2.2.2.2.2.2.2.2.2.2.1.2.2.2.2.2.1.2.2.2.1; (try unfold maxLen at hm_m3)
  have hz_m4 := g.2.2.1.1; have hl_m4 := g.2.2.1.2.1; have hm_m4 := g.2.2.1.2.2.1; have hn_m4 := g.2.2.1.2.2.2.1; (try unfold maxLen at hm_m4)
  have hz_m5 := g.2.2.2.2.2.1.1; have hl_m5 := g.2.2.2.2.2.1.2.1; have hm_m5 := g.2.2.2.2.2.1.2.2.1; have hn_m5 := g.2.2.2.2.2.1.2.2.2.1; (try unfold maxLen at hm_m5)
  have hz_m6 := g.2.2.2.2.2.2.2.2.1.1; have hl_m6 := g.2.2.2.2.2.2.2.2.1.2.1; have hm_m6 := g.2.2.2.2.2.2.2.2.1.2.2.1; have hn_m6 := g.2.2.2.2.2.2.2.2.1.2.2.2.1; (try unfold maxLen at hm_m6)
  have hz_m7 := g.2.2.2.2.2.2.2.2.2.2.1.1; have hl_m7 := g.2.2.2.2.2.2.2.2.2.2.1.2.1; have hm_m7 := g.2.2.2.2.2.2.2.2.2.2.1.2.2.1; have hn_m7 := g.2.2.2.2.2.2.2.2.2.2.1.2.2.2.1; (try unfold maxLen at hm_m7)
  obtain ⟨hL, hX⟩ := small_out hS
  obtain ⟨hT1, hT2, hT3, hT4⟩ := texts_out hX
  have ho := outs_len m hL
  unfold lensP at hL
  have hr1 := fInt_u32 g.2.2.2.2.2.2.2.2.2.2.2.1.2.1
  have hr2 := fInt_u32 g.2.2.2.2.2.2.2.2.2.2.2.1.2.2.1
  have hr3 := fInt_u32 g.2.2.2.2.2.2.2.2.2.2.2.1.2.2.2.1
  have hr4 := fInt_u32 g.2.2.2.2.2.2.2.2.2.2.2.1.2.2.2.2.1
  have hda0 := dS_len (n := m.2.2.2.2.2.2.2.2.2.2.2.1.2.1) (inI_u32 (by omega))
  have hda1 := dS_len (n := m.2.2.2.2.2.2.2.2.2.2.2.1.2.2.1) (inI_u32 (by omega))
  have hda2 := dS_len (n := m.2.2.2.2.2.2.2.2.2.2.2.1.2.2.2.1) (inI_u32 (by omega))
  have hda3 := dS_len (n := m.2.2.2.2.2.2.2.2.2.2.2.1.2.2.2.2.1) (inI_u32 (by omega))
  have hdb0 := dS_len (n := ((m.2.2.1.len : Nat) : Int)) (inI_u32 (by omega))
  have hdb1 := dS_len (n := ((m.2.2.2.2.2.1.len : Nat) : Int)) (inI_u32 (by omega))
  have hdb2 := dS_len (n := ((m.2.2.2.2.2.2.2.2.1.len : Nat) : Int)) (inI_u32 (by omega))
  have hdb3 := dS_len (n := ((m.2.2.2.2.2.2.2.2.2.2.1.len : Nat) : Int)) (inI_u32 (by omega))
  have hd4 : ∀ y ∈ [m.2.2.2.2.2.2.2.2.2.2.2.1.2.1, m.2.2.2.2.2.2.2.2.2.2.2.1.2.2.1, m.2.2.2.2.2.2.2.2.2.2.2.1.2.2.2.1, m.2.2.2.2.2.2.2.2.2.2.2.1.2.2.2.2.1], (dS y).size ≤ 20 := by
    intro y hy
    simp only [List.mem_cons, List.not_mem_nil, or_false] at hy
    rcases hy with rfl | rfl | rfl | rfl <;> assumption
  have hd5 : (foldD dS (⟨#[100, 121, 108, 105, 110, 107]⟩ : ByteArray) [m.2.2.2.2.2.2.2.2.2.2.2.1.2.1, m.2.2.2.2.2.2.2.2.2.2.2.1.2.2.1, m.2.2.2.2.2.2.2.2.2.2.2.1.2.2.2.1, m.2.2.2.2.2.2.2.2.2.2.2.1.2.2.2.2.1]).size ≤ 90 := by have h := foldD_len (f := dS) [m.2.2.2.2.2.2.2.2.2.2.2.1.2.1, m.2.2.2.2.2.2.2.2.2.2.2.1.2.2.1, m.2.2.2.2.2.2.2.2.2.2.2.1.2.2.2.1, m.2.2.2.2.2.2.2.2.2.2.2.1.2.2.2.2.1] (⟨#[100, 121, 108, 105, 110, 107]⟩ : ByteArray) hd4; exact h
  have hdN : ∀ y ∈ m.2.2.2.2.2.2.2.2.2.2.2.1.2.2.2.2.2.1.list, (shS y).size ≤ 902 := by intro y hy; have := hT4 y hy; have := shS_len y; omega
  refine sx_enter (L := [(0, (.agg #[(.slice m.1.at' m.1.len m.1.cap), (.slice m.2.1.at' m.2.1.len m.2.1.cap), (.slice m.2.2.1.at' m.2.2.1.len m.2.2.1.cap), (.slice m.2.2.2.1.at' m.2.2.2.1.len m.2.2.2.1.cap), (.slice m.2.2.2.2.1.at' m.2.2.2.2.1.len m.2.2.2.2.1.cap), (.slice m.2.2.2.2.2.1.at' m.2.2.2.2.2.1.len m.2.2.2.2.2.1.cap), (.slice m.2.2.2.2.2.2.1.at' m.2.2.2.2.2.2.1.len m.2.2.2.2.2.2.1.cap), (.int .i64 m.2.2.2.2.2.2.2.1), (.slice m.2.2.2.2.2.2.2.2.1.at' m.2.2.2.2.2.2.2.2.1.len m.2.2.2.2.2.2.2.2.1.cap), (.slice m.2.2.2.2.2.2.2.2.2.1.at' m.2.2.2.2.2.2.2.2.2.1.len m.2.2.2.2.2.2.2.2.2.1.cap), (.slice m.2.2.2.2.2.2.2.2.2.2.1.at' m.2.2.2.2.2.2.2.2.2.2.1.len m.2.2.2.2.2.2.2.2.2.2.1.cap), (.bool m.2.2.2.2.2.2.2.2.2.2.2.1.1), (.int .u32 m.2.2.2.2.2.2.2.2.2.2.2.1.2.1), (.int .u32 m.2.2.2.2.2.2.2.2.2.2.2.1.2.2.1), (.int .u32 m.2.2.2.2.2.2.2.2.2.2.2.1.2.2.2.1), (.int .u32 m.2.2.2.2.2.2.2.2.2.2.2.1.2.2.2.2.1), (.slice m.2.2.2.2.2.2.2.2.2.2.2.1.2.2.2.2.2.1.at' m.2.2.2.2.2.2.2.2.2.2.2.1.2.2.2.2.2.1.len m.2.2.2.2.2.2.2.2.2.2.2.1.2.2.2.2.2.1.cap)]))]) Try.func11 rfl rfl rfl rfl (fun fa hf => ?_)
  have hb : Below w.heap.size w w := Below.refl _ _
  refine wp_seq_k (fun K1 hK1 => ?_)
  refine wp_region_lit ?_
  refine sqdt hf (d_box (cs := #[(.slice m.1.at' m.1.len m.1.cap), (.slice m.2.1.at' m.2.1.len m.2.1.cap), (.slice m.2.2.1.at' m.2.2.1.len m.2.2.1.cap), (.slice m.2.2.2.1.at' m.2.2.2.1.len m.2.2.2.1.cap), (.slice m.2.2.2.2.1.at' m.2.2.2.2.1.len m.2.2.2.2.1.cap), (.slice m.2.2.2.2.2.1.at' m.2.2.2.2.2.1.len m.2.2.2.2.2.1.cap), (.slice m.2.2.2.2.2.2.1.at' m.2.2.2.2.2.2.1.len m.2.2.2.2.2.2.1.cap), (.int .i64 m.2.2.2.2.2.2.2.1), (.slice m.2.2.2.2.2.2.2.2.1.at' m.2.2.2.2.2.2.2.2.1.len m.2.2.2.2.2.2.2.2.1.cap), (.slice m.2.2.2.2.2.2.2.2.2.1.at' m.2.2.2.2.2.2.2.2.2.1.len m.2.2.2.2.2.2.2.2.2.1.cap), (.slice m.2.2.2.2.2.2.2.2.2.2.1.at' m.2.2.2.2.2.2.2.2.2.2.1.len m.2.2.2.2.2.2.2.2.2.2.1.cap), (.bool m.2.2.2.2.2.2.2.2.2.2.2.1.1), (.int .u32 m.2.2.2.2.2.2.2.2.2.2.2.1.2.1), (.int .u32 m.2.2.2.2.2.2.2.2.2.2.2.1.2.2.1), (.int .u32 m.2.2.2.2.2.2.2.2.2.2.2.1.2.2.2.1), (.int .u32 m.2.2.2.2.2.2.2.2.2.2.2.1.2.2.2.2.1), (.slice m.2.2.2.2.2.2.2.2.2.2.2.1.2.2.2.2.2.1.at' m.2.2.2.2.2.2.2.2.2.2.2.1.2.2.2.2.2.1.len m.2.2.2.2.2.2.2.2.2.2.2.1.2.2.2.2.2.1.cap)]) rfl rfl) rfl rfl rfl ?_; clear hf fa; rintro fa _ w1 ⟨b1, rfl, hle1, hk1, he1⟩ hf
  have hBb1 : w.heap.size ≤ b1 := Nat.le_trans hb.size hle1
  replace hb := hb.trans (Below.mono he1 hb.size)
  refine sqv hf (r_assign rfl) rfl rfl rfl ?_; clear hf fa; intro fa hf
  apply wpList_nil
  (try simp only [Exit.then, Exit.inBlock, ↓reduceIte, Nat.reduceEqDiff])
  refine hK1 _ _ ?_
  refine wp_seq_k (fun K2 hK2 => ?_)
  refine wp_region_lit ?_
  refine sqv hf (r_assign rfl) rfl rfl rfl ?_; clear hf fa; intro fa hf
  apply wpList_nil
  (try simp only [Exit.then, Exit.inBlock, ↓reduceIte, Nat.reduceEqDiff])
  refine hK2 _ _ ?_
  refine wp_cut_k (fun fa wr => ∃ (roa : Option Addr) (roc : Nat), Fr 168 fa [(1, (.pointer (some ⟨b1, 0, none⟩))), (3, (.slice roa ((hdL m).length) roc))] ∧ Below w.heap.size w wr ∧ Row 1 vStr 9 (w.heap.size) wr (.slice roa (((hdL m)).length) roc) (hdL m) ∧ wr.heap[b1]? = some (.cells #[(.slice m.1.at' m.1.len m.1.cap), (.slice m.2.1.at' m.2.1.len m.2.1.cap), (.slice m.2.2.1.at' m.2.2.1.len m.2.2.1.cap), (.slice m.2.2.2.1.at' m.2.2.2.1.len m.2.2.2.1.cap), (.slice m.2.2.2.2.1.at' m.2.2.2.2.1.len m.2.2.2.2.1.cap), (.slice m.2.2.2.2.2.1.at' m.2.2.2.2.2.1.len m.2.2.2.2.2.1.cap), (.slice m.2.2.2.2.2.2.1.at' m.2.2.2.2.2.2.1.len m.2.2.2.2.2.2.1.cap), (.int .i64 m.2.2.2.2.2.2.2.1), (.slice m.2.2.2.2.2.2.2.2.1.at' m.2.2.2.2.2.2.2.2.1.len m.2.2.2.2.2.2.2.2.1.cap), (.slice m.2.2.2.2.2.2.2.2.2.1.at' m.2.2.2.2.2.2.2.2.2.1.len m.2.2.2.2.2.2.2.2.2.1.cap), (.slice m.2.2.2.2.2.2.2.2.2.2.1.at' m.2.2.2.2.2.2.2.2.2.2.1.len m.2.2.2.2.2.2.2.2.2.2.1.cap), (.bool m.2.2.2.2.2.2.2.2.2.2.2.1.1), (.int .u32 m.2.2.2.2.2.2.2.2.2.2.2.1.2.1), (.int .u32 m.2.2.2.2.2.2.2.2.2.2.2.1.2.2.1), (.int .u32 m.2.2.2.2.2.2.2.2.2.2.2.1.2.2.2.1), (.int .u32 m.2.2.2.2.2.2.2.2.2.2.2.1.2.2.2.2.1), (.slice m.2.2.2.2.2.2.2.2.2.2.2.1.2.2.2.2.2.1.at' m.2.2.2.2.2.2.2.2.2.2.2.1.2.2.2.2.2.1.len m.2.2.2.2.2.2.2.2.2.2.2.1.2.2.2.2.2.1.cap)] 36 (0, 0))) (fun KC1 hKC1 => ?_) ?_
  · skip
    refine wp_seq_k (fun K4 hK4 => ?_)
    refine wp_region_lit ?_
    refine sqv hf (r_fa rfl Try.underlying36 (f := 11) (q := 11) rfl (by kernel_rfl) rfl) rfl rfl rfl ?_; clear hf fa; intro fa hf
    refine sqv hf (r_fa rfl Try.underlying34 (f := 0) (q := 11) rfl (by kernel_rfl) rfl) rfl rfl rfl ?_; clear hf fa; intro fa hf
    refine sqv hf (r_load (v := (.bool m.2.2.2.2.2.2.2.2.2.2.2.1.1)) rfl Try.underlying4 rfl (cell_blk hk1 rfl)) rfl rfl rfl ?_; clear hf fa; intro fa hf
    apply wpList_nil
    (try simp only [Exit.then, Exit.inBlock, ↓reduceIte, Nat.reduceEqDiff])
    refine hK4 _ _ ?_
    refine wp_cond_split (t := m.2.2.2.2.2.2.2.2.2.2.2.1.1) (hf.ev rfl) (fun hqt14_1 => ?_) (fun hqt14_1 => ?_)
    · have hqt14_1b := hqt14_1
      try simp only [decide_eq_true_eq, Bool.and_eq_true, Bool.or_eq_true, Bool.not_eq_true', decide_eq_false_iff_not, ne_eq, Bool.not_eq_true] at hqt14_1
      refine wp_seq_k (fun K5 hK5 => ?_)
      refine wp_region_lit ?_
      refine sqv hf (r_fa rfl Try.underlying36 (f := 11) (q := 11) rfl (by kernel_rfl) rfl) rfl rfl rfl ?_; clear hf fa; intro fa hf
      refine sqv hf (r_loadA (cs := [(.bool m.2.2.2.2.2.2.2.2.2.2.2.1.1), (.int .u32 m.2.2.2.2.2.2.2.2.2.2.2.1.2.1), (.int .u32 m.2.2.2.2.2.2.2.2.2.2.2.1.2.2.1), (.int .u32 m.2.2.2.2.2.2.2.2.2.2.2.1.2.2.2.1), (.int .u32 m.2.2.2.2.2.2.2.2.2.2.2.1.2.2.2.2.1), (.slice m.2.2.2.2.2.2.2.2.2.2.2.1.2.2.2.2.2.1.at' m.2.2.2.2.2.2.2.2.2.2.2.1.2.2.2.2.2.1.len m.2.2.2.2.2.2.2.2.2.2.2.1.2.2.2.2.2.1.cap)]) rfl Try.underlying34 rfl (by kernel_rfl) (cellsAt_part (d := 11) (n := 6) (cellsAt_blk hk1) rfl rfl)) rfl rfl rfl ?_; clear hf fa; intro fa hf
      refine sqdt hf (d_alloc (z := (.agg #[(.bool false), (.int .u32 (0 : Int)), (.int .u32 (0 : Int)), (.int .u32 (0 : Int)), (.int .u32 (0 : Int)), (.slice none 0 0)])) (cs := #[(.bool false), (.int .u32 (0 : Int)), (.int .u32 (0 : Int)), (.int .u32 (0 : Int)), (.int .u32 (0 : Int)), (.slice none 0 0)]) (by kernel_rfl) rfl) rfl rfl rfl ?_; clear hf fa; rintro fa _ w2 ⟨b2, rfl, hle2, hk2, he2⟩ hf
      have hBb2 : w.heap.size ≤ b2 := Nat.le_trans hb.size hle2
      have : b1 < b2 := Nat.lt_of_lt_of_le (blk_lt hk1) hle2
      replace hk1 := blk_ext hk1 he2
      replace hb := hb.trans (Below.mono he2 hb.size)
      refine sqn hf (d_storeK (T := 34) (v := (.agg #[(.bool m.2.2.2.2.2.2.2.2.2.2.2.1.1), (.int .u32 m.2.2.2.2.2.2.2.2.2.2.2.1.2.1), (.int .u32 m.2.2.2.2.2.2.2.2.2.2.2.1.2.2.1), (.int .u32 m.2.2.2.2.2.2.2.2.2.2.2.1.2.2.2.1), (.int .u32 m.2.2.2.2.2.2.2.2.2.2.2.1.2.2.2.2.1), (.slice m.2.2.2.2.2.2.2.2.2.2.2.1.2.2.2.2.2.1.at' m.2.2.2.2.2.2.2.2.2.2.2.1.2.2.2.2.2.1.len m.2.2.2.2.2.2.2.2.2.2.2.1.2.2.2.2.2.1.cap)])) (cs := #[(.bool false), (.int .u32 (0 : Int)), (.int .u32 (0 : Int)), (.int .u32 (0 : Int)), (.int .u32 (0 : Int)), (.slice none 0 0)]) (cs' := #[(.bool m.2.2.2.2.2.2.2.2.2.2.2.1.1), (.int .u32 m.2.2.2.2.2.2.2.2.2.2.2.1.2.1), (.int .u32 m.2.2.2.2.2.2.2.2.2.2.2.1.2.2.1), (.int .u32 m.2.2.2.2.2.2.2.2.2.2.2.1.2.2.2.1), (.int .u32 m.2.2.2.2.2.2.2.2.2.2.2.1.2.2.2.2.1), (.slice m.2.2.2.2.2.2.2.2.2.2.2.1.2.2.2.2.2.1.at' m.2.2.2.2.2.2.2.2.2.2.2.1.2.2.2.2.2.1.len m.2.2.2.2.2.2.2.2.2.2.2.1.2.2.2.2.2.1.cap)]) rfl rfl (by kernel_rfl) (by kernel_rfl) hk2 (by kernel_rfl) (by kernel_rfl)) rfl rfl ?_; clear hf fa; rintro fa _ w3 ⟨hk3, hg1⟩ hf
      replace hk1 := blk_grown hk1 hg1 (by omega)
      replace hb := hb.trans (grown_below hg1 hb.size hBb2)
      apply wpList_nil
      (try simp only [Exit.then, Exit.inBlock, ↓reduceIte, Nat.reduceEqDiff])
      refine hK5 _ _ ?_
      refine wp_seq_k (fun K6 hK6 => ?_)
      refine wp_region_un (fun wq => Below w3.heap.size w3 wq) (fun w w' => Below w.heap.size w w')
        (fun V => [(fun x _ => x = (.pointer (some ⟨b2, 1, none⟩))), (fun x _ => x = (.int .u32 m.2.2.2.2.2.2.2.2.2.2.2.1.2.1)), (fun x _ => x = (.int .u64 m.2.2.2.2.2.2.2.2.2.2.2.1.2.1)), (fun x _ => x = (.string (dS m.2.2.2.2.2.2.2.2.2.2.2.1.2.1))), (fun x _ => x = (.string ((⟨#[100, 121, 108, 105, 110, 107, 32]⟩ : ByteArray) ++ (dS m.2.2.2.2.2.2.2.2.2.2.2.1.2.1)))), (fun x _ => x = (.string (((⟨#[100, 121, 108, 105, 110, 107, 32]⟩ : ByteArray) ++ (dS m.2.2.2.2.2.2.2.2.2.2.2.1.2.1)) ++ (⟨#[32]⟩ : ByteArray)))), (fun x _ => x = (.pointer (some ⟨b2, 2, none⟩))), (fun x _ => x = (.int .u32 m.2.2.2.2.2.2.2.2.2.2.2.1.2.2.1)), (fun x _ => x = (.int .u64 m.2.2.2.2.2.2.2.2.2.2.2.1.2.2.1)), (fun x _ => x = (.string (dS m.2.2.2.2.2.2.2.2.2.2.2.1.2.2.1))), (fun x _ => x = (.string ((((⟨#[100, 121, 108, 105, 110, 107, 32]⟩ : ByteArray) ++ (dS m.2.2.2.2.2.2.2.2.2.2.2.1.2.1)) ++ (⟨#[32]⟩ : ByteArray)) ++ (dS m.2.2.2.2.2.2.2.2.2.2.2.1.2.2.1)))), (fun x _ => x = (.string (((((⟨#[100, 121, 108, 105, 110, 107, 32]⟩ : ByteArray) ++ (dS m.2.2.2.2.2.2.2.2.2.2.2.1.2.1)) ++ (⟨#[32]⟩ : ByteArray)) ++ (dS m.2.2.2.2.2.2.2.2.2.2.2.1.2.2.1)) ++ (⟨#[32]⟩ : ByteArray)))), (fun x _ => x = (.pointer (some ⟨b2, 3, none⟩))), (fun x _ => x = (.int .u32 m.2.2.2.2.2.2.2.2.2.2.2.1.2.2.2.1)), (fun x _ => x = (.int .u64 m.2.2.2.2.2.2.2.2.2.2.2.1.2.2.2.1)), (fun x _ => x = (.string (dS m.2.2.2.2.2.2.2.2.2.2.2.1.2.2.2.1))), (fun x _ => x = (.string ((((((⟨#[100, 121, 108, 105, 110, 107, 32]⟩ : ByteArray) ++ (dS m.2.2.2.2.2.2.2.2.2.2.2.1.2.1)) ++ (⟨#[32]⟩ : ByteArray)) ++ (dS m.2.2.2.2.2.2.2.2.2.2.2.1.2.2.1)) ++ (⟨#[32]⟩ : ByteArray)) ++ (dS m.2.2.2.2.2.2.2.2.2.2.2.1.2.2.2.1)))), (fun x _ => x = (.string (((((((⟨#[100, 121, 108, 105, 110, 107, 32]⟩ : ByteArray) ++ (dS m.2.2.2.2.2.2.2.2.2.2.2.1.2.1)) ++ (⟨#[32]⟩ : ByteArray)) ++ (dS m.2.2.2.2.2.2.2.2.2.2.2.1.2.2.1)) ++ (⟨#[32]⟩ : ByteArray)) ++ (dS m.2.2.2.2.2.2.2.2.2.2.2.1.2.2.2.1)) ++ (⟨#[32]⟩ : ByteArray)))), (fun x _ => x = (.pointer (some ⟨b2, 4, none⟩))), (fun x _ => x = (.int .u32 m.2.2.2.2.2.2.2.2.2.2.2.1.2.2.2.2.1)), (fun x _ => x = (.int .u64 m.2.2.2.2.2.2.2.2.2.2.2.1.2.2.2.2.1)), (fun x _ => x = (.string (dS m.2.2.2.2.2.2.2.2.2.2.2.1.2.2.2.2.1))), (fun x _ => x = (.string ((((((((⟨#[100, 121, 108, 105, 110, 107, 32]⟩ : ByteArray) ++ (dS m.2.2.2.2.2.2.2.2.2.2.2.1.2.1)) ++ (⟨#[32]⟩ : ByteArray)) ++ (dS m.2.2.2.2.2.2.2.2.2.2.2.1.2.2.1)) ++ (⟨#[32]⟩ : ByteArray)) ++ (dS m.2.2.2.2.2.2.2.2.2.2.2.1.2.2.2.1)) ++ (⟨#[32]⟩ : ByteArray)) ++ (dS m.2.2.2.2.2.2.2.2.2.2.2.1.2.2.2.2.1)))), (fun x _ => x = (.string ((((((((⟨#[100, 121, 108, 105, 110, 107, 32]⟩ : ByteArray) ++ (dS m.2.2.2.2.2.2.2.2.2.2.2.1.2.1)) ++ (⟨#[32]⟩ : ByteArray)) ++ (dS m.2.2.2.2.2.2.2.2.2.2.2.1.2.2.1)) ++ (⟨#[32]⟩ : ByteArray)) ++ (dS m.2.2.2.2.2.2.2.2.2.2.2.1.2.2.2.1)) ++ (⟨#[32]⟩ : ByteArray)) ++ (dS m.2.2.2.2.2.2.2.2.2.2.2.1.2.2.2.2.1))))])
        []
        [[], [0], [1], [2], [3], [4], [], [6], [7], [3, 8], [5, 9], [10], [], [12], [13], [9, 14], [11, 15], [16], [], [18], [19], [15, 20], [17, 21], [0, 1, 2, 3, 4, 5, 6, 7, 8, 9, 10, 11, 12, 13, 14, 15, 16, 17, 18, 19, 20, 21, 22]]
        hf (by kernel_rfl) (by kernel_rfl) (fun _ => rfl) ((Below.refl _ _).drew) (fun a b h1 h2 => h1.trans (h2.mono h1.size)) (fun _ _ h => h.size) (fun V => ⟨kept_eq, kept_eq, kept_eq, kept_eq, kept_eq, kept_eq, kept_eq, kept_eq, kept_eq, kept_eq, kept_eq, kept_eq, kept_eq, kept_eq, kept_eq, kept_eq, kept_eq, kept_eq, kept_eq, kept_eq, kept_eq, kept_eq, kept_eq, kept_eq, trivial⟩) (fun _ _ _ _ _ => rfl) ?_ ?_
      · skip
        intro V
        refine ⟨fun wu0 hC hd => ?_, ?_⟩
        · clear hd
          replace hb := hb.trans (hC.mono hb.size)
          replace hk1 := blk_ext hk1 hC
          replace hk3 := blk_ext hk3 hC
          exact Runs.does (r_fa rfl Try.underlying34 (f := 1) (q := 1) rfl (by kernel_rfl) rfl) ⟨Below.refl _ _, rfl, nofr rfl⟩
        refine ⟨fun wu1 hC hd => ?_, ?_⟩
        · obtain ⟨h0, _⟩ := hd
          skip
          replace h0 : V 0 = (.pointer (some ⟨b2, 1, none⟩)) := h0
          replace hb := hb.trans (hC.mono hb.size)
          replace hk1 := blk_ext hk1 hC
          replace hk3 := blk_ext hk3 hC
          exact Runs.does (r_load (v := (.int .u32 m.2.2.2.2.2.2.2.2.2.2.2.1.2.1)) (congrArg some h0) Try.underlying31 rfl (cell_blk hk3 rfl)) ⟨Below.refl _ _, rfl, nofr rfl⟩
        refine ⟨fun wu2 hC hd => ?_, ?_⟩
        · obtain ⟨h1, _⟩ := hd
          skip
          replace h1 : V 1 = (.int .u32 m.2.2.2.2.2.2.2.2.2.2.2.1.2.1) := h1
          replace hb := hb.trans (hC.mono hb.size)
          replace hk1 := blk_ext hk1 hC
          replace hk3 := blk_ext hk3 hC
          exact Runs.does (r_conv (C := m.2.2.2.2.2.2.2.2.2.2.2.1.2.1) (congrArg some h1) Try.underlying31 Try.underlying63 (by rw [IntKind.wrap_u64]; omega)) ⟨Below.refl _ _, rfl, nofr rfl⟩
        refine ⟨fun wu3 hC hd => ?_, ?_⟩
        · obtain ⟨h2, _⟩ := hd
          skip
          replace h2 : V 2 = (.int .u64 m.2.2.2.2.2.2.2.2.2.2.2.1.2.1) := h2
          replace hb := hb.trans (hC.mono hb.size)
          replace hk1 := blk_ext hk1 hC
          replace hk3 := blk_ext hk3 hC
          refine Does.mono (d_callB (vs := [(.int .u64 m.2.2.2.2.2.2.2.2.2.2.2.1.2.1)]) (show [some (V 2)] = [some (.int .u64 m.2.2.2.2.2.2.2.2.2.2.2.1.2.1)] from by rw [h2]) Try.func45 (by kernel_rfl) (by kernel_rfl) (num46_any m.2.2.2.2.2.2.2.2.2.2.2.1.2.1 _ (by omega))) (fun _ _ h => ⟨h.2, h.1, nofr rfl⟩)
        refine ⟨fun wu4 hC hd => ?_, ?_⟩
        · obtain ⟨h3, _⟩ := hd
          skip
          replace h3 : V 3 = (.string (dS m.2.2.2.2.2.2.2.2.2.2.2.1.2.1)) := h3
          replace hb := hb.trans (hC.mono hb.size)
          replace hk1 := blk_ext hk1 hC
          replace hk3 := blk_ext hk3 hC
          exact Runs.does (r_sadd rfl (congrArg some h3) (by have : ((⟨#[100, 121, 108, 105, 110, 107, 32]⟩) : ByteArray).size = 7 := rfl; omega)) ⟨Below.refl _ _, rfl, nofr rfl⟩
        refine ⟨fun wu5 hC hd => ?_, ?_⟩
        · obtain ⟨h4, _⟩ := hd
          skip
          replace h4 : V 4 = (.string ((⟨#[100, 121, 108, 105, 110, 107, 32]⟩ : ByteArray) ++ (dS m.2.2.2.2.2.2.2.2.2.2.2.1.2.1))) := h4
          replace hb := hb.trans (hC.mono hb.size)
          replace hk1 := blk_ext hk1 hC
          replace hk3 := blk_ext hk3 hC
          exact Runs.does (r_sadd (congrArg some h4) rfl (by have : ((⟨#[100, 121, 108, 105, 110, 107, 32]⟩) : ByteArray).size = 7 := rfl; have := sz_app (⟨#[100, 121, 108, 105, 110, 107, 32]⟩ : ByteArray) (dS m.2.2.2.2.2.2.2.2.2.2.2.1.2.1); have : ((⟨#[32]⟩) : ByteArray).size = 1 := rfl; omega)) ⟨Below.refl _ _, rfl, nofr rfl⟩
        refine ⟨fun wu6 hC hd => ?_, ?_⟩
        · clear hd
          replace hb := hb.trans (hC.mono hb.size)
          replace hk1 := blk_ext hk1 hC
          replace hk3 := blk_ext hk3 hC
          exact Runs.does (r_fa rfl Try.underlying34 (f := 2) (q := 2) rfl (by kernel_rfl) rfl) ⟨Below.refl _ _, rfl, nofr rfl⟩
        refine ⟨fun wu7 hC hd => ?_, ?_⟩
        · obtain ⟨h6, _⟩ := hd
          skip
          replace h6 : V 6 = (.pointer (some ⟨b2, 2, none⟩)) := h6
          replace hb := hb.trans (hC.mono hb.size)
          replace hk1 := blk_ext hk1 hC
          replace hk3 := blk_ext hk3 hC
          exact Runs.does (r_load (v := (.int .u32 m.2.2.2.2.2.2.2.2.2.2.2.1.2.2.1)) (congrArg some h6) Try.underlying31 rfl (cell_blk hk3 rfl)) ⟨Below.refl _ _, rfl, nofr rfl⟩
        refine ⟨fun wu8 hC hd => ?_, ?_⟩
        · obtain ⟨h7, _⟩ := hd
          skip
          replace h7 : V 7 = (.int .u32 m.2.2.2.2.2.2.2.2.2.2.2.1.2.2.1) := h7
          replace hb := hb.trans (hC.mono hb.size)
          replace hk1 := blk_ext hk1 hC
          replace hk3 := blk_ext hk3 hC
          exact Runs.does (r_conv (C := m.2.2.2.2.2.2.2.2.2.2.2.1.2.2.1) (congrArg some h7) Try.underlying31 Try.underlying63 (by rw [IntKind.wrap_u64]; omega)) ⟨Below.refl _ _, rfl, nofr rfl⟩
        refine ⟨fun wu9 hC hd => ?_, ?_⟩
        · obtain ⟨h3, h8, _⟩ := hd
          skip
          skip
          replace h3 : V 3 = (.string (dS m.2.2.2.2.2.2.2.2.2.2.2.1.2.1)) := h3
          replace h8 : V 8 = (.int .u64 m.2.2.2.2.2.2.2.2.2.2.2.1.2.2.1) := h8
          replace hb := hb.trans (hC.mono hb.size)
          replace hk1 := blk_ext hk1 hC
          replace hk3 := blk_ext hk3 hC
          refine Does.mono (d_callB (vs := [(.int .u64 m.2.2.2.2.2.2.2.2.2.2.2.1.2.2.1)]) (show [some (V 8)] = [some (.int .u64 m.2.2.2.2.2.2.2.2.2.2.2.1.2.2.1)] from by rw [h8]) Try.func45 (by kernel_rfl) (by kernel_rfl) (num46_any m.2.2.2.2.2.2.2.2.2.2.2.1.2.2.1 _ (by omega))) (fun _ _ h => ⟨h.2, h.1, nofr rfl⟩)
        refine ⟨fun wu10 hC hd => ?_, ?_⟩
        · obtain ⟨h5, h9, _⟩ := hd
          skip
          skip
          replace h5 : V 5 = (.string (((⟨#[100, 121, 108, 105, 110, 107, 32]⟩ : ByteArray) ++ (dS m.2.2.2.2.2.2.2.2.2.2.2.1.2.1)) ++ (⟨#[32]⟩ : ByteArray))) := h5
          replace h9 : V 9 = (.string (dS m.2.2.2.2.2.2.2.2.2.2.2.1.2.2.1)) := h9
          replace hb := hb.trans (hC.mono hb.size)
          replace hk1 := blk_ext hk1 hC
          replace hk3 := blk_ext hk3 hC
          exact Runs.does (r_sadd (congrArg some h5) (congrArg some h9) (by have : ((⟨#[100, 121, 108, 105, 110, 107, 32]⟩) : ByteArray).size = 7 := rfl; have := sz_app (⟨#[100, 121, 108, 105, 110, 107, 32]⟩ : ByteArray) (dS m.2.2.2.2.2.2.2.2.2.2.2.1.2.1); have : ((⟨#[32]⟩) : ByteArray).size = 1 := rfl; have := sz_app ((⟨#[100, 121, 108, 105, 110, 107, 32]⟩ : ByteArray) ++ (dS m.2.2.2.2.2.2.2.2.2.2.2.1.2.1)) (⟨#[32]⟩ : ByteArray); omega)) ⟨Below.refl _ _, rfl, nofr rfl⟩
        refine ⟨fun wu11 hC hd => ?_, ?_⟩
        · obtain ⟨h10, _⟩ := hd
          skip
          replace h10 : V 10 = (.string ((((⟨#[100, 121, 108, 105, 110, 107, 32]⟩ : ByteArray) ++ (dS m.2.2.2.2.2.2.2.2.2.2.2.1.2.1)) ++ (⟨#[32]⟩ : ByteArray)) ++ (dS m.2.2.2.2.2.2.2.2.2.2.2.1.2.2.1))) := h10
          replace hb := hb.trans (hC.mono hb.size)
          replace hk1 := blk_ext hk1 hC
          replace hk3 := blk_ext hk3 hC
          exact Runs.does (r_sadd (congrArg some h10) rfl (by have : ((⟨#[100, 121, 108, 105, 110, 107, 32]⟩) : ByteArray).size = 7 := rfl; have := sz_app (⟨#[100, 121, 108, 105, 110, 107, 32]⟩ : ByteArray) (dS m.2.2.2.2.2.2.2.2.2.2.2.1.2.1); have : ((⟨#[32]⟩) : ByteArray).size = 1 := rfl; have := sz_app ((⟨#[100, 121, 108, 105, 110, 107, 32]⟩ : ByteArray) ++ (dS m.2.2.2.2.2.2.2.2.2.2.2.1.2.1)) (⟨#[32]⟩ : ByteArray); have := sz_app (((⟨#[100, 121, 108, 105, 110, 107, 32]⟩ : ByteArray) ++ (dS m.2.2.2.2.2.2.2.2.2.2.2.1.2.1)) ++ (⟨#[32]⟩ : ByteArray)) (dS m.2.2.2.2.2.2.2.2.2.2.2.1.2.2.1); have : ((⟨#[32]⟩) : ByteArray).size = 1 := rfl; omega)) ⟨Below.refl _ _, rfl, nofr rfl⟩
        refine ⟨fun wu12 hC hd => ?_, ?_⟩
        · clear hd
          replace hb := hb.trans (hC.mono hb.size)
          replace hk1 := blk_ext hk1 hC
          replace hk3 := blk_ext hk3 hC
          exact Runs.does (r_fa rfl Try.underlying34 (f := 3) (q := 3) rfl (by kernel_rfl) rfl) ⟨Below.refl _ _, rfl, nofr rfl⟩
        refine ⟨fun wu13 hC hd => ?_, ?_⟩
        · obtain ⟨h12, _⟩ := hd
          skip
          replace h12 : V 12 = (.pointer (some ⟨b2, 3, none⟩)) := h12
          replace hb := hb.trans (hC.mono hb.size)
          replace hk1 := blk_ext hk1 hC
          replace hk3 := blk_ext hk3 hC
          exact Runs.does (r_load (v := (.int .u32 m.2.2.2.2.2.2.2.2.2.2.2.1.2.2.2.1)) (congrArg some h12) Try.underlying31 rfl (cell_blk hk3 rfl)) ⟨Below.refl _ _, rfl, nofr rfl⟩
        refine ⟨fun wu14 hC hd => ?_, ?_⟩
        · obtain ⟨h13, _⟩ := hd
          skip
          replace h13 : V 13 = (.int .u32 m.2.2.2.2.2.2.2.2.2.2.2.1.2.2.2.1) := h13
          replace hb := hb.trans (hC.mono hb.size)
          replace hk1 := blk_ext hk1 hC
          replace hk3 := blk_ext hk3 hC
          exact Runs.does (r_conv (C := m.2.2.2.2.2.2.2.2.2.2.2.1.2.2.2.1) (congrArg some h13) Try.underlying31 Try.underlying63 (by rw [IntKind.wrap_u64]; omega)) ⟨Below.refl _ _, rfl, nofr rfl⟩
        refine ⟨fun wu15 hC hd => ?_, ?_⟩
        · obtain ⟨h9, h14, _⟩ := hd
          skip
          skip
          replace h9 : V 9 = (.string (dS m.2.2.2.2.2.2.2.2.2.2.2.1.2.2.1)) := h9
          replace h14 : V 14 = (.int .u64 m.2.2.2.2.2.2.2.2.2.2.2.1.2.2.2.1) := h14
          replace hb := hb.trans (hC.mono hb.size)
          replace hk1 := blk_ext hk1 hC
          replace hk3 := blk_ext hk3 hC
          refine Does.mono (d_callB (vs := [(.int .u64 m.2.2.2.2.2.2.2.2.2.2.2.1.2.2.2.1)]) (show [some (V 14)] = [some (.int .u64 m.2.2.2.2.2.2.2.2.2.2.2.1.2.2.2.1)] from by rw [h14]) Try.func45 (by kernel_rfl) (by kernel_rfl) (num46_any m.2.2.2.2.2.2.2.2.2.2.2.1.2.2.2.1 _ (by omega))) (fun _ _ h => ⟨h.2, h.1, nofr rfl⟩)
        refine ⟨fun wu16 hC hd => ?_, ?_⟩
        · obtain ⟨h11, h15, _⟩ := hd
          skip
          skip
          replace h11 : V 11 = (.string (((((⟨#[100, 121, 108, 105, 110, 107, 32]⟩ : ByteArray) ++ (dS m.2.2.2.2.2.2.2.2.2.2.2.1.2.1)) ++ (⟨#[32]⟩ : ByteArray)) ++ (dS m.2.2.2.2.2.2.2.2.2.2.2.1.2.2.1)) ++ (⟨#[32]⟩ : ByteArray))) := h11
          replace h15 : V 15 = (.string (dS m.2.2.2.2.2.2.2.2.2.2.2.1.2.2.2.1)) := h15
          replace hb := hb.trans (hC.mono hb.size)
          replace hk1 := blk_ext hk1 hC
          replace hk3 := blk_ext hk3 hC
          exact Runs.does (r_sadd (congrArg some h11) (congrArg some h15) (by have : ((⟨#[100, 121, 108, 105, 110, 107, 32]⟩) : ByteArray).size = 7 := rfl; have := sz_app (⟨#[100, 121, 108, 105, 110, 107, 32]⟩ : ByteArray) (dS m.2.2.2.2.2.2.2.2.2.2.2.1.2.1); have : ((⟨#[32]⟩) : ByteArray).size = 1 := rfl; have := sz_app ((⟨#[100, 121, 108, 105, 110, 107, 32]⟩ : ByteArray) ++ (dS m.2.2.2.2.2.2.2.2.2.2.2.1.2.1)) (⟨#[32]⟩ : ByteArray); have := sz_app (((⟨#[100, 121, 108, 105, 110, 107, 32]⟩ : ByteArray) ++ (dS m.2.2.2.2.2.2.2.2.2.2.2.1.2.1)) ++ (⟨#[32]⟩ : ByteArray)) (dS m.2.2.2.2.2.2.2.2.2.2.2.1.2.2.1); have : ((⟨#[32]⟩) : ByteArray).size = 1 := rfl; have := sz_app ((((⟨#[100, 121, 108, 105, 110, 107, 32]⟩ : ByteArray) ++ (dS m.2.2.2.2.2.2.2.2.2.2.2.1.2.1)) ++ (⟨#[32]⟩ : ByteArray)) ++ (dS m.2.2.2.2.2.2.2.2.2.2.2.1.2.2.1)) (⟨#[32]⟩ : ByteArray); omega)) ⟨Below.refl _ _, rfl, nofr rfl⟩
        refine ⟨fun wu17 hC hd => ?_, ?_⟩
        · obtain ⟨h16, _⟩ := hd
          skip
          replace h16 : V 16 = (.string ((((((⟨#[100, 121, 108, 105, 110, 107, 32]⟩ : ByteArray) ++ (dS m.2.2.2.2.2.2.2.2.2.2.2.1.2.1)) ++ (⟨#[32]⟩ : ByteArray)) ++ (dS m.2.2.2.2.2.2.2.2.2.2.2.1.2.2.1)) ++ (⟨#[32]⟩ : ByteArray)) ++ (dS m.2.2.2.2.2.2.2.2.2.2.2.1.2.2.2.1))) := h16
          replace hb := hb.trans (hC.mono hb.size)
          replace hk1 := blk_ext hk1 hC
          replace hk3 := blk_ext hk3 hC
          exact Runs.does (r_sadd (congrArg some h16) rfl (by have : ((⟨#[100, 121, 108, 105, 110, 107, 32]⟩) : ByteArray).size = 7 := rfl; have := sz_app (⟨#[100, 121, 108, 105, 110, 107, 32]⟩ : ByteArray) (dS m.2.2.2.2.2.2.2.2.2.2.2.1.2.1); have : ((⟨#[32]⟩) : ByteArray).size = 1 := rfl; have := sz_app ((⟨#[100, 121, 108, 105, 110, 107, 32]⟩ : ByteArray) ++ (dS m.2.2.2.2.2.2.2.2.2.2.2.1.2.1)) (⟨#[32]⟩ : ByteArray); have := sz_app (((⟨#[100, 121, 108, 105, 110, 107, 32]⟩ : ByteArray) ++ (dS m.2.2.2.2.2.2.2.2.2.2.2.1.2.1)) ++ (⟨#[32]⟩ : ByteArray)) (dS m.2.2.2.2.2.2.2.2.2.2.2.1.2.2.1); have : ((⟨#[32]⟩) : ByteArray).size = 1 := rfl; have := sz_app ((((⟨#[100, 121, 108, 105, 110, 107, 32]⟩ : ByteArray) ++ (dS m.2.2.2.2.2.2.2.2.2.2.2.1.2.1)) ++ (⟨#[32]⟩ : ByteArray)) ++ (dS m.2.2.2.2.2.2.2.2.2.2.2.1.2.2.1)) (⟨#[32]⟩ : ByteArray); have := sz_app (((((⟨#[100, 121, 108, 105, 110, 107, 32]⟩ : ByteArray) ++ (dS m.2.2.2.2.2.2.2.2.2.2.2.1.2.1)) ++ (⟨#[32]⟩ : ByteArray)) ++ (dS m.2.2.2.2.2.2.2.2.2.2.2.1.2.2.1)) ++ (⟨#[32]⟩ : ByteArray)) (dS m.2.2.2.2.2.2.2.2.2.2.2.1.2.2.2.1); have : ((⟨#[32]⟩) : ByteArray).size = 1 := rfl; omega)) ⟨Below.refl _ _, rfl, nofr rfl⟩
        refine ⟨fun wu18 hC hd => ?_, ?_⟩
        · clear hd
          replace hb := hb.trans (hC.mono hb.size)
          replace hk1 := blk_ext hk1 hC
          replace hk3 := blk_ext hk3 hC
          exact Runs.does (r_fa rfl Try.underlying34 (f := 4) (q := 4) rfl (by kernel_rfl) rfl) ⟨Below.refl _ _, rfl, nofr rfl⟩
        refine ⟨fun wu19 hC hd => ?_, ?_⟩
        · obtain ⟨h18, _⟩ := hd
          skip
          replace h18 : V 18 = (.pointer (some ⟨b2, 4, none⟩)) := h18
          replace hb := hb.trans (hC.mono hb.size)
          replace hk1 := blk_ext hk1 hC
          replace hk3 := blk_ext hk3 hC
          exact Runs.does (r_load (v := (.int .u32 m.2.2.2.2.2.2.2.2.2.2.2.1.2.2.2.2.1)) (congrArg some h18) Try.underlying31 rfl (cell_blk hk3 rfl)) ⟨Below.refl _ _, rfl, nofr rfl⟩
        refine ⟨fun wu20 hC hd => ?_, ?_⟩
        · obtain ⟨h19, _⟩ := hd
          skip
          replace h19 : V 19 = (.int .u32 m.2.2.2.2.2.2.2.2.2.2.2.1.2.2.2.2.1) := h19
          replace hb := hb.trans (hC.mono hb.size)
          replace hk1 := blk_ext hk1 hC
          replace hk3 := blk_ext hk3 hC
          exact Runs.does (r_conv (C := m.2.2.2.2.2.2.2.2.2.2.2.1.2.2.2.2.1) (congrArg some h19) Try.underlying31 Try.underlying63 (by rw [IntKind.wrap_u64]; omega)) ⟨Below.refl _ _, rfl, nofr rfl⟩
        refine ⟨fun wu21 hC hd => ?_, ?_⟩
        · obtain ⟨h15, h20, _⟩ := hd
          skip
          skip
          replace h15 : V 15 = (.string (dS m.2.2.2.2.2.2.2.2.2.2.2.1.2.2.2.1)) := h15
          replace h20 : V 20 = (.int .u64 m.2.2.2.2.2.2.2.2.2.2.2.1.2.2.2.2.1) := h20
          replace hb := hb.trans (hC.mono hb.size)
          replace hk1 := blk_ext hk1 hC
          replace hk3 := blk_ext hk3 hC
          refine Does.mono (d_callB (vs := [(.int .u64 m.2.2.2.2.2.2.2.2.2.2.2.1.2.2.2.2.1)]) (show [some (V 20)] = [some (.int .u64 m.2.2.2.2.2.2.2.2.2.2.2.1.2.2.2.2.1)] from by rw [h20]) Try.func45 (by kernel_rfl) (by kernel_rfl) (num46_any m.2.2.2.2.2.2.2.2.2.2.2.1.2.2.2.2.1 _ (by omega))) (fun _ _ h => ⟨h.2, h.1, nofr rfl⟩)
        refine ⟨fun wu22 hC hd => ?_, ?_⟩
        · obtain ⟨h17, h21, _⟩ := hd
          skip
          skip
          replace h17 : V 17 = (.string (((((((⟨#[100, 121, 108, 105, 110, 107, 32]⟩ : ByteArray) ++ (dS m.2.2.2.2.2.2.2.2.2.2.2.1.2.1)) ++ (⟨#[32]⟩ : ByteArray)) ++ (dS m.2.2.2.2.2.2.2.2.2.2.2.1.2.2.1)) ++ (⟨#[32]⟩ : ByteArray)) ++ (dS m.2.2.2.2.2.2.2.2.2.2.2.1.2.2.2.1)) ++ (⟨#[32]⟩ : ByteArray))) := h17
          replace h21 : V 21 = (.string (dS m.2.2.2.2.2.2.2.2.2.2.2.1.2.2.2.2.1)) := h21
          replace hb := hb.trans (hC.mono hb.size)
          replace hk1 := blk_ext hk1 hC
          replace hk3 := blk_ext hk3 hC
          exact Runs.does (r_sadd (congrArg some h17) (congrArg some h21) (by have : ((⟨#[100, 121, 108, 105, 110, 107, 32]⟩) : ByteArray).size = 7 := rfl; have := sz_app (⟨#[100, 121, 108, 105, 110, 107, 32]⟩ : ByteArray) (dS m.2.2.2.2.2.2.2.2.2.2.2.1.2.1); have : ((⟨#[32]⟩) : ByteArray).size = 1 := rfl; have := sz_app ((⟨#[100, 121, 108, 105, 110, 107, 32]⟩ : ByteArray) ++ (dS m.2.2.2.2.2.2.2.2.2.2.2.1.2.1)) (⟨#[32]⟩ : ByteArray); have := sz_app (((⟨#[100, 121, 108, 105, 110, 107, 32]⟩ : ByteArray) ++ (dS m.2.2.2.2.2.2.2.2.2.2.2.1.2.1)) ++ (⟨#[32]⟩ : ByteArray)) (dS m.2.2.2.2.2.2.2.2.2.2.2.1.2.2.1); have : ((⟨#[32]⟩) : ByteArray).size = 1 := rfl; have := sz_app ((((⟨#[100, 121, 108, 105, 110, 107, 32]⟩ : ByteArray) ++ (dS m.2.2.2.2.2.2.2.2.2.2.2.1.2.1)) ++ (⟨#[32]⟩ : ByteArray)) ++ (dS m.2.2.2.2.2.2.2.2.2.2.2.1.2.2.1)) (⟨#[32]⟩ : ByteArray); have := sz_app (((((⟨#[100, 121, 108, 105, 110, 107, 32]⟩ : ByteArray) ++ (dS m.2.2.2.2.2.2.2.2.2.2.2.1.2.1)) ++ (⟨#[32]⟩ : ByteArray)) ++ (dS m.2.2.2.2.2.2.2.2.2.2.2.1.2.2.1)) ++ (⟨#[32]⟩ : ByteArray)) (dS m.2.2.2.2.2.2.2.2.2.2.2.1.2.2.2.1); have : ((⟨#[32]⟩) : ByteArray).size = 1 := rfl; have := sz_app ((((((⟨#[100, 121, 108, 105, 110, 107, 32]⟩ : ByteArray) ++ (dS m.2.2.2.2.2.2.2.2.2.2.2.1.2.1)) ++ (⟨#[32]⟩ : ByteArray)) ++ (dS m.2.2.2.2.2.2.2.2.2.2.2.1.2.2.1)) ++ (⟨#[32]⟩ : ByteArray)) ++ (dS m.2.2.2.2.2.2.2.2.2.2.2.1.2.2.2.1)) (⟨#[32]⟩ : ByteArray); omega)) ⟨Below.refl _ _, rfl, nofr rfl⟩
        refine ⟨fun wu23 hC hd => ?_, ?_⟩
        · obtain ⟨h0, h1, h2, h3, h4, h5, h6, h7, h8, h9, h10, h11, h12, h13, h14, h15, h16, h17, h18, h19, h20, h21, h22, _⟩ := hd
          skip
          skip
          skip
          skip
          skip
          skip
          skip
          skip
          skip
          skip
          skip
          skip
          skip
          skip
          skip
          skip
          skip
          skip
          skip
          skip
          skip
          skip
          skip
          replace h0 : V 0 = (.pointer (some ⟨b2, 1, none⟩)) := h0
          replace h1 : V 1 = (.int .u32 m.2.2.2.2.2.2.2.2.2.2.2.1.2.1) := h1
          replace h2 : V 2 = (.int .u64 m.2.2.2.2.2.2.2.2.2.2.2.1.2.1) := h2
          replace h3 : V 3 = (.string (dS m.2.2.2.2.2.2.2.2.2.2.2.1.2.1)) := h3
          replace h4 : V 4 = (.string ((⟨#[100, 121, 108, 105, 110, 107, 32]⟩ : ByteArray) ++ (dS m.2.2.2.2.2.2.2.2.2.2.2.1.2.1))) := h4
          replace h5 : V 5 = (.string (((⟨#[100, 121, 108, 105, 110, 107, 32]⟩ : ByteArray) ++ (dS m.2.2.2.2.2.2.2.2.2.2.2.1.2.1)) ++ (⟨#[32]⟩ : ByteArray))) := h5
          replace h6 : V 6 = (.pointer (some ⟨b2, 2, none⟩)) := h6
          replace h7 : V 7 = (.int .u32 m.2.2.2.2.2.2.2.2.2.2.2.1.2.2.1) := h7
          replace h8 : V 8 = (.int .u64 m.2.2.2.2.2.2.2.2.2.2.2.1.2.2.1) := h8
          replace h9 : V 9 = (.string (dS m.2.2.2.2.2.2.2.2.2.2.2.1.2.2.1)) := h9
          replace h10 : V 10 = (.string ((((⟨#[100, 121, 108, 105, 110, 107, 32]⟩ : ByteArray) ++ (dS m.2.2.2.2.2.2.2.2.2.2.2.1.2.1)) ++ (⟨#[32]⟩ : ByteArray)) ++ (dS m.2.2.2.2.2.2.2.2.2.2.2.1.2.2.1))) := h10
          replace h11 : V 11 = (.string (((((⟨#[100, 121, 108, 105, 110, 107, 32]⟩ : ByteArray) ++ (dS m.2.2.2.2.2.2.2.2.2.2.2.1.2.1)) ++ (⟨#[32]⟩ : ByteArray)) ++ (dS m.2.2.2.2.2.2.2.2.2.2.2.1.2.2.1)) ++ (⟨#[32]⟩ : ByteArray))) := h11
          replace h12 : V 12 = (.pointer (some ⟨b2, 3, none⟩)) := h12
          replace h13 : V 13 = (.int .u32 m.2.2.2.2.2.2.2.2.2.2.2.1.2.2.2.1) := h13
          replace h14 : V 14 = (.int .u64 m.2.2.2.2.2.2.2.2.2.2.2.1.2.2.2.1) := h14
          replace h15 : V 15 = (.string (dS m.2.2.2.2.2.2.2.2.2.2.2.1.2.2.2.1)) := h15
          replace h16 : V 16 = (.string ((((((⟨#[100, 121, 108, 105, 110, 107, 32]⟩ : ByteArray) ++ (dS m.2.2.2.2.2.2.2.2.2.2.2.1.2.1)) ++ (⟨#[32]⟩ : ByteArray)) ++ (dS m.2.2.2.2.2.2.2.2.2.2.2.1.2.2.1)) ++ (⟨#[32]⟩ : ByteArray)) ++ (dS m.2.2.2.2.2.2.2.2.2.2.2.1.2.2.2.1))) := h16
          replace h17 : V 17 = (.string (((((((⟨#[100, 121, 108, 105, 110, 107, 32]⟩ : ByteArray) ++ (dS m.2.2.2.2.2.2.2.2.2.2.2.1.2.1)) ++ (⟨#[32]⟩ : ByteArray)) ++ (dS m.2.2.2.2.2.2.2.2.2.2.2.1.2.2.1)) ++ (⟨#[32]⟩ : ByteArray)) ++ (dS m.2.2.2.2.2.2.2.2.2.2.2.1.2.2.2.1)) ++ (⟨#[32]⟩ : ByteArray))) := h17
          replace h18 : V 18 = (.pointer (some ⟨b2, 4, none⟩)) := h18
          replace h19 : V 19 = (.int .u32 m.2.2.2.2.2.2.2.2.2.2.2.1.2.2.2.2.1) := h19
          replace h20 : V 20 = (.int .u64 m.2.2.2.2.2.2.2.2.2.2.2.1.2.2.2.2.1) := h20
          replace h21 : V 21 = (.string (dS m.2.2.2.2.2.2.2.2.2.2.2.1.2.2.2.2.1)) := h21
          replace h22 : V 22 = (.string ((((((((⟨#[100, 121, 108, 105, 110, 107, 32]⟩ : ByteArray) ++ (dS m.2.2.2.2.2.2.2.2.2.2.2.1.2.1)) ++ (⟨#[32]⟩ : ByteArray)) ++ (dS m.2.2.2.2.2.2.2.2.2.2.2.1.2.2.1)) ++ (⟨#[32]⟩ : ByteArray)) ++ (dS m.2.2.2.2.2.2.2.2.2.2.2.1.2.2.2.1)) ++ (⟨#[32]⟩ : ByteArray)) ++ (dS m.2.2.2.2.2.2.2.2.2.2.2.1.2.2.2.2.1))) := h22
          replace hb := hb.trans (hC.mono hb.size)
          replace hk1 := blk_ext hk1 hC
          replace hk3 := blk_ext hk3 hC
          exact Runs.does (r_assign (congrArg some h22)) ⟨Below.refl _ _, rfl, nofr rfl⟩
        trivial
      · skip
        clear hf fa; intro V w4 fa he3 hp hnb hf
        have hv0 : V 0 = (.pointer (some ⟨b2, 1, none⟩)) := postsHold_at hp 0 rfl
        have hv1 : V 1 = (.int .u32 m.2.2.2.2.2.2.2.2.2.2.2.1.2.1) := postsHold_at hp 1 rfl
        have hv2 : V 2 = (.int .u64 m.2.2.2.2.2.2.2.2.2.2.2.1.2.1) := postsHold_at hp 2 rfl
        have hv3 : V 3 = (.string (dS m.2.2.2.2.2.2.2.2.2.2.2.1.2.1)) := postsHold_at hp 3 rfl
        have hv4 : V 4 = (.string ((⟨#[100, 121, 108, 105, 110, 107, 32]⟩ : ByteArray) ++ (dS m.2.2.2.2.2.2.2.2.2.2.2.1.2.1))) := postsHold_at hp 4 rfl
        have hv5 : V 5 = (.string (((⟨#[100, 121, 108, 105, 110, 107, 32]⟩ : ByteArray) ++ (dS m.2.2.2.2.2.2.2.2.2.2.2.1.2.1)) ++ (⟨#[32]⟩ : ByteArray))) := postsHold_at hp 5 rfl
        have hv6 : V 6 = (.pointer (some ⟨b2, 2, none⟩)) := postsHold_at hp 6 rfl
        have hv7 : V 7 = (.int .u32 m.2.2.2.2.2.2.2.2.2.2.2.1.2.2.1) := postsHold_at hp 7 rfl
        have hv8 : V 8 = (.int .u64 m.2.2.2.2.2.2.2.2.2.2.2.1.2.2.1) := postsHold_at hp 8 rfl
        have hv9 : V 9 = (.string (dS m.2.2.2.2.2.2.2.2.2.2.2.1.2.2.1)) := postsHold_at hp 9 rfl
        have hv10 : V 10 = (.string ((((⟨#[100, 121, 108, 105, 110, 107, 32]⟩ : ByteArray) ++ (dS m.2.2.2.2.2.2.2.2.2.2.2.1.2.1)) ++ (⟨#[32]⟩ : ByteArray)) ++ (dS m.2.2.2.2.2.2.2.2.2.2.2.1.2.2.1))) := postsHold_at hp 10 rfl
        have hv11 : V 11 = (.string (((((⟨#[100, 121, 108, 105, 110, 107, 32]⟩ : ByteArray) ++ (dS m.2.2.2.2.2.2.2.2.2.2.2.1.2.1)) ++ (⟨#[32]⟩ : ByteArray)) ++ (dS m.2.2.2.2.2.2.2.2.2.2.2.1.2.2.1)) ++ (⟨#[32]⟩ : ByteArray))) := postsHold_at hp 11 rfl
        have hv12 : V 12 = (.pointer (some ⟨b2, 3, none⟩)) := postsHold_at hp 12 rfl
        have hv13 : V 13 = (.int .u32 m.2.2.2.2.2.2.2.2.2.2.2.1.2.2.2.1) := postsHold_at hp 13 rfl
        have hv14 : V 14 = (.int .u64 m.2.2.2.2.2.2.2.2.2.2.2.1.2.2.2.1) := postsHold_at hp 14 rfl
        have hv15 : V 15 = (.string (dS m.2.2.2.2.2.2.2.2.2.2.2.1.2.2.2.1)) := postsHold_at hp 15 rfl
        have hv16 : V 16 = (.string ((((((⟨#[100, 121, 108, 105, 110, 107, 32]⟩ : ByteArray) ++ (dS m.2.2.2.2.2.2.2.2.2.2.2.1.2.1)) ++ (⟨#[32]⟩ : ByteArray)) ++ (dS m.2.2.2.2.2.2.2.2.2.2.2.1.2.2.1)) ++ (⟨#[32]⟩ : ByteArray)) ++ (dS m.2.2.2.2.2.2.2.2.2.2.2.1.2.2.2.1))) := postsHold_at hp 16 rfl
        have hv17 : V 17 = (.string (((((((⟨#[100, 121, 108, 105, 110, 107, 32]⟩ : ByteArray) ++ (dS m.2.2.2.2.2.2.2.2.2.2.2.1.2.1)) ++ (⟨#[32]⟩ : ByteArray)) ++ (dS m.2.2.2.2.2.2.2.2.2.2.2.1.2.2.1)) ++ (⟨#[32]⟩ : ByteArray)) ++ (dS m.2.2.2.2.2.2.2.2.2.2.2.1.2.2.2.1)) ++ (⟨#[32]⟩ : ByteArray))) := postsHold_at hp 17 rfl
        have hv18 : V 18 = (.pointer (some ⟨b2, 4, none⟩)) := postsHold_at hp 18 rfl
        have hv19 : V 19 = (.int .u32 m.2.2.2.2.2.2.2.2.2.2.2.1.2.2.2.2.1) := postsHold_at hp 19 rfl
        have hv20 : V 20 = (.int .u64 m.2.2.2.2.2.2.2.2.2.2.2.1.2.2.2.2.1) := postsHold_at hp 20 rfl
        have hv21 : V 21 = (.string (dS m.2.2.2.2.2.2.2.2.2.2.2.1.2.2.2.2.1)) := postsHold_at hp 21 rfl
        have hv22 : V 22 = (.string ((((((((⟨#[100, 121, 108, 105, 110, 107, 32]⟩ : ByteArray) ++ (dS m.2.2.2.2.2.2.2.2.2.2.2.1.2.1)) ++ (⟨#[32]⟩ : ByteArray)) ++ (dS m.2.2.2.2.2.2.2.2.2.2.2.1.2.2.1)) ++ (⟨#[32]⟩ : ByteArray)) ++ (dS m.2.2.2.2.2.2.2.2.2.2.2.1.2.2.2.1)) ++ (⟨#[32]⟩ : ByteArray)) ++ (dS m.2.2.2.2.2.2.2.2.2.2.2.1.2.2.2.2.1))) := postsHold_at hp 22 rfl
        have hv23 : V 23 = (.string ((((((((⟨#[100, 121, 108, 105, 110, 107, 32]⟩ : ByteArray) ++ (dS m.2.2.2.2.2.2.2.2.2.2.2.1.2.1)) ++ (⟨#[32]⟩ : ByteArray)) ++ (dS m.2.2.2.2.2.2.2.2.2.2.2.1.2.2.1)) ++ (⟨#[32]⟩ : ByteArray)) ++ (dS m.2.2.2.2.2.2.2.2.2.2.2.1.2.2.2.1)) ++ (⟨#[32]⟩ : ByteArray)) ++ (dS m.2.2.2.2.2.2.2.2.2.2.2.1.2.2.2.2.1))) := postsHold_at hp 23 rfl
        simp only [List.take_succ_cons, List.take_zero, insAll, ins, hv0, hv1, hv2, hv3, hv4, hv5, hv6, hv7, hv8, hv9, hv10, hv11, hv12, hv13, hv14, hv15, hv16, hv17, hv18, hv19, hv20, hv21, hv22, hv23] at hf
        clear hp hnb hv0 hv1 hv2 hv3 hv4 hv5 hv6 hv7 hv8 hv9 hv10 hv11 hv12 hv13 hv14 hv15 hv16 hv17 hv18 hv19 hv20 hv21 hv22 hv23
        replace hk1 := blk_ext hk1 he3
        replace hk3 := blk_ext hk3 he3
        replace hb := hb.trans (Below.mono he3 hb.size)
        (try simp only [Exit.then, Exit.inBlock, ↓reduceIte, Nat.reduceEqDiff])
        refine hK6 _ _ ?_
        refine wp_seq_k (fun K7 hK7 => ?_)
        refine wp_seq_k (fun K8 hK8 => ?_)
        have hst5 := ref_head m
        refine wp_region_lit ?_
        refine sqv hf (r_assign rfl) rfl rfl rfl ?_; clear hf fa; intro fa hf
        apply wpList_nil
        (try simp only [Exit.then, Exit.inBlock, ↓reduceIte, Nat.reduceEqDiff])
        refine hK8 _ _ ?_
        refine wp_block ?_
        refine wp_loop_k (fun mq fa wr => ∃ (k : Nat), mq = m.2.2.2.2.2.2.2.2.2.2.2.1.2.2.2.2.2.1.len - k ∧ Fr 168 fa [(1, (.pointer (some ⟨b1, 0, none⟩))), (3, (.slice none 0 0)), (5, (.string (foldD shS (foldD dS (⟨#[100, 121, 108, 105, 110, 107]⟩ : ByteArray) [m.2.2.2.2.2.2.2.2.2.2.2.1.2.1, m.2.2.2.2.2.2.2.2.2.2.2.1.2.2.1, m.2.2.2.2.2.2.2.2.2.2.2.1.2.2.2.1, m.2.2.2.2.2.2.2.2.2.2.2.1.2.2.2.2.1]) (m.2.2.2.2.2.2.2.2.2.2.2.1.2.2.2.2.2.1.list.take k)))), (6, (.int .i64 ((k : Nat) : Int))), (4, (.pointer (some ⟨b2, 0, none⟩)))] ∧ Below w.heap.size w wr ∧ wr.heap[b1]? = some (.cells #[(.slice m.1.at' m.1.len m.1.cap), (.slice m.2.1.at' m.2.1.len m.2.1.cap), (.slice m.2.2.1.at' m.2.2.1.len m.2.2.1.cap), (.slice m.2.2.2.1.at' m.2.2.2.1.len m.2.2.2.1.cap), (.slice m.2.2.2.2.1.at' m.2.2.2.2.1.len m.2.2.2.2.1.cap), (.slice m.2.2.2.2.2.1.at' m.2.2.2.2.2.1.len m.2.2.2.2.2.1.cap), (.slice m.2.2.2.2.2.2.1.at' m.2.2.2.2.2.2.1.len m.2.2.2.2.2.2.1.cap), (.int .i64 m.2.2.2.2.2.2.2.1), (.slice m.2.2.2.2.2.2.2.2.1.at' m.2.2.2.2.2.2.2.2.1.len m.2.2.2.2.2.2.2.2.1.cap), (.slice m.2.2.2.2.2.2.2.2.2.1.at' m.2.2.2.2.2.2.2.2.2.1.len m.2.2.2.2.2.2.2.2.2.1.cap), (.slice m.2.2.2.2.2.2.2.2.2.2.1.at' m.2.2.2.2.2.2.2.2.2.2.1.len m.2.2.2.2.2.2.2.2.2.2.1.cap), (.bool m.2.2.2.2.2.2.2.2.2.2.2.1.1), (.int .u32 m.2.2.2.2.2.2.2.2.2.2.2.1.2.1), (.int .u32 m.2.2.2.2.2.2.2.2.2.2.2.1.2.2.1), (.int .u32 m.2.2.2.2.2.2.2.2.2.2.2.1.2.2.2.1), (.int .u32 m.2.2.2.2.2.2.2.2.2.2.2.1.2.2.2.2.1), (.slice m.2.2.2.2.2.2.2.2.2.2.2.1.2.2.2.2.2.1.at' m.2.2.2.2.2.2.2.2.2.2.2.1.2.2.2.2.2.1.len m.2.2.2.2.2.2.2.2.2.2.2.1.2.2.2.2.2.1.cap)] 36 (0, 0)) ∧ wr.heap[b2]? = some (.cells #[(.bool m.2.2.2.2.2.2.2.2.2.2.2.1.1), (.int .u32 m.2.2.2.2.2.2.2.2.2.2.2.1.2.1), (.int .u32 m.2.2.2.2.2.2.2.2.2.2.2.1.2.2.1), (.int .u32 m.2.2.2.2.2.2.2.2.2.2.2.1.2.2.2.1), (.int .u32 m.2.2.2.2.2.2.2.2.2.2.2.1.2.2.2.2.1), (.slice m.2.2.2.2.2.2.2.2.2.2.2.1.2.2.2.2.2.1.at' m.2.2.2.2.2.2.2.2.2.2.2.1.2.2.2.2.2.1.len m.2.2.2.2.2.2.2.2.2.2.2.1.2.2.2.2.2.1.cap)] 34 (0, 0)) ∧ (k ≤ m.2.2.2.2.2.2.2.2.2.2.2.1.2.2.2.2.2.1.len)) ?_ ?_
        · skip
          exact ⟨_, 0, rfl, hf.sub ⟨rfl, rfl, (some_str (by first | rfl | assumption | simp)), (some_int (by first | rfl | omega)), rfl, trivial⟩, hb, hk1, hk3, by omega⟩
        · skip
          clear hf fa; intro mq1 fa w5 hI KL1 hKL1
          clear hb
          clear hk1
          clear hk3
          obtain ⟨k, hmq1, hf, hb, hkb1, hkb2, hk⟩ := hI
          have hfn := foldD_len (f := shS) (B := 902) (m.2.2.2.2.2.2.2.2.2.2.2.1.2.2.2.2.2.1.list.take k) (foldD dS (⟨#[100, 121, 108, 105, 110, 107]⟩ : ByteArray) [m.2.2.2.2.2.2.2.2.2.2.2.1.2.1, m.2.2.2.2.2.2.2.2.2.2.2.1.2.2.1, m.2.2.2.2.2.2.2.2.2.2.2.1.2.2.2.1, m.2.2.2.2.2.2.2.2.2.2.2.1.2.2.2.2.1]) (fun y hy => hdN y (List.mem_of_mem_take hy)); rw [List.length_take, Sl.list_length] at hfn
          have hfm : min k m.2.2.2.2.2.2.2.2.2.2.2.1.2.2.2.2.2.1.len ≤ 20 := by omega
          have hfq : (foldD shS (foldD dS (⟨#[100, 121, 108, 105, 110, 107]⟩ : ByteArray) [m.2.2.2.2.2.2.2.2.2.2.2.1.2.1, m.2.2.2.2.2.2.2.2.2.2.2.1.2.2.1, m.2.2.2.2.2.2.2.2.2.2.2.1.2.2.2.1, m.2.2.2.2.2.2.2.2.2.2.2.1.2.2.2.2.1]) (m.2.2.2.2.2.2.2.2.2.2.2.1.2.2.2.2.2.1.list.take k)).size ≤ 20000 := by omega
          refine wp_seq_k (fun K9 hK9 => ?_)
          refine wp_seq_k (fun K10 hK10 => ?_)
          refine wp_region_lit ?_
          refine sqv hf (r_move rfl) rfl rfl rfl ?_; clear hf fa; intro fa hf
          refine sqv hf (r_fa rfl Try.underlying34 (f := 5) (q := 5) rfl (by kernel_rfl) rfl) rfl rfl rfl ?_; clear hf fa; intro fa hf
          refine sqv hf (r_load (v := (.slice m.2.2.2.2.2.2.2.2.2.2.2.1.2.2.2.2.2.1.at' m.2.2.2.2.2.2.2.2.2.2.2.1.2.2.2.2.2.1.len m.2.2.2.2.2.2.2.2.2.2.2.1.2.2.2.2.2.1.cap)) rfl Try.underlying32 rfl (cell_blk hkb2 rfl)) rfl rfl rfl ?_; clear hf fa; intro fa hf
          refine sqv hf (r_lensl rfl Try.underlying32) rfl rfl rfl ?_; clear hf fa; intro fa hf
          refine sqv hf (r_lt rfl rfl) rfl rfl rfl ?_; clear hf fa; intro fa hf
          apply wpList_nil
          (try simp only [Exit.then, Exit.inBlock, ↓reduceIte, Nat.reduceEqDiff])
          refine hK10 _ _ ?_
          refine wp_cond_split (t := (decide (((k : Nat) : Int) < ((m.2.2.2.2.2.2.2.2.2.2.2.1.2.2.2.2.2.1.len : Nat) : Int)))) (hf.ev rfl) (fun hqt44_1 => ?_) (fun hqt44_1 => ?_)
          · have hqt44_1b := hqt44_1
            try simp only [decide_eq_true_eq, Bool.and_eq_true, Bool.or_eq_true, Bool.not_eq_true', decide_eq_false_iff_not, ne_eq, Bool.not_eq_true] at hqt44_1
            refine wp_skip ?_
            (try simp only [Exit.then, Exit.inBlock, ↓reduceIte, Nat.reduceEqDiff])
            refine hK9 _ _ ?_
            refine wp_seq_k (fun K11 hK11 => ?_)
            refine wp_block ?_
            obtain ⟨y, hy⟩ : ∃ y, m.2.2.2.2.2.2.2.2.2.2.2.1.2.2.2.2.2.1.list[k]? = some y := ⟨_, List.getElem?_eq_getElem (by rw [Sl.list_length]; omega)⟩
            have hym := List.mem_of_getElem? hy
            have hy1 := hT4 y hym
            have hs1 := shS_len y
            have hst5 := foldD_snoc2 (f := shS) (s := (foldD dS (⟨#[100, 121, 108, 105, 110, 107]⟩ : ByteArray) [m.2.2.2.2.2.2.2.2.2.2.2.1.2.1, m.2.2.2.2.2.2.2.2.2.2.2.1.2.2.1, m.2.2.2.2.2.2.2.2.2.2.2.1.2.2.2.1, m.2.2.2.2.2.2.2.2.2.2.2.1.2.2.2.2.1])) hy
            refine wp_region_lit ?_
            refine sqv hf (r_move rfl) rfl rfl rfl ?_; clear hf fa; intro fa hf
            refine sqv hf (r_sadd rfl rfl (by have : ((⟨#[32]⟩) : ByteArray).size = 1 := rfl; omega)) rfl rfl rfl ?_; clear hf fa; intro fa hf
            refine sqv hf (r_fa rfl Try.underlying34 (f := 5) (q := 5) rfl (by kernel_rfl) rfl) rfl rfl rfl ?_; clear hf fa; intro fa hf
            refine sqv hf (r_load (v := (.slice m.2.2.2.2.2.2.2.2.2.2.2.1.2.2.2.2.2.1.at' m.2.2.2.2.2.2.2.2.2.2.2.1.2.2.2.2.2.1.len m.2.2.2.2.2.2.2.2.2.2.2.1.2.2.2.2.2.1.cap)) rfl Try.underlying32 rfl (cell_blk hkb2 rfl)) rfl rfl rfl ?_; clear hf fa; intro fa hf
            refine sqv hf (r_move rfl) rfl rfl rfl ?_; clear hf fa; intro fa hf
            have hy1 : (m.2.2.2.2.2.2.2.2.2.2.2.1.2.2.2.2.2.1.list)[k]? = some y := hy
            obtain ⟨ab1, aoff1, hat1, hlb1, hel1⟩ := RdS.at (RdS.of_arg g.2.2.2.2.2.2.2.2.2.2.2.1.2.2.2.2.2.1.2) hy1
            refine sqv hf (r_ixa (sz := 1) (j := k) (evAt rfl hat1) rfl Try.underlying32 (by kernel_rfl) rfl (by omega) rfl) rfl rfl rfl ?_; clear hf fa; intro fa hf
            refine sqv hf (r_load (v := (.string y)) rfl Try.underlying9 rfl (cellsAt_cell (cellsAt_below hel1 hb hlb1) (i := 0) rfl rfl)) rfl rfl rfl ?_; clear hf fa; intro fa hf
            refine sqdt hf (d_callB (vs := [(.string y)]) rfl Try.func46 (by kernel_rfl) (by kernel_rfl) (refShowS_any y _ (by omega))) rfl rfl rfl ?_; clear hf fa; rintro fa _ w6 ⟨rfl, he4⟩ hf
            replace hkb1 := blk_ext hkb1 he4
            replace hkb2 := blk_ext hkb2 he4
            replace hb := hb.trans (Below.mono he4 hb.size)
            refine sqv hf (r_sadd rfl rfl (by have : ((⟨#[32]⟩) : ByteArray).size = 1 := rfl; have := sz_app (foldD shS (foldD dS (⟨#[100, 121, 108, 105, 110, 107]⟩ : ByteArray) [m.2.2.2.2.2.2.2.2.2.2.2.1.2.1, m.2.2.2.2.2.2.2.2.2.2.2.1.2.2.1, m.2.2.2.2.2.2.2.2.2.2.2.1.2.2.2.1, m.2.2.2.2.2.2.2.2.2.2.2.1.2.2.2.2.1]) (m.2.2.2.2.2.2.2.2.2.2.2.1.2.2.2.2.2.1.list.take k)) (⟨#[32]⟩ : ByteArray); omega)) rfl rfl rfl ?_; clear hf fa; intro fa hf
            refine sqv hf (r_assign rfl) rfl rfl rfl ?_; clear hf fa; intro fa hf
            apply wpList_nil
            (try simp only [Exit.then, Exit.inBlock, ↓reduceIte, Nat.reduceEqDiff])
            refine hK11 _ _ ?_
            refine wp_region_lit ?_
            refine sqv hf (r_move rfl) rfl rfl rfl ?_; clear hf fa; intro fa hf
            refine sqv hf (r_add (C := (((k : Nat) : Int) + (1 : Int))) rfl rfl (by rw [IntKind.wrap_i64]; omega)) rfl rfl rfl ?_; clear hf fa; intro fa hf
            refine sqv hf (r_assign rfl) rfl rfl rfl ?_; clear hf fa; intro fa hf
            apply wpList_nil
            (try simp only [Exit.then, Exit.inBlock, ↓reduceIte, Nat.reduceEqDiff])
            refine hKL1 _ _ _ (by omega) ⟨(k + 1), rfl, hf.sub ⟨rfl, rfl, (some_str (by first | rfl | assumption | simp)), (some_int (by first | rfl | omega)), rfl, trivial⟩, hb, hkb1, hkb2, by omega⟩
          · have hqt44_1b := hqt44_1
            replace hqt44_1 := Bool.eq_false_iff.1 hqt44_1
            try simp only [ne_eq, decide_eq_true_eq, Bool.and_eq_true, Bool.or_eq_true, Bool.not_eq_true', decide_eq_false_iff_not] at hqt44_1
            refine wp_exit ?_
            (try simp only [Exit.then, Exit.inBlock, ↓reduceIte, Nat.reduceEqDiff])
            refine hK7 _ _ ?_
            refine wp_region_lit ?_
            refine sqv hf (r_move rfl) rfl rfl rfl ?_; clear hf fa; intro fa hf
            refine sqv hf (r_move rfl) rfl rfl rfl ?_; clear hf fa; intro fa hf
            refine sqdt hf (d_bslice (z := (.string ⟨#[]⟩)) (sz := 1) (vs := [(0, (.string (foldD shS (foldD dS (⟨#[100, 121, 108, 105, 110, 107]⟩ : ByteArray) [m.2.2.2.2.2.2.2.2.2.2.2.1.2.1, m.2.2.2.2.2.2.2.2.2.2.2.1.2.2.1, m.2.2.2.2.2.2.2.2.2.2.2.1.2.2.2.1, m.2.2.2.2.2.2.2.2.2.2.2.1.2.2.2.2.1]) (m.2.2.2.2.2.2.2.2.2.2.2.1.2.2.2.2.2.1.list.take k))))]) (cs := #[(.string (foldD shS (foldD dS (⟨#[100, 121, 108, 105, 110, 107]⟩ : ByteArray) [m.2.2.2.2.2.2.2.2.2.2.2.1.2.1, m.2.2.2.2.2.2.2.2.2.2.2.1.2.2.1, m.2.2.2.2.2.2.2.2.2.2.2.1.2.2.2.1, m.2.2.2.2.2.2.2.2.2.2.2.1.2.2.2.2.1]) (m.2.2.2.2.2.2.2.2.2.2.2.1.2.2.2.2.2.1.list.take k)))]) rfl Try.underlying32 (by kernel_rfl) rfl (by kernel_rfl)) rfl rfl rfl ?_; clear hf fa; rintro fa _ w7 ⟨b3, rfl, hle3, hk4, he5⟩ hf
            have hBb3 : w.heap.size ≤ b3 := Nat.le_trans hb.size hle3
            have : b1 < b3 := Nat.lt_of_lt_of_le (blk_lt hkb1) hle3
            have : b2 < b3 := Nat.lt_of_lt_of_le (blk_lt hkb2) hle3
            replace hkb1 := blk_ext hkb1 he5
            replace hkb2 := blk_ext hkb2 he5
            replace hb := hb.trans (Below.mono he5 hb.size)
            have hr1 : Row 1 vStr 9 (w.heap.size) w7 (.slice none 0 0) [] := Row.nil
            have hs1 := Row.rd (by intros; rfl) (Row.of_new (k := 1) (V := vStr) (l := [(foldD shS (foldD dS (⟨#[100, 121, 108, 105, 110, 107]⟩ : ByteArray) [m.2.2.2.2.2.2.2.2.2.2.2.1.2.1, m.2.2.2.2.2.2.2.2.2.2.2.1.2.2.1, m.2.2.2.2.2.2.2.2.2.2.2.1.2.2.2.1, m.2.2.2.2.2.2.2.2.2.2.2.1.2.2.2.2.1]) (m.2.2.2.2.2.2.2.2.2.2.2.1.2.2.2.2.2.1.list.take k))]) hk4 (Nat.le_refl _) rfl rfl (Nat.le_of_ble_eq_true rfl))
            refine sqdt hf (d_append (V := vStr) (k := 1) (e := 9) (bytes := 16) (z := (.string ⟨#[]⟩)) (news := [(foldD shS (foldD dS (⟨#[100, 121, 108, 105, 110, 107]⟩ : ByteArray) [m.2.2.2.2.2.2.2.2.2.2.2.1.2.1, m.2.2.2.2.2.2.2.2.2.2.2.1.2.2.1, m.2.2.2.2.2.2.2.2.2.2.2.1.2.2.2.1, m.2.2.2.2.2.2.2.2.2.2.2.1.2.2.2.2.1]) (m.2.2.2.2.2.2.2.2.2.2.2.1.2.2.2.2.2.1.list.take k))]) (base := w.heap.size) (by intros; rfl) (by intro x u hu; simp only [vStr, List.mem_singleton] at hu; subst hu; rfl) rfl rfl Try.underlying32 (by kernel_rfl) rfl rfl rfl hr1 hs1 rfl (fun h => by cases h) (by first | omega | (simp only [List.length_cons, List.length_nil, List.length_append, nums_len, List.length_map, List.length_take, Sl.list_length]; omega)) (by have := hb.size; omega)) rfl rfl rfl ?_; clear hf fa; rintro fa v w8 ⟨hr2, hg2⟩ hf; obtain ⟨ra1, rc1, rfl, hcrc1, hmrc1⟩ := Row.slice hr2
            replace hkb1 := blk_row' hkb1 hg2 (Row.ne_type hr1 hkb1 rfl)
            replace hkb2 := blk_row' hkb2 hg2 (Row.ne_type hr1 hkb2 rfl)
            replace hb := hb.trans (row_below hr1 hg2 hb.size (by have := hb.size; omega))
            simp only [List.nil_append] at hr2
            refine sqv hf (r_assign rfl) rfl rfl rfl ?_; clear hf fa; intro fa hf
            apply wpList_nil
            (try simp only [Exit.then, Exit.inBlock, ↓reduceIte, Nat.reduceEqDiff])
            have hhd := congrArg List.length (hd_yes hqt14_1 (k := k) (by omega)); rw [List.length_singleton] at hhd
            exact hKC1 _ _ ⟨ra1, rc1, hf.sub ⟨rfl, (some_sl (by first | omega | rfl | (simp only [List.length_append, List.length_cons, List.length_nil]; omega) | (simp <;> omega)) rfl), trivial⟩, hb, (rowToE hr2 (hd_yes hqt14_1 (by omega))), hkb1⟩
    · have hqt14_1b := hqt14_1
      replace hqt14_1 := Bool.eq_false_iff.1 hqt14_1
      try simp only [ne_eq, decide_eq_true_eq, Bool.and_eq_true, Bool.or_eq_true, Bool.not_eq_true', decide_eq_false_iff_not] at hqt14_1
      refine wp_skip ?_
      (try simp only [Exit.then, Exit.inBlock, ↓reduceIte, Nat.reduceEqDiff])
      have hhd : 0 = (hdL m).length := congrArg List.length (hd_no (by simpa using hqt14_1))
      exact hKC1 _ _ ⟨none, 0, hf.sub ⟨rfl, (some_sl (by first | omega | rfl | (simp only [List.length_append, List.length_cons, List.length_nil]; omega) | (simp <;> omega)) rfl), trivial⟩, hb, (rowToE (l := []) Row.nil (hd_no (by simpa using hqt14_1))), hk1⟩
  · clear hf hb fa hk1
    rintro fa w9 ⟨roa, roc, hf, hb, hro, hkb1⟩
    have hcro := Row.caps hro
    refine wp_seq_k (fun K12 hK12 => ?_)
    refine wp_seq_k (fun K13 hK13 => ?_)
    refine wp_region_lit ?_
    refine sqv hf (r_assign rfl) rfl rfl rfl ?_; clear hf fa; intro fa hf
    apply wpList_nil
    (try simp only [Exit.then, Exit.inBlock, ↓reduceIte, Nat.reduceEqDiff])
    refine hK13 _ _ ?_
    refine wp_block ?_
    refine wp_loop_k (fun mq fa wr => ∃ (k : Nat) (roa : Option Addr) (roc : Nat), mq = m.1.len - k ∧ Fr 168 fa [(1, (.pointer (some ⟨b1, 0, none⟩))), (7, (.int .i64 ((k : Nat) : Int))), (3, (.slice roa (((hdL m ++ (m.1.list.take k).map tyLn)).length) roc))] ∧ Below w.heap.size w wr ∧ Row 1 vStr 9 (w.heap.size) wr (.slice roa (((hdL m ++ (m.1.list.take k).map tyLn)).length) roc) (hdL m ++ (m.1.list.take k).map tyLn) ∧ wr.heap[b1]? = some (.cells #[(.slice m.1.at' m.1.len m.1.cap), (.slice m.2.1.at' m.2.1.len m.2.1.cap), (.slice m.2.2.1.at' m.2.2.1.len m.2.2.1.cap), (.slice m.2.2.2.1.at' m.2.2.2.1.len m.2.2.2.1.cap), (.slice m.2.2.2.2.1.at' m.2.2.2.2.1.len m.2.2.2.2.1.cap), (.slice m.2.2.2.2.2.1.at' m.2.2.2.2.2.1.len m.2.2.2.2.2.1.cap), (.slice m.2.2.2.2.2.2.1.at' m.2.2.2.2.2.2.1.len m.2.2.2.2.2.2.1.cap), (.int .i64 m.2.2.2.2.2.2.2.1), (.slice m.2.2.2.2.2.2.2.2.1.at' m.2.2.2.2.2.2.2.2.1.len m.2.2.2.2.2.2.2.2.1.cap), (.slice m.2.2.2.2.2.2.2.2.2.1.at' m.2.2.2.2.2.2.2.2.2.1.len m.2.2.2.2.2.2.2.2.2.1.cap), (.slice m.2.2.2.2.2.2.2.2.2.2.1.at' m.2.2.2.2.2.2.2.2.2.2.1.len m.2.2.2.2.2.2.2.2.2.2.1.cap), (.bool m.2.2.2.2.2.2.2.2.2.2.2.1.1), (.int .u32 m.2.2.2.2.2.2.2.2.2.2.2.1.2.1), (.int .u32 m.2.2.2.2.2.2.2.2.2.2.2.1.2.2.1), (.int .u32 m.2.2.2.2.2.2.2.2.2.2.2.1.2.2.2.1), (.int .u32 m.2.2.2.2.2.2.2.2.2.2.2.1.2.2.2.2.1), (.slice m.2.2.2.2.2.2.2.2.2.2.2.1.2.2.2.2.2.1.at' m.2.2.2.2.2.2.2.2.2.2.2.1.2.2.2.2.2.1.len m.2.2.2.2.2.2.2.2.2.2.2.1.2.2.2.2.2.1.cap)] 36 (0, 0)) ∧ (k ≤ m.1.len)) ?_ ?_
    · skip
      exact ⟨_, 0, roa, roc, rfl, hf.sub ⟨rfl, (some_int (by first | rfl | omega)), (some_sl (by first | omega | rfl | (simp only [List.length_append, List.length_cons, List.length_nil]; omega) | (simp <;> omega)) rfl), trivial⟩, hb, (rowToE hro (by simp)), hkb1, by omega⟩
    · skip
      clear hf fa; intro mq2 fa w10 hI KL2 hKL2
      clear hb
      clear hkb1
      clear hro
      obtain ⟨k, roa, roc, hmq2, hf, hb, hro, hkb1, hk⟩ := hI
      have hcro := Row.caps hro
      have hol : (hdL m ++ (m.1.list.take k).map tyLn).length ≤ 200 := by rw [List.length_append, List.length_map, List.length_take, Sl.list_length]; omega
      refine wp_seq_k (fun K14 hK14 => ?_)
      refine wp_seq_k (fun K15 hK15 => ?_)
      refine wp_region_lit ?_
      refine sqv hf (r_move rfl) rfl rfl rfl ?_; clear hf fa; intro fa hf
      refine sqv hf (r_fa rfl Try.underlying36 (f := 0) (q := 0) rfl (by kernel_rfl) rfl) rfl rfl rfl ?_; clear hf fa; intro fa hf
      refine sqv hf (r_load (v := (.slice m.1.at' m.1.len m.1.cap)) rfl Try.underlying22 rfl (cell_blk hkb1 rfl)) rfl rfl rfl ?_; clear hf fa; intro fa hf
      refine sqv hf (r_lensl rfl Try.underlying22) rfl rfl rfl ?_; clear hf fa; intro fa hf
      refine sqv hf (r_lt rfl rfl) rfl rfl rfl ?_; clear hf fa; intro fa hf
      apply wpList_nil
      (try simp only [Exit.then, Exit.inBlock, ↓reduceIte, Nat.reduceEqDiff])
      refine hK15 _ _ ?_
      refine wp_cond_split (t := (decide (((k : Nat) : Int) < ((m.1.len : Nat) : Int)))) (hf.ev rfl) (fun hqt64_1 => ?_) (fun hqt64_1 => ?_)
      · have hqt64_1b := hqt64_1
        try simp only [decide_eq_true_eq, Bool.and_eq_true, Bool.or_eq_true, Bool.not_eq_true', decide_eq_false_iff_not, ne_eq, Bool.not_eq_true] at hqt64_1
        refine wp_skip ?_
        (try simp only [Exit.then, Exit.inBlock, ↓reduceIte, Nat.reduceEqDiff])
        refine hK14 _ _ ?_
        refine wp_seq_k (fun K16 hK16 => ?_)
        refine wp_block ?_
        obtain ⟨y, hy⟩ : ∃ y, m.1.list[k]? = some y := ⟨_, List.getElem?_eq_getElem (by rw [Sl.list_length]; omega)⟩
        have hym := List.mem_of_getElem? hy
        have hy1 := hT1 y hym
        have htx := textP_len y hy1
        refine wp_region_lit ?_
        refine sqv hf (r_move rfl) rfl rfl rfl ?_; clear hf fa; intro fa hf
        refine sqv hf (r_fa rfl Try.underlying36 (f := 0) (q := 0) rfl (by kernel_rfl) rfl) rfl rfl rfl ?_; clear hf fa; intro fa hf
        refine sqv hf (r_load (v := (.slice m.1.at' m.1.len m.1.cap)) rfl Try.underlying22 rfl (cell_blk hkb1 rfl)) rfl rfl rfl ?_; clear hf fa; intro fa hf
        refine sqv hf (r_move rfl) rfl rfl rfl ?_; clear hf fa; intro fa hf
        have hy2 : (m.1.list)[k]? = some y := hy
        obtain ⟨ab2, aoff2, hat2, hlb2, hel2⟩ := RdS.at (RdS.of_arg g.1.2) hy2
        refine sqv hf (r_ixa (sz := 2) (j := k) (evAt rfl hat2) rfl Try.underlying22 (by kernel_rfl) rfl (by omega) rfl) rfl rfl rfl ?_; clear hf fa; intro fa hf
        refine sqv hf (r_loadA (cs := [(.string y.1), (.string y.2.1)]) rfl Try.underlying95 rfl (by kernel_rfl) (cellsAt_below hel2 hb hlb2)) rfl rfl rfl ?_; clear hf fa; intro fa hf
        refine sqdt hf (d_callB (vs := [(.agg #[(.string y.1), (.string y.2.1)])]) rfl Try.func47 (by kernel_rfl) (by kernel_rfl) (rtext_any y _ (by omega) (by omega))) rfl rfl rfl ?_; clear hf fa; rintro fa _ w11 ⟨rfl, he6⟩ hf
        replace hkb1 := blk_ext hkb1 he6
        replace hro := Row.ext hro he6
        replace hb := hb.trans (Below.mono he6 hb.size)
        refine sqv hf (r_sadd rfl rfl (by have : ((⟨#[116, 121, 112, 101, 32]⟩) : ByteArray).size = 5 := rfl; omega)) rfl rfl rfl ?_; clear hf fa; intro fa hf
        refine sqdt hf (d_bslice (z := (.string ⟨#[]⟩)) (sz := 1) (vs := [(0, (.string ((⟨#[116, 121, 112, 101, 32]⟩ : ByteArray) ++ (textP y))))]) (cs := #[(.string ((⟨#[116, 121, 112, 101, 32]⟩ : ByteArray) ++ (textP y)))]) rfl Try.underlying32 (by kernel_rfl) rfl (by kernel_rfl)) rfl rfl rfl ?_; clear hf fa; rintro fa _ w12 ⟨b4, rfl, hle4, hk5, he7⟩ hf
        have hBb4 : w.heap.size ≤ b4 := Nat.le_trans hb.size hle4
        have : b1 < b4 := Nat.lt_of_lt_of_le (blk_lt hkb1) hle4
        have hnr1 : (Value.slice roa ((((hdL m ++ (m.1.list.take k).map tyLn)).length)) roc).ownBlock ≠ some b4 := fun hq => by have := (Row.lt hro _ hq).2; omega
        have hnl1 : ∀ q, (Value.slice roa ((((hdL m ++ (m.1.list.take k).map tyLn)).length)) roc).ownBlock = some q → q < b4 := fun q hq => Nat.lt_of_lt_of_le (Row.lt hro q hq).2 hle4
        replace hkb1 := blk_ext hkb1 he7
        replace hro := Row.ext hro he7
        replace hb := hb.trans (Below.mono he7 hb.size)
        have hs2 := Row.rd (by intros; rfl) (Row.of_new (k := 1) (V := vStr) (l := [((⟨#[116, 121, 112, 101, 32]⟩ : ByteArray) ++ (textP y))]) hk5 (Nat.le_refl _) rfl rfl (Nat.le_of_ble_eq_true rfl))
        refine sqdt hf (d_append (V := vStr) (k := 1) (e := 9) (bytes := 16) (z := (.string ⟨#[]⟩)) (news := [((⟨#[116, 121, 112, 101, 32]⟩ : ByteArray) ++ (textP y))]) (base := w.heap.size) (by intros; rfl) (by intro x u hu; simp only [vStr, List.mem_singleton] at hu; subst hu; rfl) rfl rfl Try.underlying32 (by kernel_rfl) rfl rfl rfl hro hs2 rfl (fun h => by cases h) (by first | omega | (simp only [List.length_cons, List.length_nil, List.length_append, nums_len, List.length_map, List.length_take, Sl.list_length]; omega)) (by have := hb.size; omega)) rfl rfl rfl ?_; clear hf fa; rintro fa v w13 ⟨hr3, hg3⟩ hf; obtain ⟨ra2, rc2, rfl, hcrc2, hmrc2⟩ := Row.slice hr3
        replace hkb1 := blk_row' hkb1 hg3 (Row.ne_type hro hkb1 rfl)
        replace hb := hb.trans (row_below hro hg3 hb.size (by have := hb.size; omega))
        refine sqv hf (r_assign rfl) rfl rfl rfl ?_; clear hf fa; intro fa hf
        apply wpList_nil
        (try simp only [Exit.then, Exit.inBlock, ↓reduceIte, Nat.reduceEqDiff])
        refine hK16 _ _ ?_
        refine wp_region_lit ?_
        refine sqv hf (r_move rfl) rfl rfl rfl ?_; clear hf fa; intro fa hf
        refine sqv hf (r_add (C := (((k : Nat) : Int) + (1 : Int))) rfl rfl (by rw [IntKind.wrap_i64]; omega)) rfl rfl rfl ?_; clear hf fa; intro fa hf
        refine sqv hf (r_assign rfl) rfl rfl rfl ?_; clear hf fa; intro fa hf
        apply wpList_nil
        (try simp only [Exit.then, Exit.inBlock, ↓reduceIte, Nat.reduceEqDiff])
        have hrl : ((m.1.list.take (k + 1)).map tyLn).length = ((m.1.list.take k).map tyLn).length + 1 := by rw [take_at hy, List.map_append, List.length_append]; rfl
        refine hKL2 _ _ _ (by omega) ⟨(k + 1), ra2, rc2, rfl, hf.sub ⟨rfl, (some_int (by first | rfl | omega)), (some_sl (by first | omega | rfl | (simp only [List.length_append, List.length_cons, List.length_nil]; omega) | (simp <;> omega)) rfl), trivial⟩, hb, (rowToE hr3 (map_snoc (f := tyLn) (p := hdL m) hy)), hkb1, by omega⟩
      · have hqt64_1b := hqt64_1
        replace hqt64_1 := Bool.eq_false_iff.1 hqt64_1
        try simp only [ne_eq, decide_eq_true_eq, Bool.and_eq_true, Bool.or_eq_true, Bool.not_eq_true', decide_eq_false_iff_not] at hqt64_1
        refine wp_exit ?_
        (try simp only [Exit.then, Exit.inBlock, ↓reduceIte, Nat.reduceEqDiff])
        refine hK12 _ _ ?_
        refine wp_seq_k (fun K17 hK17 => ?_)
        refine wp_seq_k (fun K18 hK18 => ?_)
        have hq1 : hdL m ++ (m.1.list.take k).map tyLn = tyL m ++ (m.2.1.list.take 0).map imLn := by rw [List.take_of_length_le (by rw [Sl.list_length]; omega), List.take_zero, List.map_nil, List.append_nil]; rfl
        have hq1l := congrArg List.length hq1
        refine wp_region_lit ?_
        refine sqv hf (r_assign rfl) rfl rfl rfl ?_; clear hf fa; intro fa hf
        apply wpList_nil
        (try simp only [Exit.then, Exit.inBlock, ↓reduceIte, Nat.reduceEqDiff])
        refine hK18 _ _ ?_
        refine wp_block ?_
        refine wp_loop_k (fun mq fa wr => ∃ (k : Nat) (roa : Option Addr) (roc : Nat), mq = m.2.1.len - k ∧ Fr 168 fa [(1, (.pointer (some ⟨b1, 0, none⟩))), (8, (.int .i64 ((k : Nat) : Int))), (3, (.slice roa (((tyL m ++ (m.2.1.list.take k).map imLn)).length) roc))] ∧ Below w.heap.size w wr ∧ Row 1 vStr 9 (w.heap.size) wr (.slice roa (((tyL m ++ (m.2.1.list.take k).map imLn)).length) roc) (tyL m ++ (m.2.1.list.take k).map imLn) ∧ wr.heap[b1]? = some (.cells #[(.slice m.1.at' m.1.len m.1.cap), (.slice m.2.1.at' m.2.1.len m.2.1.cap), (.slice m.2.2.1.at' m.2.2.1.len m.2.2.1.cap), (.slice m.2.2.2.1.at' m.2.2.2.1.len m.2.2.2.1.cap), (.slice m.2.2.2.2.1.at' m.2.2.2.2.1.len m.2.2.2.2.1.cap), (.slice m.2.2.2.2.2.1.at' m.2.2.2.2.2.1.len m.2.2.2.2.2.1.cap), (.slice m.2.2.2.2.2.2.1.at' m.2.2.2.2.2.2.1.len m.2.2.2.2.2.2.1.cap), (.int .i64 m.2.2.2.2.2.2.2.1), (.slice m.2.2.2.2.2.2.2.2.1.at' m.2.2.2.2.2.2.2.2.1.len m.2.2.2.2.2.2.2.2.1.cap), (.slice m.2.2.2.2.2.2.2.2.2.1.at' m.2.2.2.2.2.2.2.2.2.1.len m.2.2.2.2.2.2.2.2.2.1.cap), (.slice m.2.2.2.2.2.2.2.2.2.2.1.at' m.2.2.2.2.2.2.2.2.2.2.1.len m.2.2.2.2.2.2.2.2.2.2.1.cap), (.bool m.2.2.2.2.2.2.2.2.2.2.2.1.1), (.int .u32 m.2.2.2.2.2.2.2.2.2.2.2.1.2.1), (.int .u32 m.2.2.2.2.2.2.2.2.2.2.2.1.2.2.1), (.int .u32 m.2.2.2.2.2.2.2.2.2.2.2.1.2.2.2.1), (.int .u32 m.2.2.2.2.2.2.2.2.2.2.2.1.2.2.2.2.1), (.slice m.2.2.2.2.2.2.2.2.2.2.2.1.2.2.2.2.2.1.at' m.2.2.2.2.2.2.2.2.2.2.2.1.2.2.2.2.2.1.len m.2.2.2.2.2.2.2.2.2.2.2.1.2.2.2.2.2.1.cap)] 36 (0, 0)) ∧ (k ≤ m.2.1.len)) ?_ ?_
        · skip
          exact ⟨_, 0, roa, roc, rfl, hf.sub ⟨rfl, (some_int (by first | rfl | omega)), (some_sl (by first | omega | rfl | (simp only [List.length_append, List.length_cons, List.length_nil]; omega) | (simp <;> omega)) rfl), trivial⟩, hb, (rowToE hro hq1), hkb1, by omega⟩
        · skip
          clear hf fa; intro mq3 fa w14 hI KL3 hKL3
          clear hb
          clear hkb1
          clear hro
          obtain ⟨k, roa, roc, hmq3, hf, hb, hro, hkb1, hk⟩ := hI
          have hcro := Row.caps hro
          have hol : (tyL m ++ (m.2.1.list.take k).map imLn).length ≤ 200 := by rw [List.length_append, List.length_map, List.length_take, Sl.list_length]; omega
          refine wp_seq_k (fun K19 hK19 => ?_)
          refine wp_seq_k (fun K20 hK20 => ?_)
          refine wp_region_lit ?_
          refine sqv hf (r_move rfl) rfl rfl rfl ?_; clear hf fa; intro fa hf
          refine sqv hf (r_fa rfl Try.underlying36 (f := 1) (q := 1) rfl (by kernel_rfl) rfl) rfl rfl rfl ?_; clear hf fa; intro fa hf
          refine sqv hf (r_load (v := (.slice m.2.1.at' m.2.1.len m.2.1.cap)) rfl Try.underlying23 rfl (cell_blk hkb1 rfl)) rfl rfl rfl ?_; clear hf fa; intro fa hf
          refine sqv hf (r_lensl rfl Try.underlying23) rfl rfl rfl ?_; clear hf fa; intro fa hf
          refine sqv hf (r_lt rfl rfl) rfl rfl rfl ?_; clear hf fa; intro fa hf
          apply wpList_nil
          (try simp only [Exit.then, Exit.inBlock, ↓reduceIte, Nat.reduceEqDiff])
          refine hK20 _ _ ?_
          refine wp_cond_split (t := (decide (((k : Nat) : Int) < ((m.2.1.len : Nat) : Int)))) (hf.ev rfl) (fun hqt81_1 => ?_) (fun hqt81_1 => ?_)
          · have hqt81_1b := hqt81_1
            try simp only [decide_eq_true_eq, Bool.and_eq_true, Bool.or_eq_true, Bool.not_eq_true', decide_eq_false_iff_not, ne_eq, Bool.not_eq_true] at hqt81_1
            refine wp_skip ?_
            (try simp only [Exit.then, Exit.inBlock, ↓reduceIte, Nat.reduceEqDiff])
            refine hK19 _ _ ?_
            refine wp_seq_k (fun K21 hK21 => ?_)
            refine wp_block ?_
            refine wp_seq_k (fun K22 hK22 => ?_)
            obtain ⟨y, hy⟩ : ∃ y, m.2.1.list[k]? = some y := ⟨_, List.getElem?_eq_getElem (by rw [Sl.list_length]; omega)⟩
            have hym := List.mem_of_getElem? hy
            have hy1 := hT2 y hym
            have hs1 := shS_len y.1; have hs2 := shS_len y.2.1
            have hk8 := fInt_u8 (fSl_el g.2.1.2 hy).2.2.1
            have ht8 := fInt_u32 (fSl_el g.2.1.2 hy).2.2.2.1
            have h18 := fInt_u32 (fSl_el g.2.1.2 hy).2.2.2.2.1.1
            have h28 := fInt_u32 (fSl_el g.2.1.2 hy).2.2.2.2.1.2.1
            have h38 := fInt_u8 (fSl_el g.2.1.2 hy).2.2.2.2.2.1.1
            have htl8 := taken_len y hk8 ht8 h18 h28 h38
            have hkl := kindS_len y.2.2.1
            refine wp_region_lit ?_
            refine sqv hf (r_fa rfl Try.underlying36 (f := 1) (q := 1) rfl (by kernel_rfl) rfl) rfl rfl rfl ?_; clear hf fa; intro fa hf
            refine sqv hf (r_load (v := (.slice m.2.1.at' m.2.1.len m.2.1.cap)) rfl Try.underlying23 rfl (cell_blk hkb1 rfl)) rfl rfl rfl ?_; clear hf fa; intro fa hf
            refine sqv hf (r_move rfl) rfl rfl rfl ?_; clear hf fa; intro fa hf
            have hy3 : (m.2.1.list)[k]? = some y := hy
            obtain ⟨ab3, aoff3, hat3, hlb3, hel3⟩ := RdS.at (RdS.of_arg g.2.1.2) hy3
            refine sqv hf (r_ixa (sz := 9) (j := k) (evAt rfl hat3) rfl Try.underlying23 (by kernel_rfl) rfl (by omega) rfl) rfl rfl rfl ?_; clear hf fa; intro fa hf
            refine sqv hf (r_loadA (cs := [(.string y.1), (.string y.2.1), (.int .u8 y.2.2.1), (.int .u32 y.2.2.2.1), (.int .u32 y.2.2.2.2.1.1), (.int .u32 y.2.2.2.2.1.2.1), (.bool y.2.2.2.2.1.2.2.1), (.int .u8 y.2.2.2.2.2.1.1), (.bool y.2.2.2.2.2.1.2.1)]) rfl Try.underlying100 rfl (by kernel_rfl) (cellsAt_below hel3 hb hlb3)) rfl rfl rfl ?_; clear hf fa; intro fa hf
            refine sqdt hf (d_alloc (z := (.agg #[(.string ⟨#[]⟩), (.string ⟨#[]⟩), (.int .u8 (0 : Int)), (.int .u32 (0 : Int)), (.int .u32 (0 : Int)), (.int .u32 (0 : Int)), (.bool false), (.int .u8 (0 : Int)), (.bool false)])) (cs := #[(.string ⟨#[]⟩), (.string ⟨#[]⟩), (.int .u8 (0 : Int)), (.int .u32 (0 : Int)), (.int .u32 (0 : Int)), (.int .u32 (0 : Int)), (.bool false), (.int .u8 (0 : Int)), (.bool false)]) (by kernel_rfl) rfl) rfl rfl rfl ?_; clear hf fa; rintro fa _ w15 ⟨b5, rfl, hle5, hk6, he8⟩ hf
            have hBb5 : w.heap.size ≤ b5 := Nat.le_trans hb.size hle5
            have : b1 < b5 := Nat.lt_of_lt_of_le (blk_lt hkb1) hle5
            replace hkb1 := blk_ext hkb1 he8
            replace hro := Row.ext hro he8
            replace hb := hb.trans (Below.mono he8 hb.size)
            refine sqn hf (d_storeK (T := 100) (v := (.agg #[(.string y.1), (.string y.2.1), (.int .u8 y.2.2.1), (.int .u32 y.2.2.2.1), (.int .u32 y.2.2.2.2.1.1), (.int .u32 y.2.2.2.2.1.2.1), (.bool y.2.2.2.2.1.2.2.1), (.int .u8 y.2.2.2.2.2.1.1), (.bool y.2.2.2.2.2.1.2.1)])) (cs := #[(.string ⟨#[]⟩), (.string ⟨#[]⟩), (.int .u8 (0 : Int)), (.int .u32 (0 : Int)), (.int .u32 (0 : Int)), (.int .u32 (0 : Int)), (.bool false), (.int .u8 (0 : Int)), (.bool false)]) (cs' := #[(.string y.1), (.string y.2.1), (.int .u8 y.2.2.1), (.int .u32 y.2.2.2.1), (.int .u32 y.2.2.2.2.1.1), (.int .u32 y.2.2.2.2.1.2.1), (.bool y.2.2.2.2.1.2.2.1), (.int .u8 y.2.2.2.2.2.1.1), (.bool y.2.2.2.2.2.1.2.1)]) rfl rfl (by kernel_rfl) (by kernel_rfl) hk6 (by kernel_rfl) (by kernel_rfl)) rfl rfl ?_; clear hf fa; rintro fa _ w16 ⟨hk7, hg4⟩ hf
            replace hkb1 := blk_grown hkb1 hg4 (by omega)
            replace hro := Row.grown hro hg4 (Row.ne_type hro hk6 rfl)
            replace hb := hb.trans (grown_below hg4 hb.size hBb5)
            apply wpList_nil
            (try simp only [Exit.then, Exit.inBlock, ↓reduceIte, Nat.reduceEqDiff])
            refine hK22 _ _ ?_
            refine wp_region_unT 21 (fun wq => Below w16.heap.size w16 wq) (fun w w' => Below w.heap.size w w')
              (fun V => [(fun x _ => x = (.slice roa (((tyL m ++ (m.2.1.list.take k).map imLn)).length) roc)), (fun x _ => x = (.pointer (some ⟨b5, 0, none⟩))), (fun x _ => x = (.string y.1)), (fun x _ => x = (.string (shS y.1))), (fun x _ => x = (.string ((⟨#[105, 109, 112, 111, 114, 116, 32]⟩ : ByteArray) ++ (shS y.1)))), (fun x _ => x = (.string (((⟨#[105, 109, 112, 111, 114, 116, 32]⟩ : ByteArray) ++ (shS y.1)) ++ (⟨#[32]⟩ : ByteArray)))), (fun x _ => x = (.pointer (some ⟨b5, 1, none⟩))), (fun x _ => x = (.string y.2.1)), (fun x _ => x = (.string (shS y.2.1))), (fun x _ => x = (.string ((((⟨#[105, 109, 112, 111, 114, 116, 32]⟩ : ByteArray) ++ (shS y.1)) ++ (⟨#[32]⟩ : ByteArray)) ++ (shS y.2.1)))), (fun x _ => x = (.string (((((⟨#[105, 109, 112, 111, 114, 116, 32]⟩ : ByteArray) ++ (shS y.1)) ++ (⟨#[32]⟩ : ByteArray)) ++ (shS y.2.1)) ++ (⟨#[32]⟩ : ByteArray)))), (fun x _ => x = (.pointer (some ⟨b5, 2, none⟩))), (fun x _ => x = (.int .u8 y.2.2.1)), (fun x _ => x = (.int .i64 y.2.2.1)), (fun x _ => x = (.string (kindS y.2.2.1))), (fun x _ => x = (.string ((((((⟨#[105, 109, 112, 111, 114, 116, 32]⟩ : ByteArray) ++ (shS y.1)) ++ (⟨#[32]⟩ : ByteArray)) ++ (shS y.2.1)) ++ (⟨#[32]⟩ : ByteArray)) ++ (kindS y.2.2.1)))), (fun x _ => x = (.string (((((((⟨#[105, 109, 112, 111, 114, 116, 32]⟩ : ByteArray) ++ (shS y.1)) ++ (⟨#[32]⟩ : ByteArray)) ++ (shS y.2.1)) ++ (⟨#[32]⟩ : ByteArray)) ++ (kindS y.2.2.1)) ++ (⟨#[32]⟩ : ByteArray)))), (fun x _ => x = (.agg #[(.string y.1), (.string y.2.1), (.int .u8 y.2.2.1), (.int .u32 y.2.2.2.1), (.int .u32 y.2.2.2.2.1.1), (.int .u32 y.2.2.2.2.1.2.1), (.bool y.2.2.2.2.1.2.2.1), (.int .u8 y.2.2.2.2.2.1.1), (.bool y.2.2.2.2.2.1.2.1)])), (fun x _ => x = (.string (takenP y))), (fun x _ => x = (.string ((((((((⟨#[105, 109, 112, 111, 114, 116, 32]⟩ : ByteArray) ++ (shS y.1)) ++ (⟨#[32]⟩ : ByteArray)) ++ (shS y.2.1)) ++ (⟨#[32]⟩ : ByteArray)) ++ (kindS y.2.2.1)) ++ (⟨#[32]⟩ : ByteArray)) ++ (takenP y)))), (fun x wq => ∃ b, x = .slice (some ⟨b, 0, none⟩) 1 1 ∧ w16.heap.size ≤ b ∧ wq.heap[b]? = some (.cells #[(.string ((((((((⟨#[105, 109, 112, 111, 114, 116, 32]⟩ : ByteArray) ++ (shS y.1)) ++ (⟨#[32]⟩ : ByteArray)) ++ (shS y.2.1)) ++ (⟨#[32]⟩ : ByteArray)) ++ (kindS y.2.2.1)) ++ (⟨#[32]⟩ : ByteArray)) ++ (takenP y)))] 9 (0, 0)))])
              [20]
              [[], [], [1], [2], [3], [4], [], [6], [3, 7], [5, 8], [9], [], [11], [12], [8, 13], [10, 14], [15], [], [14, 17], [16, 18], [19], [], []]
              hf (by kernel_rfl) (by kernel_rfl) (by kernel_rfl) (fun _ => rfl) ((Below.refl _ _).drew) (fun a b h1 h2 => h1.trans (h2.mono h1.size)) (fun _ _ h => h.size) (fun V => ⟨kept_eq, kept_eq, kept_eq, kept_eq, kept_eq, kept_eq, kept_eq, kept_eq, kept_eq, kept_eq, kept_eq, kept_eq, kept_eq, kept_eq, kept_eq, kept_eq, kept_eq, kept_eq, kept_eq, kept_eq, keptB, trivial⟩) (fun _ _ _ _ _ => rfl) ?_ ?_
            · skip
              intro V
              refine ⟨fun wu0 hC hd => ?_, ?_⟩
              · clear hd
                replace hb := hb.trans (hC.mono hb.size)
                replace hkb1 := blk_ext hkb1 hC
                replace hk7 := blk_ext hk7 hC
                replace hro := Row.ext hro hC
                exact Runs.does (r_move rfl) ⟨Below.refl _ _, rfl, nofr rfl⟩
              refine ⟨fun wu1 hC hd => ?_, ?_⟩
              · clear hd
                replace hb := hb.trans (hC.mono hb.size)
                replace hkb1 := blk_ext hkb1 hC
                replace hk7 := blk_ext hk7 hC
                replace hro := Row.ext hro hC
                exact Runs.does (r_fa rfl Try.underlying100 (f := 0) (q := 0) rfl (by kernel_rfl) rfl) ⟨Below.refl _ _, rfl, nofr rfl⟩
              refine ⟨fun wu2 hC hd => ?_, ?_⟩
              · obtain ⟨h1, _⟩ := hd
                skip
                replace h1 : V 1 = (.pointer (some ⟨b5, 0, none⟩)) := h1
                replace hb := hb.trans (hC.mono hb.size)
                replace hkb1 := blk_ext hkb1 hC
                replace hk7 := blk_ext hk7 hC
                replace hro := Row.ext hro hC
                exact Runs.does (r_load (v := (.string y.1)) (congrArg some h1) Try.underlying9 rfl (cell_blk hk7 rfl)) ⟨Below.refl _ _, rfl, nofr rfl⟩
              refine ⟨fun wu3 hC hd => ?_, ?_⟩
              · obtain ⟨h2, _⟩ := hd
                skip
                replace h2 : V 2 = (.string y.1) := h2
                replace hb := hb.trans (hC.mono hb.size)
                replace hkb1 := blk_ext hkb1 hC
                replace hk7 := blk_ext hk7 hC
                replace hro := Row.ext hro hC
                refine Does.mono (d_callB (vs := [(.string y.1)]) (show [some (V 2)] = [some (.string y.1)] from by rw [h2]) Try.func46 (by kernel_rfl) (by kernel_rfl) (refShowS_any y.1 _ (by omega))) (fun _ _ h => ⟨h.2, h.1, nofr rfl⟩)
              refine ⟨fun wu4 hC hd => ?_, ?_⟩
              · obtain ⟨h3, _⟩ := hd
                skip
                replace h3 : V 3 = (.string (shS y.1)) := h3
                replace hb := hb.trans (hC.mono hb.size)
                replace hkb1 := blk_ext hkb1 hC
                replace hk7 := blk_ext hk7 hC
                replace hro := Row.ext hro hC
                exact Runs.does (r_sadd rfl (congrArg some h3) (by have : ((⟨#[105, 109, 112, 111, 114, 116, 32]⟩) : ByteArray).size = 7 := rfl; omega)) ⟨Below.refl _ _, rfl, nofr rfl⟩
              refine ⟨fun wu5 hC hd => ?_, ?_⟩
              · obtain ⟨h4, _⟩ := hd
                skip
                replace h4 : V 4 = (.string ((⟨#[105, 109, 112, 111, 114, 116, 32]⟩ : ByteArray) ++ (shS y.1))) := h4
                replace hb := hb.trans (hC.mono hb.size)
                replace hkb1 := blk_ext hkb1 hC
                replace hk7 := blk_ext hk7 hC
                replace hro := Row.ext hro hC
                exact Runs.does (r_sadd (congrArg some h4) rfl (by have : ((⟨#[105, 109, 112, 111, 114, 116, 32]⟩) : ByteArray).size = 7 := rfl; have := sz_app (⟨#[105, 109, 112, 111, 114, 116, 32]⟩ : ByteArray) (shS y.1); have : ((⟨#[32]⟩) : ByteArray).size = 1 := rfl; omega)) ⟨Below.refl _ _, rfl, nofr rfl⟩
              refine ⟨fun wu6 hC hd => ?_, ?_⟩
              · clear hd
                replace hb := hb.trans (hC.mono hb.size)
                replace hkb1 := blk_ext hkb1 hC
                replace hk7 := blk_ext hk7 hC
                replace hro := Row.ext hro hC
                exact Runs.does (r_fa rfl Try.underlying100 (f := 1) (q := 1) rfl (by kernel_rfl) rfl) ⟨Below.refl _ _, rfl, nofr rfl⟩
              refine ⟨fun wu7 hC hd => ?_, ?_⟩
              · obtain ⟨h6, _⟩ := hd
                skip
                replace h6 : V 6 = (.pointer (some ⟨b5, 1, none⟩)) := h6
                replace hb := hb.trans (hC.mono hb.size)
                replace hkb1 := blk_ext hkb1 hC
                replace hk7 := blk_ext hk7 hC
                replace hro := Row.ext hro hC
                exact Runs.does (r_load (v := (.string y.2.1)) (congrArg some h6) Try.underlying9 rfl (cell_blk hk7 rfl)) ⟨Below.refl _ _, rfl, nofr rfl⟩
              refine ⟨fun wu8 hC hd => ?_, ?_⟩
              · obtain ⟨h3, h7, _⟩ := hd
                skip
                skip
                replace h3 : V 3 = (.string (shS y.1)) := h3
                replace h7 : V 7 = (.string y.2.1) := h7
                replace hb := hb.trans (hC.mono hb.size)
                replace hkb1 := blk_ext hkb1 hC
                replace hk7 := blk_ext hk7 hC
                replace hro := Row.ext hro hC
                refine Does.mono (d_callB (vs := [(.string y.2.1)]) (show [some (V 7)] = [some (.string y.2.1)] from by rw [h7]) Try.func46 (by kernel_rfl) (by kernel_rfl) (refShowS_any y.2.1 _ (by omega))) (fun _ _ h => ⟨h.2, h.1, nofr rfl⟩)
              refine ⟨fun wu9 hC hd => ?_, ?_⟩
              · obtain ⟨h5, h8, _⟩ := hd
                skip
                skip
                replace h5 : V 5 = (.string (((⟨#[105, 109, 112, 111, 114, 116, 32]⟩ : ByteArray) ++ (shS y.1)) ++ (⟨#[32]⟩ : ByteArray))) := h5
                replace h8 : V 8 = (.string (shS y.2.1)) := h8
                replace hb := hb.trans (hC.mono hb.size)
                replace hkb1 := blk_ext hkb1 hC
                replace hk7 := blk_ext hk7 hC
                replace hro := Row.ext hro hC
                exact Runs.does (r_sadd (congrArg some h5) (congrArg some h8) (by have : ((⟨#[105, 109, 112, 111, 114, 116, 32]⟩) : ByteArray).size = 7 := rfl; have := sz_app (⟨#[105, 109, 112, 111, 114, 116, 32]⟩ : ByteArray) (shS y.1); have : ((⟨#[32]⟩) : ByteArray).size = 1 := rfl; have := sz_app ((⟨#[105, 109, 112, 111, 114, 116, 32]⟩ : ByteArray) ++ (shS y.1)) (⟨#[32]⟩ : ByteArray); omega)) ⟨Below.refl _ _, rfl, nofr rfl⟩
              refine ⟨fun wu10 hC hd => ?_, ?_⟩
              · obtain ⟨h9, _⟩ := hd
                skip
                replace h9 : V 9 = (.string ((((⟨#[105, 109, 112, 111, 114, 116, 32]⟩ : ByteArray) ++ (shS y.1)) ++ (⟨#[32]⟩ : ByteArray)) ++ (shS y.2.1))) := h9
                replace hb := hb.trans (hC.mono hb.size)
                replace hkb1 := blk_ext hkb1 hC
                replace hk7 := blk_ext hk7 hC
                replace hro := Row.ext hro hC
                exact Runs.does (r_sadd (congrArg some h9) rfl (by have : ((⟨#[105, 109, 112, 111, 114, 116, 32]⟩) : ByteArray).size = 7 := rfl; have := sz_app (⟨#[105, 109, 112, 111, 114, 116, 32]⟩ : ByteArray) (shS y.1); have : ((⟨#[32]⟩) : ByteArray).size = 1 := rfl; have := sz_app ((⟨#[105, 109, 112, 111, 114, 116, 32]⟩ : ByteArray) ++ (shS y.1)) (⟨#[32]⟩ : ByteArray); have := sz_app (((⟨#[105, 109, 112, 111, 114, 116, 32]⟩ : ByteArray) ++ (shS y.1)) ++ (⟨#[32]⟩ : ByteArray)) (shS y.2.1); have : ((⟨#[32]⟩) : ByteArray).size = 1 := rfl; omega)) ⟨Below.refl _ _, rfl, nofr rfl⟩
              refine ⟨fun wu11 hC hd => ?_, ?_⟩
              · clear hd
                replace hb := hb.trans (hC.mono hb.size)
                replace hkb1 := blk_ext hkb1 hC
                replace hk7 := blk_ext hk7 hC
                replace hro := Row.ext hro hC
                exact Runs.does (r_fa rfl Try.underlying100 (f := 2) (q := 2) rfl (by kernel_rfl) rfl) ⟨Below.refl _ _, rfl, nofr rfl⟩
              refine ⟨fun wu12 hC hd => ?_, ?_⟩
              · obtain ⟨h11, _⟩ := hd
                skip
                replace h11 : V 11 = (.pointer (some ⟨b5, 2, none⟩)) := h11
                replace hb := hb.trans (hC.mono hb.size)
                replace hkb1 := blk_ext hkb1 hC
                replace hk7 := blk_ext hk7 hC
                replace hro := Row.ext hro hC
                exact Runs.does (r_load (v := (.int .u8 y.2.2.1)) (congrArg some h11) Try.underlying5 rfl (cell_blk hk7 rfl)) ⟨Below.refl _ _, rfl, nofr rfl⟩
              refine ⟨fun wu13 hC hd => ?_, ?_⟩
              · obtain ⟨h12, _⟩ := hd
                skip
                replace h12 : V 12 = (.int .u8 y.2.2.1) := h12
                replace hb := hb.trans (hC.mono hb.size)
                replace hkb1 := blk_ext hkb1 hC
                replace hk7 := blk_ext hk7 hC
                replace hro := Row.ext hro hC
                exact Runs.does (r_conv (C := y.2.2.1) (congrArg some h12) Try.underlying5 Try.underlying3 (by rw [IntKind.wrap_i64]; omega)) ⟨Below.refl _ _, rfl, nofr rfl⟩
              refine ⟨fun wu14 hC hd => ?_, ?_⟩
              · obtain ⟨h8, h13, _⟩ := hd
                skip
                skip
                replace h8 : V 8 = (.string (shS y.2.1)) := h8
                replace h13 : V 13 = (.int .i64 y.2.2.1) := h13
                replace hb := hb.trans (hC.mono hb.size)
                replace hkb1 := blk_ext hkb1 hC
                replace hk7 := blk_ext hk7 hC
                replace hro := Row.ext hro hC
                refine Does.mono (d_callB (vs := [(.int .i64 y.2.2.1)]) (show [some (V 13)] = [some (.int .i64 y.2.2.1)] from by rw [h13]) Try.func48 (by kernel_rfl) (by kernel_rfl) (rkind_any y.2.2.1 _ (by omega))) (fun _ _ h => ⟨h.2, h.1, nofr rfl⟩)
              refine ⟨fun wu15 hC hd => ?_, ?_⟩
              · obtain ⟨h10, h14, _⟩ := hd
                skip
                skip
                replace h10 : V 10 = (.string (((((⟨#[105, 109, 112, 111, 114, 116, 32]⟩ : ByteArray) ++ (shS y.1)) ++ (⟨#[32]⟩ : ByteArray)) ++ (shS y.2.1)) ++ (⟨#[32]⟩ : ByteArray))) := h10
                replace h14 : V 14 = (.string (kindS y.2.2.1)) := h14
                replace hb := hb.trans (hC.mono hb.size)
                replace hkb1 := blk_ext hkb1 hC
                replace hk7 := blk_ext hk7 hC
                replace hro := Row.ext hro hC
                exact Runs.does (r_sadd (congrArg some h10) (congrArg some h14) (by have : ((⟨#[105, 109, 112, 111, 114, 116, 32]⟩) : ByteArray).size = 7 := rfl; have := sz_app (⟨#[105, 109, 112, 111, 114, 116, 32]⟩ : ByteArray) (shS y.1); have : ((⟨#[32]⟩) : ByteArray).size = 1 := rfl; have := sz_app ((⟨#[105, 109, 112, 111, 114, 116, 32]⟩ : ByteArray) ++ (shS y.1)) (⟨#[32]⟩ : ByteArray); have := sz_app (((⟨#[105, 109, 112, 111, 114, 116, 32]⟩ : ByteArray) ++ (shS y.1)) ++ (⟨#[32]⟩ : ByteArray)) (shS y.2.1); have : ((⟨#[32]⟩) : ByteArray).size = 1 := rfl; have := sz_app ((((⟨#[105, 109, 112, 111, 114, 116, 32]⟩ : ByteArray) ++ (shS y.1)) ++ (⟨#[32]⟩ : ByteArray)) ++ (shS y.2.1)) (⟨#[32]⟩ : ByteArray); omega)) ⟨Below.refl _ _, rfl, nofr rfl⟩
              refine ⟨fun wu16 hC hd => ?_, ?_⟩
              · obtain ⟨h15, _⟩ := hd
                skip
                replace h15 : V 15 = (.string ((((((⟨#[105, 109, 112, 111, 114, 116, 32]⟩ : ByteArray) ++ (shS y.1)) ++ (⟨#[32]⟩ : ByteArray)) ++ (shS y.2.1)) ++ (⟨#[32]⟩ : ByteArray)) ++ (kindS y.2.2.1))) := h15
                replace hb := hb.trans (hC.mono hb.size)
                replace hkb1 := blk_ext hkb1 hC
                replace hk7 := blk_ext hk7 hC
                replace hro := Row.ext hro hC
                exact Runs.does (r_sadd (congrArg some h15) rfl (by have : ((⟨#[105, 109, 112, 111, 114, 116, 32]⟩) : ByteArray).size = 7 := rfl; have := sz_app (⟨#[105, 109, 112, 111, 114, 116, 32]⟩ : ByteArray) (shS y.1); have : ((⟨#[32]⟩) : ByteArray).size = 1 := rfl; have := sz_app ((⟨#[105, 109, 112, 111, 114, 116, 32]⟩ : ByteArray) ++ (shS y.1)) (⟨#[32]⟩ : ByteArray); have := sz_app (((⟨#[105, 109, 112, 111, 114, 116, 32]⟩ : ByteArray) ++ (shS y.1)) ++ (⟨#[32]⟩ : ByteArray)) (shS y.2.1); have : ((⟨#[32]⟩) : ByteArray).size = 1 := rfl; have := sz_app ((((⟨#[105, 109, 112, 111, 114, 116, 32]⟩ : ByteArray) ++ (shS y.1)) ++ (⟨#[32]⟩ : ByteArray)) ++ (shS y.2.1)) (⟨#[32]⟩ : ByteArray); have := sz_app (((((⟨#[105, 109, 112, 111, 114, 116, 32]⟩ : ByteArray) ++ (shS y.1)) ++ (⟨#[32]⟩ : ByteArray)) ++ (shS y.2.1)) ++ (⟨#[32]⟩ : ByteArray)) (kindS y.2.2.1); have : ((⟨#[32]⟩) : ByteArray).size = 1 := rfl; omega)) ⟨Below.refl _ _, rfl, nofr rfl⟩
              refine ⟨fun wu17 hC hd => ?_, ?_⟩
              · clear hd
                replace hb := hb.trans (hC.mono hb.size)
                replace hkb1 := blk_ext hkb1 hC
                replace hk7 := blk_ext hk7 hC
                replace hro := Row.ext hro hC
                exact Runs.does (r_loadA (cs := [(.string y.1), (.string y.2.1), (.int .u8 y.2.2.1), (.int .u32 y.2.2.2.1), (.int .u32 y.2.2.2.2.1.1), (.int .u32 y.2.2.2.2.1.2.1), (.bool y.2.2.2.2.1.2.2.1), (.int .u8 y.2.2.2.2.2.1.1), (.bool y.2.2.2.2.2.1.2.1)]) rfl Try.underlying100 rfl (by kernel_rfl) (cellsAt_blk hk7)) ⟨Below.refl _ _, rfl, nofr rfl⟩
              refine ⟨fun wu18 hC hd => ?_, ?_⟩
              · obtain ⟨h14, h17, _⟩ := hd
                skip
                skip
                replace h14 : V 14 = (.string (kindS y.2.2.1)) := h14
                replace h17 : V 17 = (.agg #[(.string y.1), (.string y.2.1), (.int .u8 y.2.2.1), (.int .u32 y.2.2.2.1), (.int .u32 y.2.2.2.2.1.1), (.int .u32 y.2.2.2.2.1.2.1), (.bool y.2.2.2.2.1.2.2.1), (.int .u8 y.2.2.2.2.2.1.1), (.bool y.2.2.2.2.2.1.2.1)]) := h17
                replace hb := hb.trans (hC.mono hb.size)
                replace hkb1 := blk_ext hkb1 hC
                replace hk7 := blk_ext hk7 hC
                replace hro := Row.ext hro hC
                refine Does.mono (d_callB (vs := [(.agg #[(.string y.1), (.string y.2.1), (.int .u8 y.2.2.1), (.int .u32 y.2.2.2.1), (.int .u32 y.2.2.2.2.1.1), (.int .u32 y.2.2.2.2.1.2.1), (.bool y.2.2.2.2.1.2.2.1), (.int .u8 y.2.2.2.2.2.1.1), (.bool y.2.2.2.2.2.1.2.1)])]) (show [some (V 17)] = [some (.agg #[(.string y.1), (.string y.2.1), (.int .u8 y.2.2.1), (.int .u32 y.2.2.2.1), (.int .u32 y.2.2.2.2.1.1), (.int .u32 y.2.2.2.2.1.2.1), (.bool y.2.2.2.2.1.2.2.1), (.int .u8 y.2.2.2.2.2.1.1), (.bool y.2.2.2.2.2.1.2.1)])] from by rw [h17]) Try.func49 (by kernel_rfl) (by kernel_rfl) (rtaken_y y _ hk8 ht8 h18 h28 h38)) (fun _ _ h => ⟨h.2, h.1, nofr rfl⟩)
              refine ⟨fun wu19 hC hd => ?_, ?_⟩
              · obtain ⟨h16, h18, _⟩ := hd
                skip
                skip
                replace h16 : V 16 = (.string (((((((⟨#[105, 109, 112, 111, 114, 116, 32]⟩ : ByteArray) ++ (shS y.1)) ++ (⟨#[32]⟩ : ByteArray)) ++ (shS y.2.1)) ++ (⟨#[32]⟩ : ByteArray)) ++ (kindS y.2.2.1)) ++ (⟨#[32]⟩ : ByteArray))) := h16
                replace h18 : V 18 = (.string (takenP y)) := h18
                replace hb := hb.trans (hC.mono hb.size)
                replace hkb1 := blk_ext hkb1 hC
                replace hk7 := blk_ext hk7 hC
                replace hro := Row.ext hro hC
                exact Runs.does (r_sadd (congrArg some h16) (congrArg some h18) (by have : ((⟨#[105, 109, 112, 111, 114, 116, 32]⟩) : ByteArray).size = 7 := rfl; have := sz_app (⟨#[105, 109, 112, 111, 114, 116, 32]⟩ : ByteArray) (shS y.1); have : ((⟨#[32]⟩) : ByteArray).size = 1 := rfl; have := sz_app ((⟨#[105, 109, 112, 111, 114, 116, 32]⟩ : ByteArray) ++ (shS y.1)) (⟨#[32]⟩ : ByteArray); have := sz_app (((⟨#[105, 109, 112, 111, 114, 116, 32]⟩ : ByteArray) ++ (shS y.1)) ++ (⟨#[32]⟩ : ByteArray)) (shS y.2.1); have : ((⟨#[32]⟩) : ByteArray).size = 1 := rfl; have := sz_app ((((⟨#[105, 109, 112, 111, 114, 116, 32]⟩ : ByteArray) ++ (shS y.1)) ++ (⟨#[32]⟩ : ByteArray)) ++ (shS y.2.1)) (⟨#[32]⟩ : ByteArray); have := sz_app (((((⟨#[105, 109, 112, 111, 114, 116, 32]⟩ : ByteArray) ++ (shS y.1)) ++ (⟨#[32]⟩ : ByteArray)) ++ (shS y.2.1)) ++ (⟨#[32]⟩ : ByteArray)) (kindS y.2.2.1); have : ((⟨#[32]⟩) : ByteArray).size = 1 := rfl; have := sz_app ((((((⟨#[105, 109, 112, 111, 114, 116, 32]⟩ : ByteArray) ++ (shS y.1)) ++ (⟨#[32]⟩ : ByteArray)) ++ (shS y.2.1)) ++ (⟨#[32]⟩ : ByteArray)) ++ (kindS y.2.2.1)) (⟨#[32]⟩ : ByteArray); omega)) ⟨Below.refl _ _, rfl, nofr rfl⟩
              refine ⟨fun wu20 hC hd => ?_, ?_⟩
              · obtain ⟨h19, _⟩ := hd
                skip
                replace h19 : V 19 = (.string ((((((((⟨#[105, 109, 112, 111, 114, 116, 32]⟩ : ByteArray) ++ (shS y.1)) ++ (⟨#[32]⟩ : ByteArray)) ++ (shS y.2.1)) ++ (⟨#[32]⟩ : ByteArray)) ++ (kindS y.2.2.1)) ++ (⟨#[32]⟩ : ByteArray)) ++ (takenP y))) := h19
                replace hb := hb.trans (hC.mono hb.size)
                replace hkb1 := blk_ext hkb1 hC
                replace hk7 := blk_ext hk7 hC
                replace hro := Row.ext hro hC
                refine Does.mono (d_bslice (z := (.string ⟨#[]⟩)) (sz := 1) (vs := [(0, (.string ((((((((⟨#[105, 109, 112, 111, 114, 116, 32]⟩ : ByteArray) ++ (shS y.1)) ++ (⟨#[32]⟩ : ByteArray)) ++ (shS y.2.1)) ++ (⟨#[32]⟩ : ByteArray)) ++ (kindS y.2.2.1)) ++ (⟨#[32]⟩ : ByteArray)) ++ (takenP y))))]) (cs := #[(.string ((((((((⟨#[105, 109, 112, 111, 114, 116, 32]⟩ : ByteArray) ++ (shS y.1)) ++ (⟨#[32]⟩ : ByteArray)) ++ (shS y.2.1)) ++ (⟨#[32]⟩ : ByteArray)) ++ (kindS y.2.2.1)) ++ (⟨#[32]⟩ : ByteArray)) ++ (takenP y)))]) (show [(0, some (V 19))] = [(0, some (.string ((((((((⟨#[105, 109, 112, 111, 114, 116, 32]⟩ : ByteArray) ++ (shS y.1)) ++ (⟨#[32]⟩ : ByteArray)) ++ (shS y.2.1)) ++ (⟨#[32]⟩ : ByteArray)) ++ (kindS y.2.2.1)) ++ (⟨#[32]⟩ : ByteArray)) ++ (takenP y))))] from by rw [h19]) Try.underlying32 (by kernel_rfl) rfl (by kernel_rfl)) ?_
                rintro _ w' ⟨b, rfl, hF⟩
                exact ⟨hF.2.2, ⟨b, rfl, Nat.le_trans hC.size hF.1, hF.2.1⟩, isfr rfl hF.1 (blk_lt hF.2.1)⟩
              trivial
            · skip
              clear hf fa; intro V w17 fa he9 hp hnb hf
              have hv0 : V 0 = (.slice roa (((tyL m ++ (m.2.1.list.take k).map imLn)).length) roc) := postsHold_at hp 0 rfl
              have hv1 : V 1 = (.pointer (some ⟨b5, 0, none⟩)) := postsHold_at hp 1 rfl
              have hv2 : V 2 = (.string y.1) := postsHold_at hp 2 rfl
              have hv3 : V 3 = (.string (shS y.1)) := postsHold_at hp 3 rfl
              have hv4 : V 4 = (.string ((⟨#[105, 109, 112, 111, 114, 116, 32]⟩ : ByteArray) ++ (shS y.1))) := postsHold_at hp 4 rfl
              have hv5 : V 5 = (.string (((⟨#[105, 109, 112, 111, 114, 116, 32]⟩ : ByteArray) ++ (shS y.1)) ++ (⟨#[32]⟩ : ByteArray))) := postsHold_at hp 5 rfl
              have hv6 : V 6 = (.pointer (some ⟨b5, 1, none⟩)) := postsHold_at hp 6 rfl
              have hv7 : V 7 = (.string y.2.1) := postsHold_at hp 7 rfl
              have hv8 : V 8 = (.string (shS y.2.1)) := postsHold_at hp 8 rfl
              have hv9 : V 9 = (.string ((((⟨#[105, 109, 112, 111, 114, 116, 32]⟩ : ByteArray) ++ (shS y.1)) ++ (⟨#[32]⟩ : ByteArray)) ++ (shS y.2.1))) := postsHold_at hp 9 rfl
              have hv10 : V 10 = (.string (((((⟨#[105, 109, 112, 111, 114, 116, 32]⟩ : ByteArray) ++ (shS y.1)) ++ (⟨#[32]⟩ : ByteArray)) ++ (shS y.2.1)) ++ (⟨#[32]⟩ : ByteArray))) := postsHold_at hp 10 rfl
              have hv11 : V 11 = (.pointer (some ⟨b5, 2, none⟩)) := postsHold_at hp 11 rfl
              have hv12 : V 12 = (.int .u8 y.2.2.1) := postsHold_at hp 12 rfl
              have hv13 : V 13 = (.int .i64 y.2.2.1) := postsHold_at hp 13 rfl
              have hv14 : V 14 = (.string (kindS y.2.2.1)) := postsHold_at hp 14 rfl
              have hv15 : V 15 = (.string ((((((⟨#[105, 109, 112, 111, 114, 116, 32]⟩ : ByteArray) ++ (shS y.1)) ++ (⟨#[32]⟩ : ByteArray)) ++ (shS y.2.1)) ++ (⟨#[32]⟩ : ByteArray)) ++ (kindS y.2.2.1))) := postsHold_at hp 15 rfl
              have hv16 : V 16 = (.string (((((((⟨#[105, 109, 112, 111, 114, 116, 32]⟩ : ByteArray) ++ (shS y.1)) ++ (⟨#[32]⟩ : ByteArray)) ++ (shS y.2.1)) ++ (⟨#[32]⟩ : ByteArray)) ++ (kindS y.2.2.1)) ++ (⟨#[32]⟩ : ByteArray))) := postsHold_at hp 16 rfl
              have hv17 : V 17 = (.agg #[(.string y.1), (.string y.2.1), (.int .u8 y.2.2.1), (.int .u32 y.2.2.2.1), (.int .u32 y.2.2.2.2.1.1), (.int .u32 y.2.2.2.2.1.2.1), (.bool y.2.2.2.2.1.2.2.1), (.int .u8 y.2.2.2.2.2.1.1), (.bool y.2.2.2.2.2.1.2.1)]) := postsHold_at hp 17 rfl
              have hv18 : V 18 = (.string (takenP y)) := postsHold_at hp 18 rfl
              have hv19 : V 19 = (.string ((((((((⟨#[105, 109, 112, 111, 114, 116, 32]⟩ : ByteArray) ++ (shS y.1)) ++ (⟨#[32]⟩ : ByteArray)) ++ (shS y.2.1)) ++ (⟨#[32]⟩ : ByteArray)) ++ (kindS y.2.2.1)) ++ (⟨#[32]⟩ : ByteArray)) ++ (takenP y))) := postsHold_at hp 19 rfl
              have hv20 := postsHold_at hp 20 rfl
              obtain ⟨b6, hv20, hle6, hk8⟩ := hv20
              have hBb6 : w.heap.size ≤ b6 := Nat.le_trans hb.size hle6
              simp only [List.take_succ_cons, List.take_zero, insAll, ins, hv0, hv1, hv2, hv3, hv4, hv5, hv6, hv7, hv8, hv9, hv10, hv11, hv12, hv13, hv14, hv15, hv16, hv17, hv18, hv19, hv20] at hf
              have : b1 < b6 := Nat.lt_of_lt_of_le (blk_lt hkb1) hle6
              have : b5 < b6 := Nat.lt_of_lt_of_le (blk_lt hk7) hle6
              have hnr2 : (Value.slice roa ((((tyL m ++ (m.2.1.list.take k).map imLn)).length)) roc).ownBlock ≠ some b6 := fun hq => by have := (Row.lt hro _ hq).2; have := hle6; omega
              clear hp hnb hv0 hv1 hv2 hv3 hv4 hv5 hv6 hv7 hv8 hv9 hv10 hv11 hv12 hv13 hv14 hv15 hv16 hv17 hv18 hv19 hv20
              replace hkb1 := blk_ext hkb1 he9
              replace hk7 := blk_ext hk7 he9
              replace hro := Row.ext hro he9
              replace hb := hb.trans (Below.mono he9 hb.size)
              simp only [List.drop_succ_cons, List.drop_zero]
              have hs3 := Row.rd (by intros; rfl) (Row.of_new (k := 1) (V := vStr) (l := [((((((((⟨#[105, 109, 112, 111, 114, 116, 32]⟩ : ByteArray) ++ (shS y.1)) ++ (⟨#[32]⟩ : ByteArray)) ++ (shS y.2.1)) ++ (⟨#[32]⟩ : ByteArray)) ++ (kindS y.2.2.1)) ++ (⟨#[32]⟩ : ByteArray)) ++ (takenP y))]) hk8 (Nat.le_refl _) rfl rfl (Nat.le_of_ble_eq_true rfl))
              refine sqdt hf (d_append (V := vStr) (k := 1) (e := 9) (bytes := 16) (z := (.string ⟨#[]⟩)) (news := [((((((((⟨#[105, 109, 112, 111, 114, 116, 32]⟩ : ByteArray) ++ (shS y.1)) ++ (⟨#[32]⟩ : ByteArray)) ++ (shS y.2.1)) ++ (⟨#[32]⟩ : ByteArray)) ++ (kindS y.2.2.1)) ++ (⟨#[32]⟩ : ByteArray)) ++ (takenP y))]) (base := w.heap.size) (by intros; rfl) (by intro x u hu; simp only [vStr, List.mem_singleton] at hu; subst hu; rfl) rfl rfl Try.underlying32 (by kernel_rfl) rfl rfl rfl hro hs3 rfl (fun h => by cases h) (by first | omega | (simp only [List.length_cons, List.length_nil, List.length_append, nums_len, List.length_map, List.length_take, Sl.list_length]; omega)) (by have := hb.size; omega)) rfl rfl rfl ?_; clear hf fa; rintro fa v w18 ⟨hr4, hg5⟩ hf; obtain ⟨ra3, rc3, rfl, hcrc3, hmrc3⟩ := Row.slice hr4
              replace hkb1 := blk_row' hkb1 hg5 (Row.ne_type hro hkb1 rfl)
              replace hk7 := blk_row' hk7 hg5 (Row.ne_type hro hk7 rfl)
              replace hb := hb.trans (row_below hro hg5 hb.size (by have := hb.size; omega))
              refine sqv hf (r_assign rfl) rfl rfl rfl ?_; clear hf fa; intro fa hf
              apply wpList_nil
              (try simp only [Exit.then, Exit.inBlock, ↓reduceIte, Nat.reduceEqDiff])
              refine hK21 _ _ ?_
              refine wp_region_lit ?_
              refine sqv hf (r_move rfl) rfl rfl rfl ?_; clear hf fa; intro fa hf
              refine sqv hf (r_add (C := (((k : Nat) : Int) + (1 : Int))) rfl rfl (by rw [IntKind.wrap_i64]; omega)) rfl rfl rfl ?_; clear hf fa; intro fa hf
              refine sqv hf (r_assign rfl) rfl rfl rfl ?_; clear hf fa; intro fa hf
              apply wpList_nil
              (try simp only [Exit.then, Exit.inBlock, ↓reduceIte, Nat.reduceEqDiff])
              have hrl : ((m.2.1.list.take (k + 1)).map imLn).length = ((m.2.1.list.take k).map imLn).length + 1 := by rw [take_at hy, List.map_append, List.length_append]; rfl
              refine hKL3 _ _ _ (by omega) ⟨(k + 1), ra3, rc3, rfl, hf.sub ⟨rfl, (some_int (by first | rfl | omega)), (some_sl (by first | omega | rfl | (simp only [List.length_append, List.length_cons, List.length_nil]; omega) | (simp <;> omega)) rfl), trivial⟩, hb, (rowToE hr4 (map_snoc (f := imLn) (p := tyL m) hy)), hkb1, by omega⟩
          · have hqt81_1b := hqt81_1
            replace hqt81_1 := Bool.eq_false_iff.1 hqt81_1
            try simp only [ne_eq, decide_eq_true_eq, Bool.and_eq_true, Bool.or_eq_true, Bool.not_eq_true', decide_eq_false_iff_not] at hqt81_1
            refine wp_exit ?_
            (try simp only [Exit.then, Exit.inBlock, ↓reduceIte, Nat.reduceEqDiff])
            refine hK17 _ _ ?_
            refine wp_seq_k (fun K23 hK23 => ?_)
            refine wp_seq_k (fun K24 hK24 => ?_)
            have hq2 : tyL m ++ (m.2.1.list.take k).map imLn = imL m ++ (m.2.2.2.2.2.2.1.list.take 0).map exLn := by rw [List.take_of_length_le (by rw [Sl.list_length]; omega), List.take_zero, List.map_nil, List.append_nil]; rfl
            have hq2l := congrArg List.length hq2
            refine wp_region_lit ?_
            refine sqv hf (r_assign rfl) rfl rfl rfl ?_; clear hf fa; intro fa hf
            apply wpList_nil
            (try simp only [Exit.then, Exit.inBlock, ↓reduceIte, Nat.reduceEqDiff])
            refine hK24 _ _ ?_
            refine wp_block ?_
            refine wp_loop_k (fun mq fa wr => ∃ (k : Nat) (roa : Option Addr) (roc : Nat), mq = m.2.2.2.2.2.2.1.len - k ∧ Fr 168 fa [(1, (.pointer (some ⟨b1, 0, none⟩))), (10, (.int .i64 ((k : Nat) : Int))), (3, (.slice roa (((imL m ++ (m.2.2.2.2.2.2.1.list.take k).map exLn)).length) roc))] ∧ Below w.heap.size w wr ∧ Row 1 vStr 9 (w.heap.size) wr (.slice roa (((imL m ++ (m.2.2.2.2.2.2.1.list.take k).map exLn)).length) roc) (imL m ++ (m.2.2.2.2.2.2.1.list.take k).map exLn) ∧ wr.heap[b1]? = some (.cells #[(.slice m.1.at' m.1.len m.1.cap), (.slice m.2.1.at' m.2.1.len m.2.1.cap), (.slice m.2.2.1.at' m.2.2.1.len m.2.2.1.cap), (.slice m.2.2.2.1.at' m.2.2.2.1.len m.2.2.2.1.cap), (.slice m.2.2.2.2.1.at' m.2.2.2.2.1.len m.2.2.2.2.1.cap), (.slice m.2.2.2.2.2.1.at' m.2.2.2.2.2.1.len m.2.2.2.2.2.1.cap), (.slice m.2.2.2.2.2.2.1.at' m.2.2.2.2.2.2.1.len m.2.2.2.2.2.2.1.cap), (.int .i64 m.2.2.2.2.2.2.2.1), (.slice m.2.2.2.2.2.2.2.2.1.at' m.2.2.2.2.2.2.2.2.1.len m.2.2.2.2.2.2.2.2.1.cap), (.slice m.2.2.2.2.2.2.2.2.2.1.at' m.2.2.2.2.2.2.2.2.2.1.len m.2.2.2.2.2.2.2.2.2.1.cap), (.slice m.2.2.2.2.2.2.2.2.2.2.1.at' m.2.2.2.2.2.2.2.2.2.2.1.len m.2.2.2.2.2.2.2.2.2.2.1.cap), (.bool m.2.2.2.2.2.2.2.2.2.2.2.1.1), (.int .u32 m.2.2.2.2.2.2.2.2.2.2.2.1.2.1), (.int .u32 m.2.2.2.2.2.2.2.2.2.2.2.1.2.2.1), (.int .u32 m.2.2.2.2.2.2.2.2.2.2.2.1.2.2.2.1), (.int .u32 m.2.2.2.2.2.2.2.2.2.2.2.1.2.2.2.2.1), (.slice m.2.2.2.2.2.2.2.2.2.2.2.1.2.2.2.2.2.1.at' m.2.2.2.2.2.2.2.2.2.2.2.1.2.2.2.2.2.1.len m.2.2.2.2.2.2.2.2.2.2.2.1.2.2.2.2.2.1.cap)] 36 (0, 0)) ∧ (k ≤ m.2.2.2.2.2.2.1.len)) ?_ ?_
            · skip
              exact ⟨_, 0, roa, roc, rfl, hf.sub ⟨rfl, (some_int (by first | rfl | omega)), (some_sl (by first | omega | rfl | (simp only [List.length_append, List.length_cons, List.length_nil]; omega) | (simp <;> omega)) rfl), trivial⟩, hb, (rowToE hro hq2), hkb1, by omega⟩
            · skip
              clear hf fa; intro mq4 fa w19 hI KL4 hKL4
              clear hb
              clear hkb1
              clear hro
              obtain ⟨k, roa, roc, hmq4, hf, hb, hro, hkb1, hk⟩ := hI
              have hcro := Row.caps hro
              have hol : (imL m ++ (m.2.2.2.2.2.2.1.list.take k).map exLn).length ≤ 200 := by rw [List.length_append, List.length_map, List.length_take, Sl.list_length]; omega
              refine wp_seq_k (fun K25 hK25 => ?_)
              refine wp_seq_k (fun K26 hK26 => ?_)
              refine wp_region_lit ?_
              refine sqv hf (r_move rfl) rfl rfl rfl ?_; clear hf fa; intro fa hf
              refine sqv hf (r_fa rfl Try.underlying36 (f := 6) (q := 6) rfl (by kernel_rfl) rfl) rfl rfl rfl ?_; clear hf fa; intro fa hf
              refine sqv hf (r_load (v := (.slice m.2.2.2.2.2.2.1.at' m.2.2.2.2.2.2.1.len m.2.2.2.2.2.2.1.cap)) rfl Try.underlying27 rfl (cell_blk hkb1 rfl)) rfl rfl rfl ?_; clear hf fa; intro fa hf
              refine sqv hf (r_lensl rfl Try.underlying27) rfl rfl rfl ?_; clear hf fa; intro fa hf
              refine sqv hf (r_lt rfl rfl) rfl rfl rfl ?_; clear hf fa; intro fa hf
              apply wpList_nil
              (try simp only [Exit.then, Exit.inBlock, ↓reduceIte, Nat.reduceEqDiff])
              refine hK26 _ _ ?_
              refine wp_cond_split (t := (decide (((k : Nat) : Int) < ((m.2.2.2.2.2.2.1.len : Nat) : Int)))) (hf.ev rfl) (fun hqt115_1 => ?_) (fun hqt115_1 => ?_)
              · have hqt115_1b := hqt115_1
                try simp only [decide_eq_true_eq, Bool.and_eq_true, Bool.or_eq_true, Bool.not_eq_true', decide_eq_false_iff_not, ne_eq, Bool.not_eq_true] at hqt115_1
                refine wp_skip ?_
                (try simp only [Exit.then, Exit.inBlock, ↓reduceIte, Nat.reduceEqDiff])
                refine hK25 _ _ ?_
                refine wp_seq_k (fun K27 hK27 => ?_)
                refine wp_block ?_
                refine wp_seq_k (fun K28 hK28 => ?_)
                obtain ⟨y, hy⟩ : ∃ y, m.2.2.2.2.2.2.1.list[k]? = some y := ⟨_, List.getElem?_eq_getElem (by rw [Sl.list_length]; omega)⟩
                have hym := List.mem_of_getElem? hy
                have hy1 := hT3 y hym
                have hs1 := shS_len y.1
                have hk8 := fInt_u8 (fSl_el g.2.2.2.2.2.2.1.2 hy).2.1
                have ht8 := fInt_u32 (fSl_el g.2.2.2.2.2.2.1.2 hy).2.2.1
                have hkl := kindS_len y.2.1
                have hdl := dS_len (n := y.2.2.1) (inI_u32 (by omega))
                refine wp_region_lit ?_
                refine sqv hf (r_fa rfl Try.underlying36 (f := 6) (q := 6) rfl (by kernel_rfl) rfl) rfl rfl rfl ?_; clear hf fa; intro fa hf
                refine sqv hf (r_load (v := (.slice m.2.2.2.2.2.2.1.at' m.2.2.2.2.2.2.1.len m.2.2.2.2.2.2.1.cap)) rfl Try.underlying27 rfl (cell_blk hkb1 rfl)) rfl rfl rfl ?_; clear hf fa; intro fa hf
                refine sqv hf (r_move rfl) rfl rfl rfl ?_; clear hf fa; intro fa hf
                have hy4 : (m.2.2.2.2.2.2.1.list)[k]? = some y := hy
                obtain ⟨ab4, aoff4, hat4, hlb4, hel4⟩ := RdS.at (RdS.of_arg g.2.2.2.2.2.2.1.2) hy4
                refine sqv hf (r_ixa (sz := 3) (j := k) (evAt rfl hat4) rfl Try.underlying27 (by kernel_rfl) rfl (by omega) rfl) rfl rfl rfl ?_; clear hf fa; intro fa hf
                refine sqv hf (r_loadA (cs := [(.string y.1), (.int .u8 y.2.1), (.int .u32 y.2.2.1)]) rfl Try.underlying104 rfl (by kernel_rfl) (cellsAt_below hel4 hb hlb4)) rfl rfl rfl ?_; clear hf fa; intro fa hf
                refine sqdt hf (d_alloc (z := (.agg #[(.string ⟨#[]⟩), (.int .u8 (0 : Int)), (.int .u32 (0 : Int))])) (cs := #[(.string ⟨#[]⟩), (.int .u8 (0 : Int)), (.int .u32 (0 : Int))]) (by kernel_rfl) rfl) rfl rfl rfl ?_; clear hf fa; rintro fa _ w20 ⟨b7, rfl, hle7, hk9, he10⟩ hf
                have hBb7 : w.heap.size ≤ b7 := Nat.le_trans hb.size hle7
                have : b1 < b7 := Nat.lt_of_lt_of_le (blk_lt hkb1) hle7
                replace hkb1 := blk_ext hkb1 he10
                replace hro := Row.ext hro he10
                replace hb := hb.trans (Below.mono he10 hb.size)
                refine sqn hf (d_storeK (T := 104) (v := (.agg #[(.string y.1), (.int .u8 y.2.1), (.int .u32 y.2.2.1)])) (cs := #[(.string ⟨#[]⟩), (.int .u8 (0 : Int)), (.int .u32 (0 : Int))]) (cs' := #[(.string y.1), (.int .u8 y.2.1), (.int .u32 y.2.2.1)]) rfl rfl (by kernel_rfl) (by kernel_rfl) hk9 (by kernel_rfl) (by kernel_rfl)) rfl rfl ?_; clear hf fa; rintro fa _ w21 ⟨hk10, hg6⟩ hf
                replace hkb1 := blk_grown hkb1 hg6 (by omega)
                replace hro := Row.grown hro hg6 (Row.ne_type hro hk9 rfl)
                replace hb := hb.trans (grown_below hg6 hb.size hBb7)
                apply wpList_nil
                (try simp only [Exit.then, Exit.inBlock, ↓reduceIte, Nat.reduceEqDiff])
                refine hK28 _ _ ?_
                refine wp_region_unT 18 (fun wq => Below w21.heap.size w21 wq) (fun w w' => Below w.heap.size w w')
                  (fun V => [(fun x _ => x = (.slice roa (((imL m ++ (m.2.2.2.2.2.2.1.list.take k).map exLn)).length) roc)), (fun x _ => x = (.pointer (some ⟨b7, 0, none⟩))), (fun x _ => x = (.string y.1)), (fun x _ => x = (.string (shS y.1))), (fun x _ => x = (.string ((⟨#[101, 120, 112, 111, 114, 116, 32]⟩ : ByteArray) ++ (shS y.1)))), (fun x _ => x = (.string (((⟨#[101, 120, 112, 111, 114, 116, 32]⟩ : ByteArray) ++ (shS y.1)) ++ (⟨#[32]⟩ : ByteArray)))), (fun x _ => x = (.pointer (some ⟨b7, 1, none⟩))), (fun x _ => x = (.int .u8 y.2.1)), (fun x _ => x = (.int .i64 y.2.1)), (fun x _ => x = (.string (kindS y.2.1))), (fun x _ => x = (.string ((((⟨#[101, 120, 112, 111, 114, 116, 32]⟩ : ByteArray) ++ (shS y.1)) ++ (⟨#[32]⟩ : ByteArray)) ++ (kindS y.2.1)))), (fun x _ => x = (.string (((((⟨#[101, 120, 112, 111, 114, 116, 32]⟩ : ByteArray) ++ (shS y.1)) ++ (⟨#[32]⟩ : ByteArray)) ++ (kindS y.2.1)) ++ (⟨#[32]⟩ : ByteArray)))), (fun x _ => x = (.pointer (some ⟨b7, 2, none⟩))), (fun x _ => x = (.int .u32 y.2.2.1)), (fun x _ => x = (.int .u64 y.2.2.1)), (fun x _ => x = (.string (dS y.2.2.1))), (fun x _ => x = (.string ((((((⟨#[101, 120, 112, 111, 114, 116, 32]⟩ : ByteArray) ++ (shS y.1)) ++ (⟨#[32]⟩ : ByteArray)) ++ (kindS y.2.1)) ++ (⟨#[32]⟩ : ByteArray)) ++ (dS y.2.2.1)))), (fun x wq => ∃ b, x = .slice (some ⟨b, 0, none⟩) 1 1 ∧ w21.heap.size ≤ b ∧ wq.heap[b]? = some (.cells #[(.string ((((((⟨#[101, 120, 112, 111, 114, 116, 32]⟩ : ByteArray) ++ (shS y.1)) ++ (⟨#[32]⟩ : ByteArray)) ++ (kindS y.2.1)) ++ (⟨#[32]⟩ : ByteArray)) ++ (dS y.2.2.1)))] 9 (0, 0)))])
                  [17]
                  [[], [], [1], [2], [3], [4], [], [6], [7], [3, 8], [5, 9], [10], [], [12], [13], [9, 14], [11, 15], [16], [], []]
                  hf (by kernel_rfl) (by kernel_rfl) (by kernel_rfl) (fun _ => rfl) ((Below.refl _ _).drew) (fun a b h1 h2 => h1.trans (h2.mono h1.size)) (fun _ _ h => h.size) (fun V => ⟨kept_eq, kept_eq, kept_eq, kept_eq, kept_eq, kept_eq, kept_eq, kept_eq, kept_eq, kept_eq, kept_eq, kept_eq, kept_eq, kept_eq, kept_eq, kept_eq, kept_eq, keptB, trivial⟩) (fun _ _ _ _ _ => rfl) ?_ ?_
                · skip
                  intro V
                  refine ⟨fun wu0 hC hd => ?_, ?_⟩
                  · clear hd
                    replace hb := hb.trans (hC.mono hb.size)
                    replace hkb1 := blk_ext hkb1 hC
                    replace hk10 := blk_ext hk10 hC
                    replace hro := Row.ext hro hC
                    exact Runs.does (r_move rfl) ⟨Below.refl _ _, rfl, nofr rfl⟩
                  refine ⟨fun wu1 hC hd => ?_, ?_⟩
                  · clear hd
                    replace hb := hb.trans (hC.mono hb.size)
                    replace hkb1 := blk_ext hkb1 hC
                    replace hk10 := blk_ext hk10 hC
                    replace hro := Row.ext hro hC
                    exact Runs.does (r_fa rfl Try.underlying104 (f := 0) (q := 0) rfl (by kernel_rfl) rfl) ⟨Below.refl _ _, rfl, nofr rfl⟩
                  refine ⟨fun wu2 hC hd => ?_, ?_⟩
                  · obtain ⟨h1, _⟩ := hd
                    skip
                    replace h1 : V 1 = (.pointer (some ⟨b7, 0, none⟩)) := h1
                    replace hb := hb.trans (hC.mono hb.size)
                    replace hkb1 := blk_ext hkb1 hC
                    replace hk10 := blk_ext hk10 hC
                    replace hro := Row.ext hro hC
                    exact Runs.does (r_load (v := (.string y.1)) (congrArg some h1) Try.underlying9 rfl (cell_blk hk10 rfl)) ⟨Below.refl _ _, rfl, nofr rfl⟩
                  refine ⟨fun wu3 hC hd => ?_, ?_⟩
                  · obtain ⟨h2, _⟩ := hd
                    skip
                    replace h2 : V 2 = (.string y.1) := h2
                    replace hb := hb.trans (hC.mono hb.size)
                    replace hkb1 := blk_ext hkb1 hC
                    replace hk10 := blk_ext hk10 hC
                    replace hro := Row.ext hro hC
                    refine Does.mono (d_callB (vs := [(.string y.1)]) (show [some (V 2)] = [some (.string y.1)] from by rw [h2]) Try.func46 (by kernel_rfl) (by kernel_rfl) (refShowS_any y.1 _ (by omega))) (fun _ _ h => ⟨h.2, h.1, nofr rfl⟩)
                  refine ⟨fun wu4 hC hd => ?_, ?_⟩
                  · obtain ⟨h3, _⟩ := hd
                    skip
                    replace h3 : V 3 = (.string (shS y.1)) := h3
                    replace hb := hb.trans (hC.mono hb.size)
                    replace hkb1 := blk_ext hkb1 hC
                    replace hk10 := blk_ext hk10 hC
                    replace hro := Row.ext hro hC
                    exact Runs.does (r_sadd rfl (congrArg some h3) (by have : ((⟨#[101, 120, 112, 111, 114, 116, 32]⟩) : ByteArray).size = 7 := rfl; omega)) ⟨Below.refl _ _, rfl, nofr rfl⟩
                  refine ⟨fun wu5 hC hd => ?_, ?_⟩
                  · obtain ⟨h4, _⟩ := hd
                    skip
                    replace h4 : V 4 = (.string ((⟨#[101, 120, 112, 111, 114, 116, 32]⟩ : ByteArray) ++ (shS y.1))) := h4
                    replace hb := hb.trans (hC.mono hb.size)
                    replace hkb1 := blk_ext hkb1 hC
                    replace hk10 := blk_ext hk10 hC
                    replace hro := Row.ext hro hC
                    exact Runs.does (r_sadd (congrArg some h4) rfl (by have : ((⟨#[101, 120, 112, 111, 114, 116, 32]⟩) : ByteArray).size = 7 := rfl; have := sz_app (⟨#[101, 120, 112, 111, 114, 116, 32]⟩ : ByteArray) (shS y.1); have : ((⟨#[32]⟩) : ByteArray).size = 1 := rfl; omega)) ⟨Below.refl _ _, rfl, nofr rfl⟩
                  refine ⟨fun wu6 hC hd => ?_, ?_⟩
                  · clear hd
                    replace hb := hb.trans (hC.mono hb.size)
                    replace hkb1 := blk_ext hkb1 hC
                    replace hk10 := blk_ext hk10 hC
                    replace hro := Row.ext hro hC
                    exact Runs.does (r_fa rfl Try.underlying104 (f := 1) (q := 1) rfl (by kernel_rfl) rfl) ⟨Below.refl _ _, rfl, nofr rfl⟩
                  refine ⟨fun wu7 hC hd => ?_, ?_⟩
                  · obtain ⟨h6, _⟩ := hd
                    skip
                    replace h6 : V 6 = (.pointer (some ⟨b7, 1, none⟩)) := h6
                    replace hb := hb.trans (hC.mono hb.size)
                    replace hkb1 := blk_ext hkb1 hC
                    replace hk10 := blk_ext hk10 hC
                    replace hro := Row.ext hro hC
                    exact Runs.does (r_load (v := (.int .u8 y.2.1)) (congrArg some h6) Try.underlying5 rfl (cell_blk hk10 rfl)) ⟨Below.refl _ _, rfl, nofr rfl⟩
                  refine ⟨fun wu8 hC hd => ?_, ?_⟩
                  · obtain ⟨h7, _⟩ := hd
                    skip
                    replace h7 : V 7 = (.int .u8 y.2.1) := h7
                    replace hb := hb.trans (hC.mono hb.size)
                    replace hkb1 := blk_ext hkb1 hC
                    replace hk10 := blk_ext hk10 hC
                    replace hro := Row.ext hro hC
                    exact Runs.does (r_conv (C := y.2.1) (congrArg some h7) Try.underlying5 Try.underlying3 (by rw [IntKind.wrap_i64]; omega)) ⟨Below.refl _ _, rfl, nofr rfl⟩
                  refine ⟨fun wu9 hC hd => ?_, ?_⟩
                  · obtain ⟨h3, h8, _⟩ := hd
                    skip
                    skip
                    replace h3 : V 3 = (.string (shS y.1)) := h3
                    replace h8 : V 8 = (.int .i64 y.2.1) := h8
                    replace hb := hb.trans (hC.mono hb.size)
                    replace hkb1 := blk_ext hkb1 hC
                    replace hk10 := blk_ext hk10 hC
                    replace hro := Row.ext hro hC
                    refine Does.mono (d_callB (vs := [(.int .i64 y.2.1)]) (show [some (V 8)] = [some (.int .i64 y.2.1)] from by rw [h8]) Try.func48 (by kernel_rfl) (by kernel_rfl) (rkind_any y.2.1 _ (by omega))) (fun _ _ h => ⟨h.2, h.1, nofr rfl⟩)
                  refine ⟨fun wu10 hC hd => ?_, ?_⟩
                  · obtain ⟨h5, h9, _⟩ := hd
                    skip
                    skip
                    replace h5 : V 5 = (.string (((⟨#[101, 120, 112, 111, 114, 116, 32]⟩ : ByteArray) ++ (shS y.1)) ++ (⟨#[32]⟩ : ByteArray))) := h5
                    replace h9 : V 9 = (.string (kindS y.2.1)) := h9
                    replace hb := hb.trans (hC.mono hb.size)
                    replace hkb1 := blk_ext hkb1 hC
                    replace hk10 := blk_ext hk10 hC
                    replace hro := Row.ext hro hC
                    exact Runs.does (r_sadd (congrArg some h5) (congrArg some h9) (by have : ((⟨#[101, 120, 112, 111, 114, 116, 32]⟩) : ByteArray).size = 7 := rfl; have := sz_app (⟨#[101, 120, 112, 111, 114, 116, 32]⟩ : ByteArray) (shS y.1); have : ((⟨#[32]⟩) : ByteArray).size = 1 := rfl; have := sz_app ((⟨#[101, 120, 112, 111, 114, 116, 32]⟩ : ByteArray) ++ (shS y.1)) (⟨#[32]⟩ : ByteArray); omega)) ⟨Below.refl _ _, rfl, nofr rfl⟩
                  refine ⟨fun wu11 hC hd => ?_, ?_⟩
                  · obtain ⟨h10, _⟩ := hd
                    skip
                    replace h10 : V 10 = (.string ((((⟨#[101, 120, 112, 111, 114, 116, 32]⟩ : ByteArray) ++ (shS y.1)) ++ (⟨#[32]⟩ : ByteArray)) ++ (kindS y.2.1))) := h10
                    replace hb := hb.trans (hC.mono hb.size)
                    replace hkb1 := blk_ext hkb1 hC
                    replace hk10 := blk_ext hk10 hC
                    replace hro := Row.ext hro hC
                    exact Runs.does (r_sadd (congrArg some h10) rfl (by have : ((⟨#[101, 120, 112, 111, 114, 116, 32]⟩) : ByteArray).size = 7 := rfl; have := sz_app (⟨#[101, 120, 112, 111, 114, 116, 32]⟩ : ByteArray) (shS y.1); have : ((⟨#[32]⟩) : ByteArray).size = 1 := rfl; have := sz_app ((⟨#[101, 120, 112, 111, 114, 116, 32]⟩ : ByteArray) ++ (shS y.1)) (⟨#[32]⟩ : ByteArray); have := sz_app (((⟨#[101, 120, 112, 111, 114, 116, 32]⟩ : ByteArray) ++ (shS y.1)) ++ (⟨#[32]⟩ : ByteArray)) (kindS y.2.1); have : ((⟨#[32]⟩) : ByteArray).size = 1 := rfl; omega)) ⟨Below.refl _ _, rfl, nofr rfl⟩
                  refine ⟨fun wu12 hC hd => ?_, ?_⟩
                  · clear hd
                    replace hb := hb.trans (hC.mono hb.size)
                    replace hkb1 := blk_ext hkb1 hC
                    replace hk10 := blk_ext hk10 hC
                    replace hro := Row.ext hro hC
                    exact Runs.does (r_fa rfl Try.underlying104 (f := 2) (q := 2) rfl (by kernel_rfl) rfl) ⟨Below.refl _ _, rfl, nofr rfl⟩
                  refine ⟨fun wu13 hC hd => ?_, ?_⟩
                  · obtain ⟨h12, _⟩ := hd
                    skip
                    replace h12 : V 12 = (.pointer (some ⟨b7, 2, none⟩)) := h12
                    replace hb := hb.trans (hC.mono hb.size)
                    replace hkb1 := blk_ext hkb1 hC
                    replace hk10 := blk_ext hk10 hC
                    replace hro := Row.ext hro hC
                    exact Runs.does (r_load (v := (.int .u32 y.2.2.1)) (congrArg some h12) Try.underlying31 rfl (cell_blk hk10 rfl)) ⟨Below.refl _ _, rfl, nofr rfl⟩
                  refine ⟨fun wu14 hC hd => ?_, ?_⟩
                  · obtain ⟨h13, _⟩ := hd
                    skip
                    replace h13 : V 13 = (.int .u32 y.2.2.1) := h13
                    replace hb := hb.trans (hC.mono hb.size)
                    replace hkb1 := blk_ext hkb1 hC
                    replace hk10 := blk_ext hk10 hC
                    replace hro := Row.ext hro hC
                    exact Runs.does (r_conv (C := y.2.2.1) (congrArg some h13) Try.underlying31 Try.underlying63 (by rw [IntKind.wrap_u64]; omega)) ⟨Below.refl _ _, rfl, nofr rfl⟩
                  refine ⟨fun wu15 hC hd => ?_, ?_⟩
                  · obtain ⟨h9, h14, _⟩ := hd
                    skip
                    skip
                    replace h9 : V 9 = (.string (kindS y.2.1)) := h9
                    replace h14 : V 14 = (.int .u64 y.2.2.1) := h14
                    replace hb := hb.trans (hC.mono hb.size)
                    replace hkb1 := blk_ext hkb1 hC
                    replace hk10 := blk_ext hk10 hC
                    replace hro := Row.ext hro hC
                    refine Does.mono (d_callB (vs := [(.int .u64 y.2.2.1)]) (show [some (V 14)] = [some (.int .u64 y.2.2.1)] from by rw [h14]) Try.func45 (by kernel_rfl) (by kernel_rfl) (num46_any y.2.2.1 _ (by omega))) (fun _ _ h => ⟨h.2, h.1, nofr rfl⟩)
                  refine ⟨fun wu16 hC hd => ?_, ?_⟩
                  · obtain ⟨h11, h15, _⟩ := hd
                    skip
                    skip
                    replace h11 : V 11 = (.string (((((⟨#[101, 120, 112, 111, 114, 116, 32]⟩ : ByteArray) ++ (shS y.1)) ++ (⟨#[32]⟩ : ByteArray)) ++ (kindS y.2.1)) ++ (⟨#[32]⟩ : ByteArray))) := h11
                    replace h15 : V 15 = (.string (dS y.2.2.1)) := h15
                    replace hb := hb.trans (hC.mono hb.size)
                    replace hkb1 := blk_ext hkb1 hC
                    replace hk10 := blk_ext hk10 hC
                    replace hro := Row.ext hro hC
                    exact Runs.does (r_sadd (congrArg some h11) (congrArg some h15) (by have : ((⟨#[101, 120, 112, 111, 114, 116, 32]⟩) : ByteArray).size = 7 := rfl; have := sz_app (⟨#[101, 120, 112, 111, 114, 116, 32]⟩ : ByteArray) (shS y.1); have : ((⟨#[32]⟩) : ByteArray).size = 1 := rfl; have := sz_app ((⟨#[101, 120, 112, 111, 114, 116, 32]⟩ : ByteArray) ++ (shS y.1)) (⟨#[32]⟩ : ByteArray); have := sz_app (((⟨#[101, 120, 112, 111, 114, 116, 32]⟩ : ByteArray) ++ (shS y.1)) ++ (⟨#[32]⟩ : ByteArray)) (kindS y.2.1); have : ((⟨#[32]⟩) : ByteArray).size = 1 := rfl; have := sz_app ((((⟨#[101, 120, 112, 111, 114, 116, 32]⟩ : ByteArray) ++ (shS y.1)) ++ (⟨#[32]⟩ : ByteArray)) ++ (kindS y.2.1)) (⟨#[32]⟩ : ByteArray); omega)) ⟨Below.refl _ _, rfl, nofr rfl⟩
                  refine ⟨fun wu17 hC hd => ?_, ?_⟩
                  · obtain ⟨h16, _⟩ := hd
                    skip
                    replace h16 : V 16 = (.string ((((((⟨#[101, 120, 112, 111, 114, 116, 32]⟩ : ByteArray) ++ (shS y.1)) ++ (⟨#[32]⟩ : ByteArray)) ++ (kindS y.2.1)) ++ (⟨#[32]⟩ : ByteArray)) ++ (dS y.2.2.1))) := h16
                    replace hb := hb.trans (hC.mono hb.size)
                    replace hkb1 := blk_ext hkb1 hC
                    replace hk10 := blk_ext hk10 hC
                    replace hro := Row.ext hro hC
                    refine Does.mono (d_bslice (z := (.string ⟨#[]⟩)) (sz := 1) (vs := [(0, (.string ((((((⟨#[101, 120, 112, 111, 114, 116, 32]⟩ : ByteArray) ++ (shS y.1)) ++ (⟨#[32]⟩ : ByteArray)) ++ (kindS y.2.1)) ++ (⟨#[32]⟩ : ByteArray)) ++ (dS y.2.2.1))))]) (cs := #[(.string ((((((⟨#[101, 120, 112, 111, 114, 116, 32]⟩ : ByteArray) ++ (shS y.1)) ++ (⟨#[32]⟩ : ByteArray)) ++ (kindS y.2.1)) ++ (⟨#[32]⟩ : ByteArray)) ++ (dS y.2.2.1)))]) (show [(0, some (V 16))] = [(0, some (.string ((((((⟨#[101, 120, 112, 111, 114, 116, 32]⟩ : ByteArray) ++ (shS y.1)) ++ (⟨#[32]⟩ : ByteArray)) ++ (kindS y.2.1)) ++ (⟨#[32]⟩ : ByteArray)) ++ (dS y.2.2.1))))] from by rw [h16]) Try.underlying32 (by kernel_rfl) rfl (by kernel_rfl)) ?_
                    rintro _ w' ⟨b, rfl, hF⟩
                    exact ⟨hF.2.2, ⟨b, rfl, Nat.le_trans hC.size hF.1, hF.2.1⟩, isfr rfl hF.1 (blk_lt hF.2.1)⟩
                  trivial
                · skip
                  clear hf fa; intro V w22 fa he11 hp hnb hf
                  have hv0 : V 0 = (.slice roa (((imL m ++ (m.2.2.2.2.2.2.1.list.take k).map exLn)).length) roc) := postsHold_at hp 0 rfl
                  have hv1 : V 1 = (.pointer (some ⟨b7, 0, none⟩)) := postsHold_at hp 1 rfl
                  have hv2 : V 2 = (.string y.1) := postsHold_at hp 2 rfl
                  have hv3 : V 3 = (.string (shS y.1)) := postsHold_at hp 3 rfl
                  have hv4 : V 4 = (.string ((⟨#[101, 120, 112, 111, 114, 116, 32]⟩ : ByteArray) ++ (shS y.1))) := postsHold_at hp 4 rfl
                  have hv5 : V 5 = (.string (((⟨#[101, 120, 112, 111, 114, 116, 32]⟩ : ByteArray) ++ (shS y.1)) ++ (⟨#[32]⟩ : ByteArray))) := postsHold_at hp 5 rfl
                  have hv6 : V 6 = (.pointer (some ⟨b7, 1, none⟩)) := postsHold_at hp 6 rfl
                  have hv7 : V 7 = (.int .u8 y.2.1) := postsHold_at hp 7 rfl
                  have hv8 : V 8 = (.int .i64 y.2.1) := postsHold_at hp 8 rfl
                  have hv9 : V 9 = (.string (kindS y.2.1)) := postsHold_at hp 9 rfl
                  have hv10 : V 10 = (.string ((((⟨#[101, 120, 112, 111, 114, 116, 32]⟩ : ByteArray) ++ (shS y.1)) ++ (⟨#[32]⟩ : ByteArray)) ++ (kindS y.2.1))) := postsHold_at hp 10 rfl
                  have hv11 : V 11 = (.string (((((⟨#[101, 120, 112, 111, 114, 116, 32]⟩ : ByteArray) ++ (shS y.1)) ++ (⟨#[32]⟩ : ByteArray)) ++ (kindS y.2.1)) ++ (⟨#[32]⟩ : ByteArray))) := postsHold_at hp 11 rfl
                  have hv12 : V 12 = (.pointer (some ⟨b7, 2, none⟩)) := postsHold_at hp 12 rfl
                  have hv13 : V 13 = (.int .u32 y.2.2.1) := postsHold_at hp 13 rfl
                  have hv14 : V 14 = (.int .u64 y.2.2.1) := postsHold_at hp 14 rfl
                  have hv15 : V 15 = (.string (dS y.2.2.1)) := postsHold_at hp 15 rfl
                  have hv16 : V 16 = (.string ((((((⟨#[101, 120, 112, 111, 114, 116, 32]⟩ : ByteArray) ++ (shS y.1)) ++ (⟨#[32]⟩ : ByteArray)) ++ (kindS y.2.1)) ++ (⟨#[32]⟩ : ByteArray)) ++ (dS y.2.2.1))) := postsHold_at hp 16 rfl
                  have hv17 := postsHold_at hp 17 rfl
                  obtain ⟨b8, hv17, hle8, hk11⟩ := hv17
                  have hBb8 : w.heap.size ≤ b8 := Nat.le_trans hb.size hle8
                  simp only [List.take_succ_cons, List.take_zero, insAll, ins, hv0, hv1, hv2, hv3, hv4, hv5, hv6, hv7, hv8, hv9, hv10, hv11, hv12, hv13, hv14, hv15, hv16, hv17] at hf
                  have : b1 < b8 := Nat.lt_of_lt_of_le (blk_lt hkb1) hle8
                  have : b7 < b8 := Nat.lt_of_lt_of_le (blk_lt hk10) hle8
                  have hnr3 : (Value.slice roa ((((imL m ++ (m.2.2.2.2.2.2.1.list.take k).map exLn)).length)) roc).ownBlock ≠ some b8 := fun hq => by have := (Row.lt hro _ hq).2; have := hle8; omega
                  clear hp hnb hv0 hv1 hv2 hv3 hv4 hv5 hv6 hv7 hv8 hv9 hv10 hv11 hv12 hv13 hv14 hv15 hv16 hv17
                  replace hkb1 := blk_ext hkb1 he11
                  replace hk10 := blk_ext hk10 he11
                  replace hro := Row.ext hro he11
                  replace hb := hb.trans (Below.mono he11 hb.size)
                  simp only [List.drop_succ_cons, List.drop_zero]
                  have hs4 := Row.rd (by intros; rfl) (Row.of_new (k := 1) (V := vStr) (l := [((((((⟨#[101, 120, 112, 111, 114, 116, 32]⟩ : ByteArray) ++ (shS y.1)) ++ (⟨#[32]⟩ : ByteArray)) ++ (kindS y.2.1)) ++ (⟨#[32]⟩ : ByteArray)) ++ (dS y.2.2.1))]) hk11 (Nat.le_refl _) rfl rfl (Nat.le_of_ble_eq_true rfl))
                  refine sqdt hf (d_append (V := vStr) (k := 1) (e := 9) (bytes := 16) (z := (.string ⟨#[]⟩)) (news := [((((((⟨#[101, 120, 112, 111, 114, 116, 32]⟩ : ByteArray) ++ (shS y.1)) ++ (⟨#[32]⟩ : ByteArray)) ++ (kindS y.2.1)) ++ (⟨#[32]⟩ : ByteArray)) ++ (dS y.2.2.1))]) (base := w.heap.size) (by intros; rfl) (by intro x u hu; simp only [vStr, List.mem_singleton] at hu; subst hu; rfl) rfl rfl Try.underlying32 (by kernel_rfl) rfl rfl rfl hro hs4 rfl (fun h => by cases h) (by first | omega | (simp only [List.length_cons, List.length_nil, List.length_append, nums_len, List.length_map, List.length_take, Sl.list_length]; omega)) (by have := hb.size; omega)) rfl rfl rfl ?_; clear hf fa; rintro fa v w23 ⟨hr5, hg7⟩ hf; obtain ⟨ra4, rc4, rfl, hcrc4, hmrc4⟩ := Row.slice hr5
                  replace hkb1 := blk_row' hkb1 hg7 (Row.ne_type hro hkb1 rfl)
                  replace hk10 := blk_row' hk10 hg7 (Row.ne_type hro hk10 rfl)
                  replace hb := hb.trans (row_below hro hg7 hb.size (by have := hb.size; omega))
                  refine sqv hf (r_assign rfl) rfl rfl rfl ?_; clear hf fa; intro fa hf
                  apply wpList_nil
                  (try simp only [Exit.then, Exit.inBlock, ↓reduceIte, Nat.reduceEqDiff])
                  refine hK27 _ _ ?_
                  refine wp_region_lit ?_
                  refine sqv hf (r_move rfl) rfl rfl rfl ?_; clear hf fa; intro fa hf
                  refine sqv hf (r_add (C := (((k : Nat) : Int) + (1 : Int))) rfl rfl (by rw [IntKind.wrap_i64]; omega)) rfl rfl rfl ?_; clear hf fa; intro fa hf
                  refine sqv hf (r_assign rfl) rfl rfl rfl ?_; clear hf fa; intro fa hf
                  apply wpList_nil
                  (try simp only [Exit.then, Exit.inBlock, ↓reduceIte, Nat.reduceEqDiff])
                  have hrl : ((m.2.2.2.2.2.2.1.list.take (k + 1)).map exLn).length = ((m.2.2.2.2.2.2.1.list.take k).map exLn).length + 1 := by rw [take_at hy, List.map_append, List.length_append]; rfl
                  refine hKL4 _ _ _ (by omega) ⟨(k + 1), ra4, rc4, rfl, hf.sub ⟨rfl, (some_int (by first | rfl | omega)), (some_sl (by first | omega | rfl | (simp only [List.length_append, List.length_cons, List.length_nil]; omega) | (simp <;> omega)) rfl), trivial⟩, hb, (rowToE hr5 (map_snoc (f := exLn) (p := imL m) hy)), hkb1, by omega⟩
              · have hqt115_1b := hqt115_1
                replace hqt115_1 := Bool.eq_false_iff.1 hqt115_1
                try simp only [ne_eq, decide_eq_true_eq, Bool.and_eq_true, Bool.or_eq_true, Bool.not_eq_true', decide_eq_false_iff_not] at hqt115_1
                refine wp_exit ?_
                (try simp only [Exit.then, Exit.inBlock, ↓reduceIte, Nat.reduceEqDiff])
                refine hK23 _ _ ?_
                refine wp_seq_k (fun K29 hK29 => ?_)
                refine wp_region_unT 25 (fun wq => Below w19.heap.size w19 wq) (fun w w' => Below w.heap.size w w')
                  (fun V => [(fun x _ => x = (.slice roa (((imL m ++ (m.2.2.2.2.2.2.1.list.take k).map exLn)).length) roc)), (fun x _ => x = (.pointer (some ⟨b1, 2, none⟩))), (fun x _ => x = (.slice m.2.2.1.at' m.2.2.1.len m.2.2.1.cap)), (fun x _ => x = (.int .i64 ((m.2.2.1.len : Nat) : Int))), (fun x _ => x = (.string (dS ((m.2.2.1.len : Nat) : Int)))), (fun x _ => x = (.string ((⟨#[99, 111, 117, 110, 116, 115, 32]⟩ : ByteArray) ++ (dS ((m.2.2.1.len : Nat) : Int))))), (fun x _ => x = (.string (((⟨#[99, 111, 117, 110, 116, 115, 32]⟩ : ByteArray) ++ (dS ((m.2.2.1.len : Nat) : Int))) ++ (⟨#[32]⟩ : ByteArray)))), (fun x _ => x = (.pointer (some ⟨b1, 5, none⟩))), (fun x _ => x = (.slice m.2.2.2.2.2.1.at' m.2.2.2.2.2.1.len m.2.2.2.2.2.1.cap)), (fun x _ => x = (.int .i64 ((m.2.2.2.2.2.1.len : Nat) : Int))), (fun x _ => x = (.string (dS ((m.2.2.2.2.2.1.len : Nat) : Int)))), (fun x _ => x = (.string ((((⟨#[99, 111, 117, 110, 116, 115, 32]⟩ : ByteArray) ++ (dS ((m.2.2.1.len : Nat) : Int))) ++ (⟨#[32]⟩ : ByteArray)) ++ (dS ((m.2.2.2.2.2.1.len : Nat) : Int))))), (fun x _ => x = (.string (((((⟨#[99, 111, 117, 110, 116, 115, 32]⟩ : ByteArray) ++ (dS ((m.2.2.1.len : Nat) : Int))) ++ (⟨#[32]⟩ : ByteArray)) ++ (dS ((m.2.2.2.2.2.1.len : Nat) : Int))) ++ (⟨#[32]⟩ : ByteArray)))), (fun x _ => x = (.pointer (some ⟨b1, 8, none⟩))), (fun x _ => x = (.slice m.2.2.2.2.2.2.2.2.1.at' m.2.2.2.2.2.2.2.2.1.len m.2.2.2.2.2.2.2.2.1.cap)), (fun x _ => x = (.int .i64 ((m.2.2.2.2.2.2.2.2.1.len : Nat) : Int))), (fun x _ => x = (.string (dS ((m.2.2.2.2.2.2.2.2.1.len : Nat) : Int)))), (fun x _ => x = (.string ((((((⟨#[99, 111, 117, 110, 116, 115, 32]⟩ : ByteArray) ++ (dS ((m.2.2.1.len : Nat) : Int))) ++ (⟨#[32]⟩ : ByteArray)) ++ (dS ((m.2.2.2.2.2.1.len : Nat) : Int))) ++ (⟨#[32]⟩ : ByteArray)) ++ (dS ((m.2.2.2.2.2.2.2.2.1.len : Nat) : Int))))), (fun x _ => x = (.string (((((((⟨#[99, 111, 117, 110, 116, 115, 32]⟩ : ByteArray) ++ (dS ((m.2.2.1.len : Nat) : Int))) ++ (⟨#[32]⟩ : ByteArray)) ++ (dS ((m.2.2.2.2.2.1.len : Nat) : Int))) ++ (⟨#[32]⟩ : ByteArray)) ++ (dS ((m.2.2.2.2.2.2.2.2.1.len : Nat) : Int))) ++ (⟨#[32]⟩ : ByteArray)))), (fun x _ => x = (.pointer (some ⟨b1, 10, none⟩))), (fun x _ => x = (.slice m.2.2.2.2.2.2.2.2.2.2.1.at' m.2.2.2.2.2.2.2.2.2.2.1.len m.2.2.2.2.2.2.2.2.2.2.1.cap)), (fun x _ => x = (.int .i64 ((m.2.2.2.2.2.2.2.2.2.2.1.len : Nat) : Int))), (fun x _ => x = (.string (dS ((m.2.2.2.2.2.2.2.2.2.2.1.len : Nat) : Int)))), (fun x _ => x = (.string ((((((((⟨#[99, 111, 117, 110, 116, 115, 32]⟩ : ByteArray) ++ (dS ((m.2.2.1.len : Nat) : Int))) ++ (⟨#[32]⟩ : ByteArray)) ++ (dS ((m.2.2.2.2.2.1.len : Nat) : Int))) ++ (⟨#[32]⟩ : ByteArray)) ++ (dS ((m.2.2.2.2.2.2.2.2.1.len : Nat) : Int))) ++ (⟨#[32]⟩ : ByteArray)) ++ (dS ((m.2.2.2.2.2.2.2.2.2.2.1.len : Nat) : Int))))), (fun x wq => ∃ b, x = .slice (some ⟨b, 0, none⟩) 1 1 ∧ w19.heap.size ≤ b ∧ wq.heap[b]? = some (.cells #[(.string ((((((((⟨#[99, 111, 117, 110, 116, 115, 32]⟩ : ByteArray) ++ (dS ((m.2.2.1.len : Nat) : Int))) ++ (⟨#[32]⟩ : ByteArray)) ++ (dS ((m.2.2.2.2.2.1.len : Nat) : Int))) ++ (⟨#[32]⟩ : ByteArray)) ++ (dS ((m.2.2.2.2.2.2.2.2.1.len : Nat) : Int))) ++ (⟨#[32]⟩ : ByteArray)) ++ (dS ((m.2.2.2.2.2.2.2.2.2.2.1.len : Nat) : Int))))] 9 (0, 0)))])
                  [24]
                  [[], [], [1], [2], [3], [4], [5], [], [7], [8], [4, 9], [6, 10], [11], [], [13], [14], [10, 15], [12, 16], [17], [], [19], [20], [16, 21], [18, 22], [23], [], []]
                  hf (by kernel_rfl) (by kernel_rfl) (by kernel_rfl) (fun _ => rfl) ((Below.refl _ _).drew) (fun a b h1 h2 => h1.trans (h2.mono h1.size)) (fun _ _ h => h.size) (fun V => ⟨kept_eq, kept_eq, kept_eq, kept_eq, kept_eq, kept_eq, kept_eq, kept_eq, kept_eq, kept_eq, kept_eq, kept_eq, kept_eq, kept_eq, kept_eq, kept_eq, kept_eq, kept_eq, kept_eq, kept_eq, kept_eq, kept_eq, kept_eq, kept_eq, keptB, trivial⟩) (fun _ _ _ _ _ => rfl) ?_ ?_
                · skip
                  intro V
                  refine ⟨fun wu0 hC hd => ?_, ?_⟩
                  · clear hd
                    replace hb := hb.trans (hC.mono hb.size)
                    replace hkb1 := blk_ext hkb1 hC
                    replace hro := Row.ext hro hC
                    exact Runs.does (r_move rfl) ⟨Below.refl _ _, rfl, nofr rfl⟩
                  refine ⟨fun wu1 hC hd => ?_, ?_⟩
                  · clear hd
                    replace hb := hb.trans (hC.mono hb.size)
                    replace hkb1 := blk_ext hkb1 hC
                    replace hro := Row.ext hro hC
                    exact Runs.does (r_fa rfl Try.underlying36 (f := 2) (q := 2) rfl (by kernel_rfl) rfl) ⟨Below.refl _ _, rfl, nofr rfl⟩
                  refine ⟨fun wu2 hC hd => ?_, ?_⟩
                  · obtain ⟨h1, _⟩ := hd
                    skip
                    replace h1 : V 1 = (.pointer (some ⟨b1, 2, none⟩)) := h1
                    replace hb := hb.trans (hC.mono hb.size)
                    replace hkb1 := blk_ext hkb1 hC
                    replace hro := Row.ext hro hC
                    exact Runs.does (r_load (v := (.slice m.2.2.1.at' m.2.2.1.len m.2.2.1.cap)) (congrArg some h1) Try.underlying24 rfl (cell_blk hkb1 rfl)) ⟨Below.refl _ _, rfl, nofr rfl⟩
                  refine ⟨fun wu3 hC hd => ?_, ?_⟩
                  · obtain ⟨h2, _⟩ := hd
                    skip
                    replace h2 : V 2 = (.slice m.2.2.1.at' m.2.2.1.len m.2.2.1.cap) := h2
                    replace hb := hb.trans (hC.mono hb.size)
                    replace hkb1 := blk_ext hkb1 hC
                    replace hro := Row.ext hro hC
                    exact Runs.does (r_lensl (congrArg some h2) Try.underlying24) ⟨Below.refl _ _, rfl, nofr rfl⟩
                  refine ⟨fun wu4 hC hd => ?_, ?_⟩
                  · obtain ⟨h3, _⟩ := hd
                    skip
                    replace h3 : V 3 = (.int .i64 ((m.2.2.1.len : Nat) : Int)) := h3
                    replace hb := hb.trans (hC.mono hb.size)
                    replace hkb1 := blk_ext hkb1 hC
                    replace hro := Row.ext hro hC
                    refine Does.mono (d_callB (vs := [(.int .i64 ((m.2.2.1.len : Nat) : Int))]) (show [some (V 3)] = [some (.int .i64 ((m.2.2.1.len : Nat) : Int))] from by rw [h3]) Try.func33 (by kernel_rfl) (by kernel_rfl) (rdigits_any ((m.2.2.1.len : Nat) : Int) _ (inI_u32 (by omega)))) (fun _ _ h => ⟨h.2, h.1, nofr rfl⟩)
                  refine ⟨fun wu5 hC hd => ?_, ?_⟩
                  · obtain ⟨h4, _⟩ := hd
                    skip
                    replace h4 : V 4 = (.string (dS ((m.2.2.1.len : Nat) : Int))) := h4
                    replace hb := hb.trans (hC.mono hb.size)
                    replace hkb1 := blk_ext hkb1 hC
                    replace hro := Row.ext hro hC
                    exact Runs.does (r_sadd rfl (congrArg some h4) (by have : ((⟨#[99, 111, 117, 110, 116, 115, 32]⟩) : ByteArray).size = 7 := rfl; omega)) ⟨Below.refl _ _, rfl, nofr rfl⟩
                  refine ⟨fun wu6 hC hd => ?_, ?_⟩
                  · obtain ⟨h5, _⟩ := hd
                    skip
                    replace h5 : V 5 = (.string ((⟨#[99, 111, 117, 110, 116, 115, 32]⟩ : ByteArray) ++ (dS ((m.2.2.1.len : Nat) : Int)))) := h5
                    replace hb := hb.trans (hC.mono hb.size)
                    replace hkb1 := blk_ext hkb1 hC
                    replace hro := Row.ext hro hC
                    exact Runs.does (r_sadd (congrArg some h5) rfl (by have : ((⟨#[99, 111, 117, 110, 116, 115, 32]⟩) : ByteArray).size = 7 := rfl; have := sz_app (⟨#[99, 111, 117, 110, 116, 115, 32]⟩ : ByteArray) (dS ((m.2.2.1.len : Nat) : Int)); have : ((⟨#[32]⟩) : ByteArray).size = 1 := rfl; omega)) ⟨Below.refl _ _, rfl, nofr rfl⟩
                  refine ⟨fun wu7 hC hd => ?_, ?_⟩
                  · clear hd
                    replace hb := hb.trans (hC.mono hb.size)
                    replace hkb1 := blk_ext hkb1 hC
                    replace hro := Row.ext hro hC
                    exact Runs.does (r_fa rfl Try.underlying36 (f := 5) (q := 5) rfl (by kernel_rfl) rfl) ⟨Below.refl _ _, rfl, nofr rfl⟩
                  refine ⟨fun wu8 hC hd => ?_, ?_⟩
                  · obtain ⟨h7, _⟩ := hd
                    skip
                    replace h7 : V 7 = (.pointer (some ⟨b1, 5, none⟩)) := h7
                    replace hb := hb.trans (hC.mono hb.size)
                    replace hkb1 := blk_ext hkb1 hC
                    replace hro := Row.ext hro hC
                    exact Runs.does (r_load (v := (.slice m.2.2.2.2.2.1.at' m.2.2.2.2.2.1.len m.2.2.2.2.2.1.cap)) (congrArg some h7) Try.underlying26 rfl (cell_blk hkb1 rfl)) ⟨Below.refl _ _, rfl, nofr rfl⟩
                  refine ⟨fun wu9 hC hd => ?_, ?_⟩
                  · obtain ⟨h8, _⟩ := hd
                    skip
                    replace h8 : V 8 = (.slice m.2.2.2.2.2.1.at' m.2.2.2.2.2.1.len m.2.2.2.2.2.1.cap) := h8
                    replace hb := hb.trans (hC.mono hb.size)
                    replace hkb1 := blk_ext hkb1 hC
                    replace hro := Row.ext hro hC
                    exact Runs.does (r_lensl (congrArg some h8) Try.underlying26) ⟨Below.refl _ _, rfl, nofr rfl⟩
                  refine ⟨fun wu10 hC hd => ?_, ?_⟩
                  · obtain ⟨h4, h9, _⟩ := hd
                    skip
                    skip
                    replace h4 : V 4 = (.string (dS ((m.2.2.1.len : Nat) : Int))) := h4
                    replace h9 : V 9 = (.int .i64 ((m.2.2.2.2.2.1.len : Nat) : Int)) := h9
                    replace hb := hb.trans (hC.mono hb.size)
                    replace hkb1 := blk_ext hkb1 hC
                    replace hro := Row.ext hro hC
                    refine Does.mono (d_callB (vs := [(.int .i64 ((m.2.2.2.2.2.1.len : Nat) : Int))]) (show [some (V 9)] = [some (.int .i64 ((m.2.2.2.2.2.1.len : Nat) : Int))] from by rw [h9]) Try.func33 (by kernel_rfl) (by kernel_rfl) (rdigits_any ((m.2.2.2.2.2.1.len : Nat) : Int) _ (inI_u32 (by omega)))) (fun _ _ h => ⟨h.2, h.1, nofr rfl⟩)
                  refine ⟨fun wu11 hC hd => ?_, ?_⟩
                  · obtain ⟨h6, h10, _⟩ := hd
                    skip
                    skip
                    replace h6 : V 6 = (.string (((⟨#[99, 111, 117, 110, 116, 115, 32]⟩ : ByteArray) ++ (dS ((m.2.2.1.len : Nat) : Int))) ++ (⟨#[32]⟩ : ByteArray))) := h6
                    replace h10 : V 10 = (.string (dS ((m.2.2.2.2.2.1.len : Nat) : Int))) := h10
                    replace hb := hb.trans (hC.mono hb.size)
                    replace hkb1 := blk_ext hkb1 hC
                    replace hro := Row.ext hro hC
                    exact Runs.does (r_sadd (congrArg some h6) (congrArg some h10) (by have : ((⟨#[99, 111, 117, 110, 116, 115, 32]⟩) : ByteArray).size = 7 := rfl; have := sz_app (⟨#[99, 111, 117, 110, 116, 115, 32]⟩ : ByteArray) (dS ((m.2.2.1.len : Nat) : Int)); have : ((⟨#[32]⟩) : ByteArray).size = 1 := rfl; have := sz_app ((⟨#[99, 111, 117, 110, 116, 115, 32]⟩ : ByteArray) ++ (dS ((m.2.2.1.len : Nat) : Int))) (⟨#[32]⟩ : ByteArray); omega)) ⟨Below.refl _ _, rfl, nofr rfl⟩
                  refine ⟨fun wu12 hC hd => ?_, ?_⟩
                  · obtain ⟨h11, _⟩ := hd
                    skip
                    replace h11 : V 11 = (.string ((((⟨#[99, 111, 117, 110, 116, 115, 32]⟩ : ByteArray) ++ (dS ((m.2.2.1.len : Nat) : Int))) ++ (⟨#[32]⟩ : ByteArray)) ++ (dS ((m.2.2.2.2.2.1.len : Nat) : Int)))) := h11
                    replace hb := hb.trans (hC.mono hb.size)
                    replace hkb1 := blk_ext hkb1 hC
                    replace hro := Row.ext hro hC
                    exact Runs.does (r_sadd (congrArg some h11) rfl (by have : ((⟨#[99, 111, 117, 110, 116, 115, 32]⟩) : ByteArray).size = 7 := rfl; have := sz_app (⟨#[99, 111, 117, 110, 116, 115, 32]⟩ : ByteArray) (dS ((m.2.2.1.len : Nat) : Int)); have : ((⟨#[32]⟩) : ByteArray).size = 1 := rfl; have := sz_app ((⟨#[99, 111, 117, 110, 116, 115, 32]⟩ : ByteArray) ++ (dS ((m.2.2.1.len : Nat) : Int))) (⟨#[32]⟩ : ByteArray); have := sz_app (((⟨#[99, 111, 117, 110, 116, 115, 32]⟩ : ByteArray) ++ (dS ((m.2.2.1.len : Nat) : Int))) ++ (⟨#[32]⟩ : ByteArray)) (dS ((m.2.2.2.2.2.1.len : Nat) : Int)); have : ((⟨#[32]⟩) : ByteArray).size = 1 := rfl; omega)) ⟨Below.refl _ _, rfl, nofr rfl⟩
                  refine ⟨fun wu13 hC hd => ?_, ?_⟩
                  · clear hd
                    replace hb := hb.trans (hC.mono hb.size)
                    replace hkb1 := blk_ext hkb1 hC
                    replace hro := Row.ext hro hC
                    exact Runs.does (r_fa rfl Try.underlying36 (f := 8) (q := 8) rfl (by kernel_rfl) rfl) ⟨Below.refl _ _, rfl, nofr rfl⟩
                  refine ⟨fun wu14 hC hd => ?_, ?_⟩
                  · obtain ⟨h13, _⟩ := hd
                    skip
                    replace h13 : V 13 = (.pointer (some ⟨b1, 8, none⟩)) := h13
                    replace hb := hb.trans (hC.mono hb.size)
                    replace hkb1 := blk_ext hkb1 hC
                    replace hro := Row.ext hro hC
                    exact Runs.does (r_load (v := (.slice m.2.2.2.2.2.2.2.2.1.at' m.2.2.2.2.2.2.2.2.1.len m.2.2.2.2.2.2.2.2.1.cap)) (congrArg some h13) Try.underlying28 rfl (cell_blk hkb1 rfl)) ⟨Below.refl _ _, rfl, nofr rfl⟩
                  refine ⟨fun wu15 hC hd => ?_, ?_⟩
                  · obtain ⟨h14, _⟩ := hd
                    skip
                    replace h14 : V 14 = (.slice m.2.2.2.2.2.2.2.2.1.at' m.2.2.2.2.2.2.2.2.1.len m.2.2.2.2.2.2.2.2.1.cap) := h14
                    replace hb := hb.trans (hC.mono hb.size)
                    replace hkb1 := blk_ext hkb1 hC
                    replace hro := Row.ext hro hC
                    exact Runs.does (r_lensl (congrArg some h14) Try.underlying28) ⟨Below.refl _ _, rfl, nofr rfl⟩
                  refine ⟨fun wu16 hC hd => ?_, ?_⟩
                  · obtain ⟨h10, h15, _⟩ := hd
                    skip
                    skip
                    replace h10 : V 10 = (.string (dS ((m.2.2.2.2.2.1.len : Nat) : Int))) := h10
                    replace h15 : V 15 = (.int .i64 ((m.2.2.2.2.2.2.2.2.1.len : Nat) : Int)) := h15
                    replace hb := hb.trans (hC.mono hb.size)
                    replace hkb1 := blk_ext hkb1 hC
                    replace hro := Row.ext hro hC
                    refine Does.mono (d_callB (vs := [(.int .i64 ((m.2.2.2.2.2.2.2.2.1.len : Nat) : Int))]) (show [some (V 15)] = [some (.int .i64 ((m.2.2.2.2.2.2.2.2.1.len : Nat) : Int))] from by rw [h15]) Try.func33 (by kernel_rfl) (by kernel_rfl) (rdigits_any ((m.2.2.2.2.2.2.2.2.1.len : Nat) : Int) _ (inI_u32 (by omega)))) (fun _ _ h => ⟨h.2, h.1, nofr rfl⟩)
                  refine ⟨fun wu17 hC hd => ?_, ?_⟩
                  · obtain ⟨h12, h16, _⟩ := hd
                    skip
                    skip
                    replace h12 : V 12 = (.string (((((⟨#[99, 111, 117, 110, 116, 115, 32]⟩ : ByteArray) ++ (dS ((m.2.2.1.len : Nat) : Int))) ++ (⟨#[32]⟩ : ByteArray)) ++ (dS ((m.2.2.2.2.2.1.len : Nat) : Int))) ++ (⟨#[32]⟩ : ByteArray))) := h12
                    replace h16 : V 16 = (.string (dS ((m.2.2.2.2.2.2.2.2.1.len : Nat) : Int))) := h16
                    replace hb := hb.trans (hC.mono hb.size)
                    replace hkb1 := blk_ext hkb1 hC
                    replace hro := Row.ext hro hC
                    exact Runs.does (r_sadd (congrArg some h12) (congrArg some h16) (by have : ((⟨#[99, 111, 117, 110, 116, 115, 32]⟩) : ByteArray).size = 7 := rfl; have := sz_app (⟨#[99, 111, 117, 110, 116, 115, 32]⟩ : ByteArray) (dS ((m.2.2.1.len : Nat) : Int)); have : ((⟨#[32]⟩) : ByteArray).size = 1 := rfl; have := sz_app ((⟨#[99, 111, 117, 110, 116, 115, 32]⟩ : ByteArray) ++ (dS ((m.2.2.1.len : Nat) : Int))) (⟨#[32]⟩ : ByteArray); have := sz_app (((⟨#[99, 111, 117, 110, 116, 115, 32]⟩ : ByteArray) ++ (dS ((m.2.2.1.len : Nat) : Int))) ++ (⟨#[32]⟩ : ByteArray)) (dS ((m.2.2.2.2.2.1.len : Nat) : Int)); have : ((⟨#[32]⟩) : ByteArray).size = 1 := rfl; have := sz_app ((((⟨#[99, 111, 117, 110, 116, 115, 32]⟩ : ByteArray) ++ (dS ((m.2.2.1.len : Nat) : Int))) ++ (⟨#[32]⟩ : ByteArray)) ++ (dS ((m.2.2.2.2.2.1.len : Nat) : Int))) (⟨#[32]⟩ : ByteArray); omega)) ⟨Below.refl _ _, rfl, nofr rfl⟩
                  refine ⟨fun wu18 hC hd => ?_, ?_⟩
                  · obtain ⟨h17, _⟩ := hd
                    skip
                    replace h17 : V 17 = (.string ((((((⟨#[99, 111, 117, 110, 116, 115, 32]⟩ : ByteArray) ++ (dS ((m.2.2.1.len : Nat) : Int))) ++ (⟨#[32]⟩ : ByteArray)) ++ (dS ((m.2.2.2.2.2.1.len : Nat) : Int))) ++ (⟨#[32]⟩ : ByteArray)) ++ (dS ((m.2.2.2.2.2.2.2.2.1.len : Nat) : Int)))) := h17
                    replace hb := hb.trans (hC.mono hb.size)
                    replace hkb1 := blk_ext hkb1 hC
                    replace hro := Row.ext hro hC
                    exact Runs.does (r_sadd (congrArg some h17) rfl (by have : ((⟨#[99, 111, 117, 110, 116, 115, 32]⟩) : ByteArray).size = 7 := rfl; have := sz_app (⟨#[99, 111, 117, 110, 116, 115, 32]⟩ : ByteArray) (dS ((m.2.2.1.len : Nat) : Int)); have : ((⟨#[32]⟩) : ByteArray).size = 1 := rfl; have := sz_app ((⟨#[99, 111, 117, 110, 116, 115, 32]⟩ : ByteArray) ++ (dS ((m.2.2.1.len : Nat) : Int))) (⟨#[32]⟩ : ByteArray); have := sz_app (((⟨#[99, 111, 117, 110, 116, 115, 32]⟩ : ByteArray) ++ (dS ((m.2.2.1.len : Nat) : Int))) ++ (⟨#[32]⟩ : ByteArray)) (dS ((m.2.2.2.2.2.1.len : Nat) : Int)); have : ((⟨#[32]⟩) : ByteArray).size = 1 := rfl; have := sz_app ((((⟨#[99, 111, 117, 110, 116, 115, 32]⟩ : ByteArray) ++ (dS ((m.2.2.1.len : Nat) : Int))) ++ (⟨#[32]⟩ : ByteArray)) ++ (dS ((m.2.2.2.2.2.1.len : Nat) : Int))) (⟨#[32]⟩ : ByteArray); have := sz_app (((((⟨#[99, 111, 117, 110, 116, 115, 32]⟩ : ByteArray) ++ (dS ((m.2.2.1.len : Nat) : Int))) ++ (⟨#[32]⟩ : ByteArray)) ++ (dS ((m.2.2.2.2.2.1.len : Nat) : Int))) ++ (⟨#[32]⟩ : ByteArray)) (dS ((m.2.2.2.2.2.2.2.2.1.len : Nat) : Int)); have : ((⟨#[32]⟩) : ByteArray).size = 1 := rfl; omega)) ⟨Below.refl _ _, rfl, nofr rfl⟩
                  refine ⟨fun wu19 hC hd => ?_, ?_⟩
                  · clear hd
                    replace hb := hb.trans (hC.mono hb.size)
                    replace hkb1 := blk_ext hkb1 hC
                    replace hro := Row.ext hro hC
                    exact Runs.does (r_fa rfl Try.underlying36 (f := 10) (q := 10) rfl (by kernel_rfl) rfl) ⟨Below.refl _ _, rfl, nofr rfl⟩
                  refine ⟨fun wu20 hC hd => ?_, ?_⟩
                  · obtain ⟨h19, _⟩ := hd
                    skip
                    replace h19 : V 19 = (.pointer (some ⟨b1, 10, none⟩)) := h19
                    replace hb := hb.trans (hC.mono hb.size)
                    replace hkb1 := blk_ext hkb1 hC
                    replace hro := Row.ext hro hC
                    exact Runs.does (r_load (v := (.slice m.2.2.2.2.2.2.2.2.2.2.1.at' m.2.2.2.2.2.2.2.2.2.2.1.len m.2.2.2.2.2.2.2.2.2.2.1.cap)) (congrArg some h19) Try.underlying30 rfl (cell_blk hkb1 rfl)) ⟨Below.refl _ _, rfl, nofr rfl⟩
                  refine ⟨fun wu21 hC hd => ?_, ?_⟩
                  · obtain ⟨h20, _⟩ := hd
                    skip
                    replace h20 : V 20 = (.slice m.2.2.2.2.2.2.2.2.2.2.1.at' m.2.2.2.2.2.2.2.2.2.2.1.len m.2.2.2.2.2.2.2.2.2.2.1.cap) := h20
                    replace hb := hb.trans (hC.mono hb.size)
                    replace hkb1 := blk_ext hkb1 hC
                    replace hro := Row.ext hro hC
                    exact Runs.does (r_lensl (congrArg some h20) Try.underlying30) ⟨Below.refl _ _, rfl, nofr rfl⟩
                  refine ⟨fun wu22 hC hd => ?_, ?_⟩
                  · obtain ⟨h16, h21, _⟩ := hd
                    skip
                    skip
                    replace h16 : V 16 = (.string (dS ((m.2.2.2.2.2.2.2.2.1.len : Nat) : Int))) := h16
                    replace h21 : V 21 = (.int .i64 ((m.2.2.2.2.2.2.2.2.2.2.1.len : Nat) : Int)) := h21
                    replace hb := hb.trans (hC.mono hb.size)
                    replace hkb1 := blk_ext hkb1 hC
                    replace hro := Row.ext hro hC
                    refine Does.mono (d_callB (vs := [(.int .i64 ((m.2.2.2.2.2.2.2.2.2.2.1.len : Nat) : Int))]) (show [some (V 21)] = [some (.int .i64 ((m.2.2.2.2.2.2.2.2.2.2.1.len : Nat) : Int))] from by rw [h21]) Try.func33 (by kernel_rfl) (by kernel_rfl) (rdigits_any ((m.2.2.2.2.2.2.2.2.2.2.1.len : Nat) : Int) _ (inI_u32 (by omega)))) (fun _ _ h => ⟨h.2, h.1, nofr rfl⟩)
                  refine ⟨fun wu23 hC hd => ?_, ?_⟩
                  · obtain ⟨h18, h22, _⟩ := hd
                    skip
                    skip
                    replace h18 : V 18 = (.string (((((((⟨#[99, 111, 117, 110, 116, 115, 32]⟩ : ByteArray) ++ (dS ((m.2.2.1.len : Nat) : Int))) ++ (⟨#[32]⟩ : ByteArray)) ++ (dS ((m.2.2.2.2.2.1.len : Nat) : Int))) ++ (⟨#[32]⟩ : ByteArray)) ++ (dS ((m.2.2.2.2.2.2.2.2.1.len : Nat) : Int))) ++ (⟨#[32]⟩ : ByteArray))) := h18
                    replace h22 : V 22 = (.string (dS ((m.2.2.2.2.2.2.2.2.2.2.1.len : Nat) : Int))) := h22
                    replace hb := hb.trans (hC.mono hb.size)
                    replace hkb1 := blk_ext hkb1 hC
                    replace hro := Row.ext hro hC
                    exact Runs.does (r_sadd (congrArg some h18) (congrArg some h22) (by have : ((⟨#[99, 111, 117, 110, 116, 115, 32]⟩) : ByteArray).size = 7 := rfl; have := sz_app (⟨#[99, 111, 117, 110, 116, 115, 32]⟩ : ByteArray) (dS ((m.2.2.1.len : Nat) : Int)); have : ((⟨#[32]⟩) : ByteArray).size = 1 := rfl; have := sz_app ((⟨#[99, 111, 117, 110, 116, 115, 32]⟩ : ByteArray) ++ (dS ((m.2.2.1.len : Nat) : Int))) (⟨#[32]⟩ : ByteArray); have := sz_app (((⟨#[99, 111, 117, 110, 116, 115, 32]⟩ : ByteArray) ++ (dS ((m.2.2.1.len : Nat) : Int))) ++ (⟨#[32]⟩ : ByteArray)) (dS ((m.2.2.2.2.2.1.len : Nat) : Int)); have : ((⟨#[32]⟩) : ByteArray).size = 1 := rfl; have := sz_app ((((⟨#[99, 111, 117, 110, 116, 115, 32]⟩ : ByteArray) ++ (dS ((m.2.2.1.len : Nat) : Int))) ++ (⟨#[32]⟩ : ByteArray)) ++ (dS ((m.2.2.2.2.2.1.len : Nat) : Int))) (⟨#[32]⟩ : ByteArray); have := sz_app (((((⟨#[99, 111, 117, 110, 116, 115, 32]⟩ : ByteArray) ++ (dS ((m.2.2.1.len : Nat) : Int))) ++ (⟨#[32]⟩ : ByteArray)) ++ (dS ((m.2.2.2.2.2.1.len : Nat) : Int))) ++ (⟨#[32]⟩ : ByteArray)) (dS ((m.2.2.2.2.2.2.2.2.1.len : Nat) : Int)); have : ((⟨#[32]⟩) : ByteArray).size = 1 := rfl; have := sz_app ((((((⟨#[99, 111, 117, 110, 116, 115, 32]⟩ : ByteArray) ++ (dS ((m.2.2.1.len : Nat) : Int))) ++ (⟨#[32]⟩ : ByteArray)) ++ (dS ((m.2.2.2.2.2.1.len : Nat) : Int))) ++ (⟨#[32]⟩ : ByteArray)) ++ (dS ((m.2.2.2.2.2.2.2.2.1.len : Nat) : Int))) (⟨#[32]⟩ : ByteArray); omega)) ⟨Below.refl _ _, rfl, nofr rfl⟩
                  refine ⟨fun wu24 hC hd => ?_, ?_⟩
                  · obtain ⟨h23, _⟩ := hd
                    skip
                    replace h23 : V 23 = (.string ((((((((⟨#[99, 111, 117, 110, 116, 115, 32]⟩ : ByteArray) ++ (dS ((m.2.2.1.len : Nat) : Int))) ++ (⟨#[32]⟩ : ByteArray)) ++ (dS ((m.2.2.2.2.2.1.len : Nat) : Int))) ++ (⟨#[32]⟩ : ByteArray)) ++ (dS ((m.2.2.2.2.2.2.2.2.1.len : Nat) : Int))) ++ (⟨#[32]⟩ : ByteArray)) ++ (dS ((m.2.2.2.2.2.2.2.2.2.2.1.len : Nat) : Int)))) := h23
                    replace hb := hb.trans (hC.mono hb.size)
                    replace hkb1 := blk_ext hkb1 hC
                    replace hro := Row.ext hro hC
                    refine Does.mono (d_bslice (z := (.string ⟨#[]⟩)) (sz := 1) (vs := [(0, (.string ((((((((⟨#[99, 111, 117, 110, 116, 115, 32]⟩ : ByteArray) ++ (dS ((m.2.2.1.len : Nat) : Int))) ++ (⟨#[32]⟩ : ByteArray)) ++ (dS ((m.2.2.2.2.2.1.len : Nat) : Int))) ++ (⟨#[32]⟩ : ByteArray)) ++ (dS ((m.2.2.2.2.2.2.2.2.1.len : Nat) : Int))) ++ (⟨#[32]⟩ : ByteArray)) ++ (dS ((m.2.2.2.2.2.2.2.2.2.2.1.len : Nat) : Int)))))]) (cs := #[(.string ((((((((⟨#[99, 111, 117, 110, 116, 115, 32]⟩ : ByteArray) ++ (dS ((m.2.2.1.len : Nat) : Int))) ++ (⟨#[32]⟩ : ByteArray)) ++ (dS ((m.2.2.2.2.2.1.len : Nat) : Int))) ++ (⟨#[32]⟩ : ByteArray)) ++ (dS ((m.2.2.2.2.2.2.2.2.1.len : Nat) : Int))) ++ (⟨#[32]⟩ : ByteArray)) ++ (dS ((m.2.2.2.2.2.2.2.2.2.2.1.len : Nat) : Int))))]) (show [(0, some (V 23))] = [(0, some (.string ((((((((⟨#[99, 111, 117, 110, 116, 115, 32]⟩ : ByteArray) ++ (dS ((m.2.2.1.len : Nat) : Int))) ++ (⟨#[32]⟩ : ByteArray)) ++ (dS ((m.2.2.2.2.2.1.len : Nat) : Int))) ++ (⟨#[32]⟩ : ByteArray)) ++ (dS ((m.2.2.2.2.2.2.2.2.1.len : Nat) : Int))) ++ (⟨#[32]⟩ : ByteArray)) ++ (dS ((m.2.2.2.2.2.2.2.2.2.2.1.len : Nat) : Int)))))] from by rw [h23]) Try.underlying32 (by kernel_rfl) rfl (by kernel_rfl)) ?_
                    rintro _ w' ⟨b, rfl, hF⟩
                    exact ⟨hF.2.2, ⟨b, rfl, Nat.le_trans hC.size hF.1, hF.2.1⟩, isfr rfl hF.1 (blk_lt hF.2.1)⟩
                  trivial
                · skip
                  clear hf fa; intro V w24 fa he12 hp hnb hf
                  have hv0 : V 0 = (.slice roa (((imL m ++ (m.2.2.2.2.2.2.1.list.take k).map exLn)).length) roc) := postsHold_at hp 0 rfl
                  have hv1 : V 1 = (.pointer (some ⟨b1, 2, none⟩)) := postsHold_at hp 1 rfl
                  have hv2 : V 2 = (.slice m.2.2.1.at' m.2.2.1.len m.2.2.1.cap) := postsHold_at hp 2 rfl
                  have hv3 : V 3 = (.int .i64 ((m.2.2.1.len : Nat) : Int)) := postsHold_at hp 3 rfl
                  have hv4 : V 4 = (.string (dS ((m.2.2.1.len : Nat) : Int))) := postsHold_at hp 4 rfl
                  have hv5 : V 5 = (.string ((⟨#[99, 111, 117, 110, 116, 115, 32]⟩ : ByteArray) ++ (dS ((m.2.2.1.len : Nat) : Int)))) := postsHold_at hp 5 rfl
                  have hv6 : V 6 = (.string (((⟨#[99, 111, 117, 110, 116, 115, 32]⟩ : ByteArray) ++ (dS ((m.2.2.1.len : Nat) : Int))) ++ (⟨#[32]⟩ : ByteArray))) := postsHold_at hp 6 rfl
                  have hv7 : V 7 = (.pointer (some ⟨b1, 5, none⟩)) := postsHold_at hp 7 rfl
                  have hv8 : V 8 = (.slice m.2.2.2.2.2.1.at' m.2.2.2.2.2.1.len m.2.2.2.2.2.1.cap) := postsHold_at hp 8 rfl
                  have hv9 : V 9 = (.int .i64 ((m.2.2.2.2.2.1.len : Nat) : Int)) := postsHold_at hp 9 rfl
                  have hv10 : V 10 = (.string (dS ((m.2.2.2.2.2.1.len : Nat) : Int))) := postsHold_at hp 10 rfl
                  have hv11 : V 11 = (.string ((((⟨#[99, 111, 117, 110, 116, 115, 32]⟩ : ByteArray) ++ (dS ((m.2.2.1.len : Nat) : Int))) ++ (⟨#[32]⟩ : ByteArray)) ++ (dS ((m.2.2.2.2.2.1.len : Nat) : Int)))) := postsHold_at hp 11 rfl
                  have hv12 : V 12 = (.string (((((⟨#[99, 111, 117, 110, 116, 115, 32]⟩ : ByteArray) ++ (dS ((m.2.2.1.len : Nat) : Int))) ++ (⟨#[32]⟩ : ByteArray)) ++ (dS ((m.2.2.2.2.2.1.len : Nat) : Int))) ++ (⟨#[32]⟩ : ByteArray))) := postsHold_at hp 12 rfl
                  have hv13 : V 13 = (.pointer (some ⟨b1, 8, none⟩)) := postsHold_at hp 13 rfl
                  have hv14 : V 14 = (.slice m.2.2.2.2.2.2.2.2.1.at' m.2.2.2.2.2.2.2.2.1.len m.2.2.2.2.2.2.2.2.1.cap) := postsHold_at hp 14 rfl
                  have hv15 : V 15 = (.int .i64 ((m.2.2.2.2.2.2.2.2.1.len : Nat) : Int)) := postsHold_at hp 15 rfl
                  have hv16 : V 16 = (.string (dS ((m.2.2.2.2.2.2.2.2.1.len : Nat) : Int))) := postsHold_at hp 16 rfl
                  have hv17 : V 17 = (.string ((((((⟨#[99, 111, 117, 110, 116, 115, 32]⟩ : ByteArray) ++ (dS ((m.2.2.1.len : Nat) : Int))) ++ (⟨#[32]⟩ : ByteArray)) ++ (dS ((m.2.2.2.2.2.1.len : Nat) : Int))) ++ (⟨#[32]⟩ : ByteArray)) ++ (dS ((m.2.2.2.2.2.2.2.2.1.len : Nat) : Int)))) := postsHold_at hp 17 rfl
                  have hv18 : V 18 = (.string (((((((⟨#[99, 111, 117, 110, 116, 115, 32]⟩ : ByteArray) ++ (dS ((m.2.2.1.len : Nat) : Int))) ++ (⟨#[32]⟩ : ByteArray)) ++ (dS ((m.2.2.2.2.2.1.len : Nat) : Int))) ++ (⟨#[32]⟩ : ByteArray)) ++ (dS ((m.2.2.2.2.2.2.2.2.1.len : Nat) : Int))) ++ (⟨#[32]⟩ : ByteArray))) := postsHold_at hp 18 rfl
                  have hv19 : V 19 = (.pointer (some ⟨b1, 10, none⟩)) := postsHold_at hp 19 rfl
                  have hv20 : V 20 = (.slice m.2.2.2.2.2.2.2.2.2.2.1.at' m.2.2.2.2.2.2.2.2.2.2.1.len m.2.2.2.2.2.2.2.2.2.2.1.cap) := postsHold_at hp 20 rfl
                  have hv21 : V 21 = (.int .i64 ((m.2.2.2.2.2.2.2.2.2.2.1.len : Nat) : Int)) := postsHold_at hp 21 rfl
                  have hv22 : V 22 = (.string (dS ((m.2.2.2.2.2.2.2.2.2.2.1.len : Nat) : Int))) := postsHold_at hp 22 rfl
                  have hv23 : V 23 = (.string ((((((((⟨#[99, 111, 117, 110, 116, 115, 32]⟩ : ByteArray) ++ (dS ((m.2.2.1.len : Nat) : Int))) ++ (⟨#[32]⟩ : ByteArray)) ++ (dS ((m.2.2.2.2.2.1.len : Nat) : Int))) ++ (⟨#[32]⟩ : ByteArray)) ++ (dS ((m.2.2.2.2.2.2.2.2.1.len : Nat) : Int))) ++ (⟨#[32]⟩ : ByteArray)) ++ (dS ((m.2.2.2.2.2.2.2.2.2.2.1.len : Nat) : Int)))) := postsHold_at hp 23 rfl
                  have hv24 := postsHold_at hp 24 rfl
                  obtain ⟨b9, hv24, hle9, hk12⟩ := hv24
                  have hBb9 : w.heap.size ≤ b9 := Nat.le_trans hb.size hle9
                  simp only [List.take_succ_cons, List.take_zero, insAll, ins, hv0, hv1, hv2, hv3, hv4, hv5, hv6, hv7, hv8, hv9, hv10, hv11, hv12, hv13, hv14, hv15, hv16, hv17, hv18, hv19, hv20, hv21, hv22, hv23, hv24] at hf
                  have : b1 < b9 := Nat.lt_of_lt_of_le (blk_lt hkb1) hle9
                  have hnr4 : (Value.slice roa ((((imL m ++ (m.2.2.2.2.2.2.1.list.take k).map exLn)).length)) roc).ownBlock ≠ some b9 := fun hq => by have := (Row.lt hro _ hq).2; have := hle9; omega
                  clear hp hnb hv0 hv1 hv2 hv3 hv4 hv5 hv6 hv7 hv8 hv9 hv10 hv11 hv12 hv13 hv14 hv15 hv16 hv17 hv18 hv19 hv20 hv21 hv22 hv23 hv24
                  replace hkb1 := blk_ext hkb1 he12
                  replace hro := Row.ext hro he12
                  replace hb := hb.trans (Below.mono he12 hb.size)
                  simp only [List.drop_succ_cons, List.drop_zero]
                  have hs5 := Row.rd (by intros; rfl) (Row.of_new (k := 1) (V := vStr) (l := [((((((((⟨#[99, 111, 117, 110, 116, 115, 32]⟩ : ByteArray) ++ (dS ((m.2.2.1.len : Nat) : Int))) ++ (⟨#[32]⟩ : ByteArray)) ++ (dS ((m.2.2.2.2.2.1.len : Nat) : Int))) ++ (⟨#[32]⟩ : ByteArray)) ++ (dS ((m.2.2.2.2.2.2.2.2.1.len : Nat) : Int))) ++ (⟨#[32]⟩ : ByteArray)) ++ (dS ((m.2.2.2.2.2.2.2.2.2.2.1.len : Nat) : Int)))]) hk12 (Nat.le_refl _) rfl rfl (Nat.le_of_ble_eq_true rfl))
                  refine sqdt hf (d_append (V := vStr) (k := 1) (e := 9) (bytes := 16) (z := (.string ⟨#[]⟩)) (news := [((((((((⟨#[99, 111, 117, 110, 116, 115, 32]⟩ : ByteArray) ++ (dS ((m.2.2.1.len : Nat) : Int))) ++ (⟨#[32]⟩ : ByteArray)) ++ (dS ((m.2.2.2.2.2.1.len : Nat) : Int))) ++ (⟨#[32]⟩ : ByteArray)) ++ (dS ((m.2.2.2.2.2.2.2.2.1.len : Nat) : Int))) ++ (⟨#[32]⟩ : ByteArray)) ++ (dS ((m.2.2.2.2.2.2.2.2.2.2.1.len : Nat) : Int)))]) (base := w.heap.size) (by intros; rfl) (by intro x u hu; simp only [vStr, List.mem_singleton] at hu; subst hu; rfl) rfl rfl Try.underlying32 (by kernel_rfl) rfl rfl rfl hro hs5 rfl (fun h => by cases h) (by first | omega | (simp only [List.length_cons, List.length_nil, List.length_append, nums_len, List.length_map, List.length_take, Sl.list_length]; omega)) (by have := hb.size; omega)) rfl rfl rfl ?_; clear hf fa; rintro fa v w25 ⟨hr6, hg8⟩ hf; obtain ⟨ra5, rc5, rfl, hcrc5, hmrc5⟩ := Row.slice hr6
                  replace hkb1 := blk_row' hkb1 hg8 (Row.ne_type hro hkb1 rfl)
                  replace hb := hb.trans (row_below hro hg8 hb.size (by have := hb.size; omega))
                  refine sqv hf (r_assign rfl) rfl rfl rfl ?_; clear hf fa; intro fa hf
                  apply wpList_nil
                  (try simp only [Exit.then, Exit.inBlock, ↓reduceIte, Nat.reduceEqDiff])
                  refine hK29 _ _ ?_
                  refine wp_ret ?_
                  (try simp only [Exit.then, Exit.inBlock])
                  refine ret1 hf rfl rfl ?_
                  have hou : ((imL m ++ (m.2.2.2.2.2.2.1.list.take k).map exLn) ++ [((((((((⟨#[99, 111, 117, 110, 116, 115, 32]⟩ : ByteArray) ++ (dS ((m.2.2.1.len : Nat) : Int))) ++ (⟨#[32]⟩ : ByteArray)) ++ (dS ((m.2.2.2.2.2.1.len : Nat) : Int))) ++ (⟨#[32]⟩ : ByteArray)) ++ (dS ((m.2.2.2.2.2.2.2.2.1.len : Nat) : Int))) ++ (⟨#[32]⟩ : ByteArray)) ++ (dS ((m.2.2.2.2.2.2.2.2.2.2.1.len : Nat) : Int)))]) = outL m := by unfold outL; rw [← show imL m ++ m.2.2.2.2.2.2.1.list.map exLn = exL m from rfl, List.take_of_length_le (by rw [Sl.list_length]; omega)]; rfl
                  exact ⟨_, rfl, rowToE' hr6 hou, hb⟩
end Go.Proofs.Ytpalmpfkliepfaa

namespace Go.Proofs.Ytpalmpfkliepfaa
open Go.RowKit Ut
set_option linter.unusedVariables false
set_option linter.unusedSimpArgs false
set_option maxHeartbeats 1000000 in
set_option maxRecDepth 100000 in
theorem sames_any (a a2 : Option Addr) (c c2 : Nat) (M : List ByteArray) (w : World) (hl : RdS 1 vStr w a M) (hl2 : RdS 1 vStr w a2 M) (hm : M.length ≤ 4096) (hc1 : M.length ≤ c) (hc2 : M.length ≤ c2) : Calls Try.prog 9 #[(.slice a M.length c), (.slice a2 M.length c2)] w fun e w' => e = .returned (.bool true) ∧ Below w.heap.size w w' := by
  refine sx_enter (L := [(0, (.slice a M.length c)), (1, (.slice a2 M.length c2))]) Try.func9 rfl rfl rfl rfl (fun fa hf => ?_)
  have hb : Below w.heap.size w w := Below.refl _ _
  refine wp_seq_k (fun K1 hK1 => ?_)
  refine wp_region_lit ?_
  refine sqv hf (r_assign rfl) rfl rfl rfl ?_; clear hf fa; intro fa hf
  apply wpList_nil
  (try simp only [Exit.then, Exit.inBlock, ↓reduceIte, Nat.reduceEqDiff])
  refine hK1 _ _ ?_
  refine wp_seq_k (fun K2 hK2 => ?_)
  refine wp_seq_k (fun K3 hK3 => ?_)
  refine wp_region_lit ?_
  refine sqv hf (r_move rfl) rfl rfl rfl ?_; clear hf fa; intro fa hf
  refine sqv hf (r_lensl rfl Try.underlying32) rfl rfl rfl ?_; clear hf fa; intro fa hf
  refine sqv hf (r_move rfl) rfl rfl rfl ?_; clear hf fa; intro fa hf
  refine sqv hf (r_lensl rfl Try.underlying32) rfl rfl rfl ?_; clear hf fa; intro fa hf
  refine sqv hf (r_ne rfl rfl) rfl rfl rfl ?_; clear hf fa; intro fa hf
  apply wpList_nil
  (try simp only [Exit.then, Exit.inBlock, ↓reduceIte, Nat.reduceEqDiff])
  refine hK3 _ _ ?_
  refine wp_cond_false ((hf.ev rfl).trans (congrArg Value.bool (show (decide (((M.length : Nat) : Int) ≠ ((M.length : Nat) : Int))) = false from (by simp)))) ?_
  refine wp_skip ?_
  (try simp only [Exit.then, Exit.inBlock, ↓reduceIte, Nat.reduceEqDiff])
  refine hK2 _ _ ?_
  refine wp_seq_k (fun K4 hK4 => ?_)
  refine wp_seq_k (fun K5 hK5 => ?_)
  refine wp_region_lit ?_
  refine sqv hf (r_assign rfl) rfl rfl rfl ?_; clear hf fa; intro fa hf
  apply wpList_nil
  (try simp only [Exit.then, Exit.inBlock, ↓reduceIte, Nat.reduceEqDiff])
  refine hK5 _ _ ?_
  refine wp_block ?_
  refine wp_loop_k (fun mq fa wr => ∃ (k : Nat), mq = M.length - k ∧ Fr 26 fa [(0, (.slice a M.length c)), (1, (.slice a2 M.length c2)), (5, (.int .i64 ((k : Nat) : Int)))] ∧ Below w.heap.size w wr ∧ (k ≤ M.length)) ?_ ?_
  · skip
    exact ⟨_, 0, rfl, hf.sub ⟨rfl, rfl, (some_int (by first | rfl | omega)), trivial⟩, hb, by omega⟩
  · skip
    clear hf fa; intro mq1 fa w1 hI KL1 hKL1
    clear hb
    obtain ⟨k, hmq1, hf, hb, hk⟩ := hI
    refine wp_seq_k (fun K6 hK6 => ?_)
    refine wp_seq_k (fun K7 hK7 => ?_)
    refine wp_region_lit ?_
    refine sqv hf (r_move rfl) rfl rfl rfl ?_; clear hf fa; intro fa hf
    refine sqv hf (r_move rfl) rfl rfl rfl ?_; clear hf fa; intro fa hf
    refine sqv hf (r_lensl rfl Try.underlying32) rfl rfl rfl ?_; clear hf fa; intro fa hf
    refine sqv hf (r_lt rfl rfl) rfl rfl rfl ?_; clear hf fa; intro fa hf
    apply wpList_nil
    (try simp only [Exit.then, Exit.inBlock, ↓reduceIte, Nat.reduceEqDiff])
    refine hK7 _ _ ?_
    refine wp_cond_split (t := (decide (((k : Nat) : Int) < ((M.length : Nat) : Int)))) (hf.ev rfl) (fun hqt14_1 => ?_) (fun hqt14_1 => ?_)
    · have hqt14_1b := hqt14_1
      try simp only [decide_eq_true_eq, Bool.and_eq_true, Bool.or_eq_true, Bool.not_eq_true', decide_eq_false_iff_not, ne_eq, Bool.not_eq_true] at hqt14_1
      refine wp_skip ?_
      (try simp only [Exit.then, Exit.inBlock, ↓reduceIte, Nat.reduceEqDiff])
      refine hK6 _ _ ?_
      refine wp_seq_k (fun K8 hK8 => ?_)
      refine wp_block ?_
      refine wp_seq_k (fun K9 hK9 => ?_)
      obtain ⟨s, hs⟩ : ∃ x, M[k]? = some x := ⟨_, List.getElem?_eq_getElem (by omega)⟩
      have hy1 : (M)[k]? = some s := hs
      obtain ⟨ab1, aoff1, hat1, hlb1, hel1⟩ := RdS.at hl hy1
      have hy2 : (M)[k]? = some s := hs
      obtain ⟨ab2, aoff2, hat2, hlb2, hel2⟩ := RdS.at hl2 hy2
      refine wp_region_un (fun wq => Below w1.heap.size w1 wq) (fun w w' => Below w.heap.size w w')
        (fun V => [(fun x _ => x = (.slice a M.length c)), (fun x _ => x = (.int .i64 ((k : Nat) : Int))), (fun x _ => x = (.pointer (some ⟨ab1, (aoff1 + k * 1), none⟩))), (fun x _ => x = (.string s)), (fun x _ => x = (.slice a2 M.length c2)), (fun x _ => x = (.int .i64 ((k : Nat) : Int))), (fun x _ => x = (.pointer (some ⟨ab2, (aoff2 + k * 1), none⟩))), (fun x _ => x = (.string s)), (fun x _ => x = (.bool (decide (s ≠ s))))])
        []
        [[], [], [0, 1], [2], [], [], [4, 5], [6], [3, 7]]
        hf (by kernel_rfl) (by kernel_rfl) (fun _ => rfl) ((Below.refl _ _).drew) (fun a b h1 h2 => h1.trans (h2.mono h1.size)) (fun _ _ h => h.size) (fun V => ⟨kept_eq, kept_eq, kept_eq, kept_eq, kept_eq, kept_eq, kept_eq, kept_eq, kept_eq, trivial⟩) (fun _ _ _ _ _ => rfl) ?_ ?_
      · skip
        intro V
        refine ⟨fun wu0 hC hd => ?_, ?_⟩
        · clear hd
          replace hb := hb.trans (hC.mono hb.size)
          exact Runs.does (r_move rfl) ⟨Below.refl _ _, rfl, nofr rfl⟩
        refine ⟨fun wu1 hC hd => ?_, ?_⟩
        · clear hd
          replace hb := hb.trans (hC.mono hb.size)
          exact Runs.does (r_move rfl) ⟨Below.refl _ _, rfl, nofr rfl⟩
        refine ⟨fun wu2 hC hd => ?_, ?_⟩
        · obtain ⟨h0, h1, _⟩ := hd
          skip
          skip
          replace h0 : V 0 = (.slice a M.length c) := h0
          replace h1 : V 1 = (.int .i64 ((k : Nat) : Int)) := h1
          replace hb := hb.trans (hC.mono hb.size)
          exact Runs.does (r_ixa (sz := 1) (j := k) (evAt (congrArg some h0) hat1) (congrArg some h1) Try.underlying32 (by kernel_rfl) rfl (by omega) rfl) ⟨Below.refl _ _, rfl, nofr rfl⟩
        refine ⟨fun wu3 hC hd => ?_, ?_⟩
        · obtain ⟨h2, _⟩ := hd
          skip
          replace h2 : V 2 = (.pointer (some ⟨ab1, (aoff1 + k * 1), none⟩)) := h2
          replace hb := hb.trans (hC.mono hb.size)
          exact Runs.does (r_load (v := (.string s)) (congrArg some h2) Try.underlying9 rfl (cellsAt_cell (cellsAt_below hel1 hb hlb1) (i := 0) rfl rfl)) ⟨Below.refl _ _, rfl, nofr rfl⟩
        refine ⟨fun wu4 hC hd => ?_, ?_⟩
        · clear hd
          replace hb := hb.trans (hC.mono hb.size)
          exact Runs.does (r_move rfl) ⟨Below.refl _ _, rfl, nofr rfl⟩
        refine ⟨fun wu5 hC hd => ?_, ?_⟩
        · clear hd
          replace hb := hb.trans (hC.mono hb.size)
          exact Runs.does (r_move rfl) ⟨Below.refl _ _, rfl, nofr rfl⟩
        refine ⟨fun wu6 hC hd => ?_, ?_⟩
        · obtain ⟨h4, h5, _⟩ := hd
          skip
          skip
          replace h4 : V 4 = (.slice a2 M.length c2) := h4
          replace h5 : V 5 = (.int .i64 ((k : Nat) : Int)) := h5
          replace hb := hb.trans (hC.mono hb.size)
          exact Runs.does (r_ixa (sz := 1) (j := k) (evAt (congrArg some h4) hat2) (congrArg some h5) Try.underlying32 (by kernel_rfl) rfl (by omega) rfl) ⟨Below.refl _ _, rfl, nofr rfl⟩
        refine ⟨fun wu7 hC hd => ?_, ?_⟩
        · obtain ⟨h6, _⟩ := hd
          skip
          replace h6 : V 6 = (.pointer (some ⟨ab2, (aoff2 + k * 1), none⟩)) := h6
          replace hb := hb.trans (hC.mono hb.size)
          exact Runs.does (r_load (v := (.string s)) (congrArg some h6) Try.underlying9 rfl (cellsAt_cell (cellsAt_below hel2 hb hlb2) (i := 0) rfl rfl)) ⟨Below.refl _ _, rfl, nofr rfl⟩
        refine ⟨fun wu8 hC hd => ?_, ?_⟩
        · obtain ⟨h3, h7, _⟩ := hd
          skip
          skip
          replace h3 : V 3 = (.string s) := h3
          replace h7 : V 7 = (.string s) := h7
          replace hb := hb.trans (hC.mono hb.size)
          exact Runs.does (r_sne (congrArg some h3) (congrArg some h7)) ⟨Below.refl _ _, rfl, nofr rfl⟩
        trivial
      · skip
        clear hf fa; intro V w2 fa he1 hp hnb hf
        have hv0 : V 0 = (.slice a M.length c) := postsHold_at hp 0 rfl
        have hv1 : V 1 = (.int .i64 ((k : Nat) : Int)) := postsHold_at hp 1 rfl
        have hv2 : V 2 = (.pointer (some ⟨ab1, (aoff1 + k * 1), none⟩)) := postsHold_at hp 2 rfl
        have hv3 : V 3 = (.string s) := postsHold_at hp 3 rfl
        have hv4 : V 4 = (.slice a2 M.length c2) := postsHold_at hp 4 rfl
        have hv5 : V 5 = (.int .i64 ((k : Nat) : Int)) := postsHold_at hp 5 rfl
        have hv6 : V 6 = (.pointer (some ⟨ab2, (aoff2 + k * 1), none⟩)) := postsHold_at hp 6 rfl
        have hv7 : V 7 = (.string s) := postsHold_at hp 7 rfl
        have hv8 : V 8 = (.bool (decide (s ≠ s))) := postsHold_at hp 8 rfl
        simp only [List.take_succ_cons, List.take_zero, insAll, ins, hv0, hv1, hv2, hv3, hv4, hv5, hv6, hv7, hv8] at hf
        clear hp hnb hv0 hv1 hv2 hv3 hv4 hv5 hv6 hv7 hv8
        replace hb := hb.trans (Below.mono he1 hb.size)
        (try simp only [Exit.then, Exit.inBlock, ↓reduceIte, Nat.reduceEqDiff])
        refine hK9 _ _ ?_
        refine wp_cond_false ((hf.ev rfl).trans (congrArg Value.bool (show (decide (s ≠ s)) = false from (by simp)))) ?_
        refine wp_skip ?_
        (try simp only [Exit.then, Exit.inBlock, ↓reduceIte, Nat.reduceEqDiff])
        refine hK8 _ _ ?_
        refine wp_region_lit ?_
        refine sqv hf (r_move rfl) rfl rfl rfl ?_; clear hf fa; intro fa hf
        refine sqv hf (r_add (C := (((k : Nat) : Int) + (1 : Int))) rfl rfl (by rw [IntKind.wrap_i64]; omega)) rfl rfl rfl ?_; clear hf fa; intro fa hf
        refine sqv hf (r_assign rfl) rfl rfl rfl ?_; clear hf fa; intro fa hf
        apply wpList_nil
        (try simp only [Exit.then, Exit.inBlock, ↓reduceIte, Nat.reduceEqDiff])
        refine hKL1 _ _ _ (by omega) ⟨(k + 1), rfl, hf.sub ⟨rfl, rfl, (some_int (by first | rfl | omega)), trivial⟩, hb, by omega⟩
    · have hqt14_1b := hqt14_1
      replace hqt14_1 := Bool.eq_false_iff.1 hqt14_1
      try simp only [ne_eq, decide_eq_true_eq, Bool.and_eq_true, Bool.or_eq_true, Bool.not_eq_true', decide_eq_false_iff_not] at hqt14_1
      refine wp_exit ?_
      (try simp only [Exit.then, Exit.inBlock, ↓reduceIte, Nat.reduceEqDiff])
      refine hK4 _ _ ?_
      refine wp_seq_k (fun K10 hK10 => ?_)
      refine wp_region_lit ?_
      refine sqv hf (r_assign rfl) rfl rfl rfl ?_; clear hf fa; intro fa hf
      apply wpList_nil
      (try simp only [Exit.then, Exit.inBlock, ↓reduceIte, Nat.reduceEqDiff])
      refine hK10 _ _ ?_
      refine wp_ret ?_
      (try simp only [Exit.then, Exit.inBlock])
      refine ret1 hf rfl rfl ?_
      exact ⟨rfl, hb⟩

theorem outL_len (m : MMd) (h : smallP m = true) : (outL m).length ≤ 151 := by have := (outs_len m (small_out h).1).2.2.2; unfold outL; rw [List.length_append]; simp; omega

set_option maxHeartbeats 1000000 in
set_option maxRecDepth 100000 in
theorem textOutlines_any (m : MMd) (w : World) (g : fMMd w m) : Calls Try.prog 3 #[(.agg #[(.slice m.1.at' m.1.len m.1.cap), (.slice m.2.1.at' m.2.1.len m.2.1.cap), (.slice m.2.2.1.at' m.2.2.1.len m.2.2.1.cap), (.slice m.2.2.2.1.at' m.2.2.2.1.len m.2.2.2.1.cap), (.slice m.2.2.2.2.1.at' m.2.2.2.2.1.len m.2.2.2.2.1.cap), (.slice m.2.2.2.2.2.1.at' m.2.2.2.2.2.1.len m.2.2.2.2.2.1.cap), (.slice m.2.2.2.2.2.2.1.at' m.2.2.2.2.2.2.1.len m.2.2.2.2.2.2.1.cap), (.int .i64 m.2.2.2.2.2.2.2.1), (.slice m.2.2.2.2.2.2.2.2.1.at' m.2.2.2.2.2.2.2.2.1.len m.2.2.2.2.2.2.2.2.1.cap), (.slice m.2.2.2.2.2.2.2.2.2.1.at' m.2.2.2.2.2.2.2.2.2.1.len m.2.2.2.2.2.2.2.2.2.1.cap), (.slice m.2.2.2.2.2.2.2.2.2.2.1.at' m.2.2.2.2.2.2.2.2.2.2.1.len m.2.2.2.2.2.2.2.2.2.2.1.cap), (.bool m.2.2.2.2.2.2.2.2.2.2.2.1.1), (.int .u32 m.2.2.2.2.2.2.2.2.2.2.2.1.2.1), (.int .u32 m.2.2.2.2.2.2.2.2.2.2.2.1.2.2.1), (.int .u32 m.2.2.2.2.2.2.2.2.2.2.2.1.2.2.2.1), (.int .u32 m.2.2.2.2.2.2.2.2.2.2.2.1.2.2.2.2.1), (.slice m.2.2.2.2.2.2.2.2.2.2.2.1.2.2.2.2.2.1.at' m.2.2.2.2.2.2.2.2.2.2.2.1.2.2.2.2.2.1.len m.2.2.2.2.2.2.2.2.2.2.2.1.2.2.2.2.2.1.cap)])] w fun e w' => e = .returned (.bool true) ∧ Below w.heap.size w w' := by
  refine sx_enter (L := [(0, (.agg #[(.slice m.1.at' m.1.len m.1.cap), (.slice m.2.1.at' m.2.1.len m.2.1.cap), (.slice m.2.2.1.at' m.2.2.1.len m.2.2.1.cap), (.slice m.2.2.2.1.at' m.2.2.2.1.len m.2.2.2.1.cap), (.slice m.2.2.2.2.1.at' m.2.2.2.2.1.len m.2.2.2.2.1.cap), (.slice m.2.2.2.2.2.1.at' m.2.2.2.2.2.1.len m.2.2.2.2.2.1.cap), (.slice m.2.2.2.2.2.2.1.at' m.2.2.2.2.2.2.1.len m.2.2.2.2.2.2.1.cap), (.int .i64 m.2.2.2.2.2.2.2.1), (.slice m.2.2.2.2.2.2.2.2.1.at' m.2.2.2.2.2.2.2.2.1.len m.2.2.2.2.2.2.2.2.1.cap), (.slice m.2.2.2.2.2.2.2.2.2.1.at' m.2.2.2.2.2.2.2.2.2.1.len m.2.2.2.2.2.2.2.2.2.1.cap), (.slice m.2.2.2.2.2.2.2.2.2.2.1.at' m.2.2.2.2.2.2.2.2.2.2.1.len m.2.2.2.2.2.2.2.2.2.2.1.cap), (.bool m.2.2.2.2.2.2.2.2.2.2.2.1.1), (.int .u32 m.2.2.2.2.2.2.2.2.2.2.2.1.2.1), (.int .u32 m.2.2.2.2.2.2.2.2.2.2.2.1.2.2.1), (.int .u32 m.2.2.2.2.2.2.2.2.2.2.2.1.2.2.2.1), (.int .u32 m.2.2.2.2.2.2.2.2.2.2.2.1.2.2.2.2.1), (.slice m.2.2.2.2.2.2.2.2.2.2.2.1.2.2.2.2.2.1.at' m.2.2.2.2.2.2.2.2.2.2.2.1.2.2.2.2.2.1.len m.2.2.2.2.2.2.2.2.2.2.2.1.2.2.2.2.2.1.cap)]))]) Try.func3 rfl rfl rfl rfl (fun fa hf => ?_)
  have hb : Below w.heap.size w w := Below.refl _ _
  refine wp_seq_k (fun K1 hK1 => ?_)
  refine wp_region_lit ?_
  refine sqdt hf (d_box (cs := #[(.slice m.1.at' m.1.len m.1.cap), (.slice m.2.1.at' m.2.1.len m.2.1.cap), (.slice m.2.2.1.at' m.2.2.1.len m.2.2.1.cap), (.slice m.2.2.2.1.at' m.2.2.2.1.len m.2.2.2.1.cap), (.slice m.2.2.2.2.1.at' m.2.2.2.2.1.len m.2.2.2.2.1.cap), (.slice m.2.2.2.2.2.1.at' m.2.2.2.2.2.1.len m.2.2.2.2.2.1.cap), (.slice m.2.2.2.2.2.2.1.at' m.2.2.2.2.2.2.1.len m.2.2.2.2.2.2.1.cap), (.int .i64 m.2.2.2.2.2.2.2.1), (.slice m.2.2.2.2.2.2.2.2.1.at' m.2.2.2.2.2.2.2.2.1.len m.2.2.2.2.2.2.2.2.1.cap), (.slice m.2.2.2.2.2.2.2.2.2.1.at' m.2.2.2.2.2.2.2.2.2.1.len m.2.2.2.2.2.2.2.2.2.1.cap), (.slice m.2.2.2.2.2.2.2.2.2.2.1.at' m.2.2.2.2.2.2.2.2.2.2.1.len m.2.2.2.2.2.2.2.2.2.2.1.cap), (.bool m.2.2.2.2.2.2.2.2.2.2.2.1.1), (.int .u32 m.2.2.2.2.2.2.2.2.2.2.2.1.2.1), (.int .u32 m.2.2.2.2.2.2.2.2.2.2.2.1.2.2.1), (.int .u32 m.2.2.2.2.2.2.2.2.2.2.2.1.2.2.2.1), (.int .u32 m.2.2.2.2.2.2.2.2.2.2.2.1.2.2.2.2.1), (.slice m.2.2.2.2.2.2.2.2.2.2.2.1.2.2.2.2.2.1.at' m.2.2.2.2.2.2.2.2.2.2.2.1.2.2.2.2.2.1.len m.2.2.2.2.2.2.2.2.2.2.2.1.2.2.2.2.2.1.cap)]) rfl rfl) rfl rfl rfl ?_; clear hf fa; rintro fa _ w1 ⟨b1, rfl, hle1, hk1, he1⟩ hf
  have hBb1 : w.heap.size ≤ b1 := Nat.le_trans hb.size hle1
  replace hb := hb.trans (Below.mono he1 hb.size)
  refine sqv hf (r_assign rfl) rfl rfl rfl ?_; clear hf fa; intro fa hf
  apply wpList_nil
  (try simp only [Exit.then, Exit.inBlock, ↓reduceIte, Nat.reduceEqDiff])
  refine hK1 _ _ ?_
  refine wp_seq_k (fun K2 hK2 => ?_)
  refine wp_seq_k (fun K3 hK3 => ?_)
  refine wp_region_lit ?_
  refine sqdt hf (d_callB (vs := []) rfl Try.func7 (by kernel_rfl) (by kernel_rfl) (awake46_any _)) rfl rfl rfl ?_; clear hf fa; rintro fa _ w2 ⟨rfl, he2⟩ hf
  replace hk1 := blk_ext hk1 he2
  replace hb := hb.trans (Below.mono he2 hb.size)
  refine sqv hf (Runs.veq (v' := (.bool false)) (r_not rfl) rfl) rfl rfl rfl ?_; clear hf fa; intro fa hf
  apply wpList_nil
  (try simp only [Exit.then, Exit.inBlock, ↓reduceIte, Nat.reduceEqDiff])
  refine hK3 _ _ ?_
  refine wp_cond_false (hf.ev rfl) ?_
  refine wp_skip ?_
  (try simp only [Exit.then, Exit.inBlock, ↓reduceIte, Nat.reduceEqDiff])
  refine hK2 _ _ ?_
  refine wp_seq_k (fun K4 hK4 => ?_)
  by_cases hsp1 : smallP m = true
  · have hsp1b : decide (smallP m = true) = true := decide_eq_true hsp1
    refine wp_region_unT 8 (fun wq => Below w2.heap.size w2 wq) (fun w w' => Below w.heap.size w w')
      (fun V => [(fun x _ => x = (.agg #[(.slice m.1.at' m.1.len m.1.cap), (.slice m.2.1.at' m.2.1.len m.2.1.cap), (.slice m.2.2.1.at' m.2.2.1.len m.2.2.1.cap), (.slice m.2.2.2.1.at' m.2.2.2.1.len m.2.2.2.1.cap), (.slice m.2.2.2.2.1.at' m.2.2.2.2.1.len m.2.2.2.2.1.cap), (.slice m.2.2.2.2.2.1.at' m.2.2.2.2.2.1.len m.2.2.2.2.2.1.cap), (.slice m.2.2.2.2.2.2.1.at' m.2.2.2.2.2.2.1.len m.2.2.2.2.2.2.1.cap), (.int .i64 m.2.2.2.2.2.2.2.1), (.slice m.2.2.2.2.2.2.2.2.1.at' m.2.2.2.2.2.2.2.2.1.len m.2.2.2.2.2.2.2.2.1.cap), (.slice m.2.2.2.2.2.2.2.2.2.1.at' m.2.2.2.2.2.2.2.2.2.1.len m.2.2.2.2.2.2.2.2.2.1.cap), (.slice m.2.2.2.2.2.2.2.2.2.2.1.at' m.2.2.2.2.2.2.2.2.2.2.1.len m.2.2.2.2.2.2.2.2.2.2.1.cap), (.bool m.2.2.2.2.2.2.2.2.2.2.2.1.1), (.int .u32 m.2.2.2.2.2.2.2.2.2.2.2.1.2.1), (.int .u32 m.2.2.2.2.2.2.2.2.2.2.2.1.2.2.1), (.int .u32 m.2.2.2.2.2.2.2.2.2.2.2.1.2.2.2.1), (.int .u32 m.2.2.2.2.2.2.2.2.2.2.2.1.2.2.2.2.1), (.slice m.2.2.2.2.2.2.2.2.2.2.2.1.2.2.2.2.2.1.at' m.2.2.2.2.2.2.2.2.2.2.2.1.2.2.2.2.2.1.len m.2.2.2.2.2.2.2.2.2.2.2.1.2.2.2.2.2.1.cap)])), (fun x _ => x = (.bool (smallP m))), (fun x _ => x = (.bool false)), (fun x _ => x = (.bool false)), (fun x _ => x = (.agg #[(.slice m.1.at' m.1.len m.1.cap), (.slice m.2.1.at' m.2.1.len m.2.1.cap), (.slice m.2.2.1.at' m.2.2.1.len m.2.2.1.cap), (.slice m.2.2.2.1.at' m.2.2.2.1.len m.2.2.2.1.cap), (.slice m.2.2.2.2.1.at' m.2.2.2.2.1.len m.2.2.2.2.1.cap), (.slice m.2.2.2.2.2.1.at' m.2.2.2.2.2.1.len m.2.2.2.2.2.1.cap), (.slice m.2.2.2.2.2.2.1.at' m.2.2.2.2.2.2.1.len m.2.2.2.2.2.2.1.cap), (.int .i64 m.2.2.2.2.2.2.2.1), (.slice m.2.2.2.2.2.2.2.2.1.at' m.2.2.2.2.2.2.2.2.1.len m.2.2.2.2.2.2.2.2.1.cap), (.slice m.2.2.2.2.2.2.2.2.2.1.at' m.2.2.2.2.2.2.2.2.2.1.len m.2.2.2.2.2.2.2.2.2.1.cap), (.slice m.2.2.2.2.2.2.2.2.2.2.1.at' m.2.2.2.2.2.2.2.2.2.2.1.len m.2.2.2.2.2.2.2.2.2.2.1.cap), (.bool m.2.2.2.2.2.2.2.2.2.2.2.1.1), (.int .u32 m.2.2.2.2.2.2.2.2.2.2.2.1.2.1), (.int .u32 m.2.2.2.2.2.2.2.2.2.2.2.1.2.2.1), (.int .u32 m.2.2.2.2.2.2.2.2.2.2.2.1.2.2.2.1), (.int .u32 m.2.2.2.2.2.2.2.2.2.2.2.1.2.2.2.2.1), (.slice m.2.2.2.2.2.2.2.2.2.2.2.1.2.2.2.2.2.1.at' m.2.2.2.2.2.2.2.2.2.2.2.1.2.2.2.2.2.1.len m.2.2.2.2.2.2.2.2.2.2.2.1.2.2.2.2.2.1.cap)])), (fun x wq => ∃ a c, x = .slice a (((outL m)).length) c ∧ Row 1 vStr 9 w2.heap.size wq x (outL m)), (fun x _ => x = (.agg #[(.slice m.1.at' m.1.len m.1.cap), (.slice m.2.1.at' m.2.1.len m.2.1.cap), (.slice m.2.2.1.at' m.2.2.1.len m.2.2.1.cap), (.slice m.2.2.2.1.at' m.2.2.2.1.len m.2.2.2.1.cap), (.slice m.2.2.2.2.1.at' m.2.2.2.2.1.len m.2.2.2.2.1.cap), (.slice m.2.2.2.2.2.1.at' m.2.2.2.2.2.1.len m.2.2.2.2.2.1.cap), (.slice m.2.2.2.2.2.2.1.at' m.2.2.2.2.2.2.1.len m.2.2.2.2.2.2.1.cap), (.int .i64 m.2.2.2.2.2.2.2.1), (.slice m.2.2.2.2.2.2.2.2.1.at' m.2.2.2.2.2.2.2.2.1.len m.2.2.2.2.2.2.2.2.1.cap), (.slice m.2.2.2.2.2.2.2.2.2.1.at' m.2.2.2.2.2.2.2.2.2.1.len m.2.2.2.2.2.2.2.2.2.1.cap), (.slice m.2.2.2.2.2.2.2.2.2.2.1.at' m.2.2.2.2.2.2.2.2.2.2.1.len m.2.2.2.2.2.2.2.2.2.2.1.cap), (.bool m.2.2.2.2.2.2.2.2.2.2.2.1.1), (.int .u32 m.2.2.2.2.2.2.2.2.2.2.2.1.2.1), (.int .u32 m.2.2.2.2.2.2.2.2.2.2.2.1.2.2.1), (.int .u32 m.2.2.2.2.2.2.2.2.2.2.2.1.2.2.2.1), (.int .u32 m.2.2.2.2.2.2.2.2.2.2.2.1.2.2.2.2.1), (.slice m.2.2.2.2.2.2.2.2.2.2.2.1.2.2.2.2.2.1.at' m.2.2.2.2.2.2.2.2.2.2.2.1.2.2.2.2.2.1.len m.2.2.2.2.2.2.2.2.2.2.2.1.2.2.2.2.2.1.cap)])), (fun x wq => ∃ a c, x = .slice a (((outL m)).length) c ∧ Row 1 vStr 9 w2.heap.size wq x (outL m))])
      []
      [[], [0], [1], [1, 2], [3], [3, 4], [3], [3, 5, 6], [], [], []]
      hf (by kernel_rfl) (by kernel_rfl) (by kernel_rfl) (fun _ => rfl) ((Below.refl _ _).drew) (fun a b h1 h2 => h1.trans (h2.mono h1.size)) (fun _ _ h => h.size) (fun V => ⟨kept_eq, kept_eq, kept_eq, kept_eq, kept_eq, keptE, kept_eq, keptE, trivial⟩) (fun _ _ _ _ _ => rfl) ?_ ?_
    · skip
      intro V
      refine ⟨fun wu0 hC hd => ?_, ?_⟩
      · clear hd
        replace hb := hb.trans (hC.mono hb.size)
        replace hk1 := blk_ext hk1 hC
        exact Runs.does (r_loadA (cs := [(.slice m.1.at' m.1.len m.1.cap), (.slice m.2.1.at' m.2.1.len m.2.1.cap), (.slice m.2.2.1.at' m.2.2.1.len m.2.2.1.cap), (.slice m.2.2.2.1.at' m.2.2.2.1.len m.2.2.2.1.cap), (.slice m.2.2.2.2.1.at' m.2.2.2.2.1.len m.2.2.2.2.1.cap), (.slice m.2.2.2.2.2.1.at' m.2.2.2.2.2.1.len m.2.2.2.2.2.1.cap), (.slice m.2.2.2.2.2.2.1.at' m.2.2.2.2.2.2.1.len m.2.2.2.2.2.2.1.cap), (.int .i64 m.2.2.2.2.2.2.2.1), (.slice m.2.2.2.2.2.2.2.2.1.at' m.2.2.2.2.2.2.2.2.1.len m.2.2.2.2.2.2.2.2.1.cap), (.slice m.2.2.2.2.2.2.2.2.2.1.at' m.2.2.2.2.2.2.2.2.2.1.len m.2.2.2.2.2.2.2.2.2.1.cap), (.slice m.2.2.2.2.2.2.2.2.2.2.1.at' m.2.2.2.2.2.2.2.2.2.2.1.len m.2.2.2.2.2.2.2.2.2.2.1.cap), (.bool m.2.2.2.2.2.2.2.2.2.2.2.1.1), (.int .u32 m.2.2.2.2.2.2.2.2.2.2.2.1.2.1), (.int .u32 m.2.2.2.2.2.2.2.2.2.2.2.1.2.2.1), (.int .u32 m.2.2.2.2.2.2.2.2.2.2.2.1.2.2.2.1), (.int .u32 m.2.2.2.2.2.2.2.2.2.2.2.1.2.2.2.2.1), (.slice m.2.2.2.2.2.2.2.2.2.2.2.1.2.2.2.2.2.1.at' m.2.2.2.2.2.2.2.2.2.2.2.1.2.2.2.2.2.1.len m.2.2.2.2.2.2.2.2.2.2.2.1.2.2.2.2.2.1.cap)]) rfl Try.underlying36 rfl (by kernel_rfl) (cellsAt_blk hk1)) ⟨Below.refl _ _, rfl, nofr rfl⟩
      refine ⟨fun wu1 hC hd => ?_, ?_⟩
      · obtain ⟨h0, _⟩ := hd
        skip
        replace h0 : V 0 = (.agg #[(.slice m.1.at' m.1.len m.1.cap), (.slice m.2.1.at' m.2.1.len m.2.1.cap), (.slice m.2.2.1.at' m.2.2.1.len m.2.2.1.cap), (.slice m.2.2.2.1.at' m.2.2.2.1.len m.2.2.2.1.cap), (.slice m.2.2.2.2.1.at' m.2.2.2.2.1.len m.2.2.2.2.1.cap), (.slice m.2.2.2.2.2.1.at' m.2.2.2.2.2.1.len m.2.2.2.2.2.1.cap), (.slice m.2.2.2.2.2.2.1.at' m.2.2.2.2.2.2.1.len m.2.2.2.2.2.2.1.cap), (.int .i64 m.2.2.2.2.2.2.2.1), (.slice m.2.2.2.2.2.2.2.2.1.at' m.2.2.2.2.2.2.2.2.1.len m.2.2.2.2.2.2.2.2.1.cap), (.slice m.2.2.2.2.2.2.2.2.2.1.at' m.2.2.2.2.2.2.2.2.2.1.len m.2.2.2.2.2.2.2.2.2.1.cap), (.slice m.2.2.2.2.2.2.2.2.2.2.1.at' m.2.2.2.2.2.2.2.2.2.2.1.len m.2.2.2.2.2.2.2.2.2.2.1.cap), (.bool m.2.2.2.2.2.2.2.2.2.2.2.1.1), (.int .u32 m.2.2.2.2.2.2.2.2.2.2.2.1.2.1), (.int .u32 m.2.2.2.2.2.2.2.2.2.2.2.1.2.2.1), (.int .u32 m.2.2.2.2.2.2.2.2.2.2.2.1.2.2.2.1), (.int .u32 m.2.2.2.2.2.2.2.2.2.2.2.1.2.2.2.2.1), (.slice m.2.2.2.2.2.2.2.2.2.2.2.1.2.2.2.2.2.1.at' m.2.2.2.2.2.2.2.2.2.2.2.1.2.2.2.2.2.1.len m.2.2.2.2.2.2.2.2.2.2.2.1.2.2.2.2.2.1.cap)]) := h0
        replace hb := hb.trans (hC.mono hb.size)
        replace hk1 := blk_ext hk1 hC
        refine Does.mono (d_callB (vs := [(.agg #[(.slice m.1.at' m.1.len m.1.cap), (.slice m.2.1.at' m.2.1.len m.2.1.cap), (.slice m.2.2.1.at' m.2.2.1.len m.2.2.1.cap), (.slice m.2.2.2.1.at' m.2.2.2.1.len m.2.2.2.1.cap), (.slice m.2.2.2.2.1.at' m.2.2.2.2.1.len m.2.2.2.2.1.cap), (.slice m.2.2.2.2.2.1.at' m.2.2.2.2.2.1.len m.2.2.2.2.2.1.cap), (.slice m.2.2.2.2.2.2.1.at' m.2.2.2.2.2.2.1.len m.2.2.2.2.2.2.1.cap), (.int .i64 m.2.2.2.2.2.2.2.1), (.slice m.2.2.2.2.2.2.2.2.1.at' m.2.2.2.2.2.2.2.2.1.len m.2.2.2.2.2.2.2.2.1.cap), (.slice m.2.2.2.2.2.2.2.2.2.1.at' m.2.2.2.2.2.2.2.2.2.1.len m.2.2.2.2.2.2.2.2.2.1.cap), (.slice m.2.2.2.2.2.2.2.2.2.2.1.at' m.2.2.2.2.2.2.2.2.2.2.1.len m.2.2.2.2.2.2.2.2.2.2.1.cap), (.bool m.2.2.2.2.2.2.2.2.2.2.2.1.1), (.int .u32 m.2.2.2.2.2.2.2.2.2.2.2.1.2.1), (.int .u32 m.2.2.2.2.2.2.2.2.2.2.2.1.2.2.1), (.int .u32 m.2.2.2.2.2.2.2.2.2.2.2.1.2.2.2.1), (.int .u32 m.2.2.2.2.2.2.2.2.2.2.2.1.2.2.2.2.1), (.slice m.2.2.2.2.2.2.2.2.2.2.2.1.2.2.2.2.2.1.at' m.2.2.2.2.2.2.2.2.2.2.2.1.2.2.2.2.2.1.len m.2.2.2.2.2.2.2.2.2.2.2.1.2.2.2.2.2.1.cap)])]) (show [some (V 0)] = [some (.agg #[(.slice m.1.at' m.1.len m.1.cap), (.slice m.2.1.at' m.2.1.len m.2.1.cap), (.slice m.2.2.1.at' m.2.2.1.len m.2.2.1.cap), (.slice m.2.2.2.1.at' m.2.2.2.1.len m.2.2.2.1.cap), (.slice m.2.2.2.2.1.at' m.2.2.2.2.1.len m.2.2.2.2.1.cap), (.slice m.2.2.2.2.2.1.at' m.2.2.2.2.2.1.len m.2.2.2.2.2.1.cap), (.slice m.2.2.2.2.2.2.1.at' m.2.2.2.2.2.2.1.len m.2.2.2.2.2.2.1.cap), (.int .i64 m.2.2.2.2.2.2.2.1), (.slice m.2.2.2.2.2.2.2.2.1.at' m.2.2.2.2.2.2.2.2.1.len m.2.2.2.2.2.2.2.2.1.cap), (.slice m.2.2.2.2.2.2.2.2.2.1.at' m.2.2.2.2.2.2.2.2.2.1.len m.2.2.2.2.2.2.2.2.2.1.cap), (.slice m.2.2.2.2.2.2.2.2.2.2.1.at' m.2.2.2.2.2.2.2.2.2.2.1.len m.2.2.2.2.2.2.2.2.2.2.1.cap), (.bool m.2.2.2.2.2.2.2.2.2.2.2.1.1), (.int .u32 m.2.2.2.2.2.2.2.2.2.2.2.1.2.1), (.int .u32 m.2.2.2.2.2.2.2.2.2.2.2.1.2.2.1), (.int .u32 m.2.2.2.2.2.2.2.2.2.2.2.1.2.2.2.1), (.int .u32 m.2.2.2.2.2.2.2.2.2.2.2.1.2.2.2.2.1), (.slice m.2.2.2.2.2.2.2.2.2.2.2.1.2.2.2.2.2.1.at' m.2.2.2.2.2.2.2.2.2.2.2.1.2.2.2.2.2.1.len m.2.2.2.2.2.2.2.2.2.2.2.1.2.2.2.2.2.1.cap)])] from by rw [h0]) Try.func8 (by kernel_rfl) (by kernel_rfl) (small_any m _ (rdMMd.kept _ _ _ hb g))) (fun _ _ h => ⟨h.2, h.1, nofr rfl⟩)
      refine ⟨fun wu2 hC hd => ?_, ?_⟩
      · obtain ⟨h1, _⟩ := hd
        skip
        replace h1 : V 1 = (.bool (smallP m)) := h1
        replace hb := hb.trans (hC.mono hb.size)
        replace hk1 := blk_ext hk1 hC
        exact Runs.does (Runs.veq (r_not (congrArg some h1)) (congrArg Value.bool (show _ = false from (by simp [hsp1])))) ⟨Below.refl _ _, rfl, nofr rfl⟩
      refine ⟨fun wu3 hC hd => ?_, ?_⟩
      · obtain ⟨h1, h2, _⟩ := hd
        skip
        skip
        replace h1 : V 1 = (.bool (smallP m)) := h1
        replace h2 : V 2 = (.bool false) := h2
        replace hb := hb.trans (hC.mono hb.size)
        replace hk1 := blk_ext hk1 hC
        exact Runs.does (r_move (congrArg some h2)) ⟨Below.refl _ _, rfl, nofr rfl⟩
      refine ⟨fun wu4 hC hd => ?_, ?_⟩
      · obtain ⟨h3, _⟩ := hd
        skip
        replace h3 : V 3 = (.bool false) := h3
        replace hb := hb.trans (hC.mono hb.size)
        replace hk1 := blk_ext hk1 hC
        refine ⟨true, false, congrArg some h3, fun hact => ?_, fun hact => ?_⟩
        · exact Runs.does (r_loadA (cs := [(.slice m.1.at' m.1.len m.1.cap), (.slice m.2.1.at' m.2.1.len m.2.1.cap), (.slice m.2.2.1.at' m.2.2.1.len m.2.2.1.cap), (.slice m.2.2.2.1.at' m.2.2.2.1.len m.2.2.2.1.cap), (.slice m.2.2.2.2.1.at' m.2.2.2.2.1.len m.2.2.2.2.1.cap), (.slice m.2.2.2.2.2.1.at' m.2.2.2.2.2.1.len m.2.2.2.2.2.1.cap), (.slice m.2.2.2.2.2.2.1.at' m.2.2.2.2.2.2.1.len m.2.2.2.2.2.2.1.cap), (.int .i64 m.2.2.2.2.2.2.2.1), (.slice m.2.2.2.2.2.2.2.2.1.at' m.2.2.2.2.2.2.2.2.1.len m.2.2.2.2.2.2.2.2.1.cap), (.slice m.2.2.2.2.2.2.2.2.2.1.at' m.2.2.2.2.2.2.2.2.2.1.len m.2.2.2.2.2.2.2.2.2.1.cap), (.slice m.2.2.2.2.2.2.2.2.2.2.1.at' m.2.2.2.2.2.2.2.2.2.2.1.len m.2.2.2.2.2.2.2.2.2.2.1.cap), (.bool m.2.2.2.2.2.2.2.2.2.2.2.1.1), (.int .u32 m.2.2.2.2.2.2.2.2.2.2.2.1.2.1), (.int .u32 m.2.2.2.2.2.2.2.2.2.2.2.1.2.2.1), (.int .u32 m.2.2.2.2.2.2.2.2.2.2.2.1.2.2.2.1), (.int .u32 m.2.2.2.2.2.2.2.2.2.2.2.1.2.2.2.2.1), (.slice m.2.2.2.2.2.2.2.2.2.2.2.1.2.2.2.2.2.1.at' m.2.2.2.2.2.2.2.2.2.2.2.1.2.2.2.2.2.1.len m.2.2.2.2.2.2.2.2.2.2.2.1.2.2.2.2.2.1.cap)]) rfl Try.underlying36 rfl (by kernel_rfl) (cellsAt_blk hk1)) ⟨Below.refl _ _, rfl, nofr rfl⟩
        · exfalso; simp at hact
      refine ⟨fun wu5 hC hd => ?_, ?_⟩
      · obtain ⟨h3, h4, _⟩ := hd
        skip
        skip
        replace h3 : V 3 = (.bool false) := h3
        replace h4 : V 4 = (.agg #[(.slice m.1.at' m.1.len m.1.cap), (.slice m.2.1.at' m.2.1.len m.2.1.cap), (.slice m.2.2.1.at' m.2.2.1.len m.2.2.1.cap), (.slice m.2.2.2.1.at' m.2.2.2.1.len m.2.2.2.1.cap), (.slice m.2.2.2.2.1.at' m.2.2.2.2.1.len m.2.2.2.2.1.cap), (.slice m.2.2.2.2.2.1.at' m.2.2.2.2.2.1.len m.2.2.2.2.2.1.cap), (.slice m.2.2.2.2.2.2.1.at' m.2.2.2.2.2.2.1.len m.2.2.2.2.2.2.1.cap), (.int .i64 m.2.2.2.2.2.2.2.1), (.slice m.2.2.2.2.2.2.2.2.1.at' m.2.2.2.2.2.2.2.2.1.len m.2.2.2.2.2.2.2.2.1.cap), (.slice m.2.2.2.2.2.2.2.2.2.1.at' m.2.2.2.2.2.2.2.2.2.1.len m.2.2.2.2.2.2.2.2.2.1.cap), (.slice m.2.2.2.2.2.2.2.2.2.2.1.at' m.2.2.2.2.2.2.2.2.2.2.1.len m.2.2.2.2.2.2.2.2.2.2.1.cap), (.bool m.2.2.2.2.2.2.2.2.2.2.2.1.1), (.int .u32 m.2.2.2.2.2.2.2.2.2.2.2.1.2.1), (.int .u32 m.2.2.2.2.2.2.2.2.2.2.2.1.2.2.1), (.int .u32 m.2.2.2.2.2.2.2.2.2.2.2.1.2.2.2.1), (.int .u32 m.2.2.2.2.2.2.2.2.2.2.2.1.2.2.2.2.1), (.slice m.2.2.2.2.2.2.2.2.2.2.2.1.2.2.2.2.2.1.at' m.2.2.2.2.2.2.2.2.2.2.2.1.2.2.2.2.2.1.len m.2.2.2.2.2.2.2.2.2.2.2.1.2.2.2.2.2.1.cap)]) := h4
        replace hb := hb.trans (hC.mono hb.size)
        replace hk1 := blk_ext hk1 hC
        refine ⟨true, false, congrArg some h3, fun hact => ?_, fun hact => ?_⟩
        · refine Does.mono (d_callX (vs := [(.agg #[(.slice m.1.at' m.1.len m.1.cap), (.slice m.2.1.at' m.2.1.len m.2.1.cap), (.slice m.2.2.1.at' m.2.2.1.len m.2.2.1.cap), (.slice m.2.2.2.1.at' m.2.2.2.1.len m.2.2.2.1.cap), (.slice m.2.2.2.2.1.at' m.2.2.2.2.1.len m.2.2.2.2.1.cap), (.slice m.2.2.2.2.2.1.at' m.2.2.2.2.2.1.len m.2.2.2.2.2.1.cap), (.slice m.2.2.2.2.2.2.1.at' m.2.2.2.2.2.2.1.len m.2.2.2.2.2.2.1.cap), (.int .i64 m.2.2.2.2.2.2.2.1), (.slice m.2.2.2.2.2.2.2.2.1.at' m.2.2.2.2.2.2.2.2.1.len m.2.2.2.2.2.2.2.2.1.cap), (.slice m.2.2.2.2.2.2.2.2.2.1.at' m.2.2.2.2.2.2.2.2.2.1.len m.2.2.2.2.2.2.2.2.2.1.cap), (.slice m.2.2.2.2.2.2.2.2.2.2.1.at' m.2.2.2.2.2.2.2.2.2.2.1.len m.2.2.2.2.2.2.2.2.2.2.1.cap), (.bool m.2.2.2.2.2.2.2.2.2.2.2.1.1), (.int .u32 m.2.2.2.2.2.2.2.2.2.2.2.1.2.1), (.int .u32 m.2.2.2.2.2.2.2.2.2.2.2.1.2.2.1), (.int .u32 m.2.2.2.2.2.2.2.2.2.2.2.1.2.2.2.1), (.int .u32 m.2.2.2.2.2.2.2.2.2.2.2.1.2.2.2.2.1), (.slice m.2.2.2.2.2.2.2.2.2.2.2.1.2.2.2.2.2.1.at' m.2.2.2.2.2.2.2.2.2.2.2.1.2.2.2.2.2.1.len m.2.2.2.2.2.2.2.2.2.2.2.1.2.2.2.2.2.1.cap)])]) (show [some (V 4)] = [some (.agg #[(.slice m.1.at' m.1.len m.1.cap), (.slice m.2.1.at' m.2.1.len m.2.1.cap), (.slice m.2.2.1.at' m.2.2.1.len m.2.2.1.cap), (.slice m.2.2.2.1.at' m.2.2.2.1.len m.2.2.2.1.cap), (.slice m.2.2.2.2.1.at' m.2.2.2.2.1.len m.2.2.2.2.1.cap), (.slice m.2.2.2.2.2.1.at' m.2.2.2.2.2.1.len m.2.2.2.2.2.1.cap), (.slice m.2.2.2.2.2.2.1.at' m.2.2.2.2.2.2.1.len m.2.2.2.2.2.2.1.cap), (.int .i64 m.2.2.2.2.2.2.2.1), (.slice m.2.2.2.2.2.2.2.2.1.at' m.2.2.2.2.2.2.2.2.1.len m.2.2.2.2.2.2.2.2.1.cap), (.slice m.2.2.2.2.2.2.2.2.2.1.at' m.2.2.2.2.2.2.2.2.2.1.len m.2.2.2.2.2.2.2.2.2.1.cap), (.slice m.2.2.2.2.2.2.2.2.2.2.1.at' m.2.2.2.2.2.2.2.2.2.2.1.len m.2.2.2.2.2.2.2.2.2.2.1.cap), (.bool m.2.2.2.2.2.2.2.2.2.2.2.1.1), (.int .u32 m.2.2.2.2.2.2.2.2.2.2.2.1.2.1), (.int .u32 m.2.2.2.2.2.2.2.2.2.2.2.1.2.2.1), (.int .u32 m.2.2.2.2.2.2.2.2.2.2.2.1.2.2.2.1), (.int .u32 m.2.2.2.2.2.2.2.2.2.2.2.1.2.2.2.2.1), (.slice m.2.2.2.2.2.2.2.2.2.2.2.1.2.2.2.2.2.1.at' m.2.2.2.2.2.2.2.2.2.2.2.1.2.2.2.2.2.1.len m.2.2.2.2.2.2.2.2.2.2.2.1.2.2.2.2.2.1.cap)])] from by rw [h4]) Try.func10 (by kernel_rfl) (by kernel_rfl) (outline_any m _ (rdMMd.kept _ _ _ hb g) hsp1)) ?_
          rintro _ w' ⟨hF2, hF3⟩
          obtain ⟨ra, rc, rfl, _, _⟩ := Row.slice hF2
          exact ⟨hF3, ⟨ra, rc, rfl, hF2.rebase hC.size⟩, nofr rfl⟩
        · exfalso; simp at hact
      refine ⟨fun wu6 hC hd => ?_, ?_⟩
      · obtain ⟨h3, _⟩ := hd
        skip
        replace h3 : V 3 = (.bool false) := h3
        replace hb := hb.trans (hC.mono hb.size)
        replace hk1 := blk_ext hk1 hC
        refine ⟨true, false, congrArg some h3, fun hact => ?_, fun hact => ?_⟩
        · exact Runs.does (r_loadA (cs := [(.slice m.1.at' m.1.len m.1.cap), (.slice m.2.1.at' m.2.1.len m.2.1.cap), (.slice m.2.2.1.at' m.2.2.1.len m.2.2.1.cap), (.slice m.2.2.2.1.at' m.2.2.2.1.len m.2.2.2.1.cap), (.slice m.2.2.2.2.1.at' m.2.2.2.2.1.len m.2.2.2.2.1.cap), (.slice m.2.2.2.2.2.1.at' m.2.2.2.2.2.1.len m.2.2.2.2.2.1.cap), (.slice m.2.2.2.2.2.2.1.at' m.2.2.2.2.2.2.1.len m.2.2.2.2.2.2.1.cap), (.int .i64 m.2.2.2.2.2.2.2.1), (.slice m.2.2.2.2.2.2.2.2.1.at' m.2.2.2.2.2.2.2.2.1.len m.2.2.2.2.2.2.2.2.1.cap), (.slice m.2.2.2.2.2.2.2.2.2.1.at' m.2.2.2.2.2.2.2.2.2.1.len m.2.2.2.2.2.2.2.2.2.1.cap), (.slice m.2.2.2.2.2.2.2.2.2.2.1.at' m.2.2.2.2.2.2.2.2.2.2.1.len m.2.2.2.2.2.2.2.2.2.2.1.cap), (.bool m.2.2.2.2.2.2.2.2.2.2.2.1.1), (.int .u32 m.2.2.2.2.2.2.2.2.2.2.2.1.2.1), (.int .u32 m.2.2.2.2.2.2.2.2.2.2.2.1.2.2.1), (.int .u32 m.2.2.2.2.2.2.2.2.2.2.2.1.2.2.2.1), (.int .u32 m.2.2.2.2.2.2.2.2.2.2.2.1.2.2.2.2.1), (.slice m.2.2.2.2.2.2.2.2.2.2.2.1.2.2.2.2.2.1.at' m.2.2.2.2.2.2.2.2.2.2.2.1.2.2.2.2.2.1.len m.2.2.2.2.2.2.2.2.2.2.2.1.2.2.2.2.2.1.cap)]) rfl Try.underlying36 rfl (by kernel_rfl) (cellsAt_blk hk1)) ⟨Below.refl _ _, rfl, nofr rfl⟩
        · exfalso; simp at hact
      refine ⟨fun wu7 hC hd => ?_, ?_⟩
      · obtain ⟨h3, h5, h6, _⟩ := hd
        skip
        skip
        skip
        replace h3 : V 3 = (.bool false) := h3
        obtain ⟨ea1, ec1, h5, hr1⟩ := h5
        rw [h5] at hr1
        replace h6 : V 6 = (.agg #[(.slice m.1.at' m.1.len m.1.cap), (.slice m.2.1.at' m.2.1.len m.2.1.cap), (.slice m.2.2.1.at' m.2.2.1.len m.2.2.1.cap), (.slice m.2.2.2.1.at' m.2.2.2.1.len m.2.2.2.1.cap), (.slice m.2.2.2.2.1.at' m.2.2.2.2.1.len m.2.2.2.2.1.cap), (.slice m.2.2.2.2.2.1.at' m.2.2.2.2.2.1.len m.2.2.2.2.2.1.cap), (.slice m.2.2.2.2.2.2.1.at' m.2.2.2.2.2.2.1.len m.2.2.2.2.2.2.1.cap), (.int .i64 m.2.2.2.2.2.2.2.1), (.slice m.2.2.2.2.2.2.2.2.1.at' m.2.2.2.2.2.2.2.2.1.len m.2.2.2.2.2.2.2.2.1.cap), (.slice m.2.2.2.2.2.2.2.2.2.1.at' m.2.2.2.2.2.2.2.2.2.1.len m.2.2.2.2.2.2.2.2.2.1.cap), (.slice m.2.2.2.2.2.2.2.2.2.2.1.at' m.2.2.2.2.2.2.2.2.2.2.1.len m.2.2.2.2.2.2.2.2.2.2.1.cap), (.bool m.2.2.2.2.2.2.2.2.2.2.2.1.1), (.int .u32 m.2.2.2.2.2.2.2.2.2.2.2.1.2.1), (.int .u32 m.2.2.2.2.2.2.2.2.2.2.2.1.2.2.1), (.int .u32 m.2.2.2.2.2.2.2.2.2.2.2.1.2.2.2.1), (.int .u32 m.2.2.2.2.2.2.2.2.2.2.2.1.2.2.2.2.1), (.slice m.2.2.2.2.2.2.2.2.2.2.2.1.2.2.2.2.2.1.at' m.2.2.2.2.2.2.2.2.2.2.2.1.2.2.2.2.2.1.len m.2.2.2.2.2.2.2.2.2.2.2.1.2.2.2.2.2.1.cap)]) := h6
        replace hb := hb.trans (hC.mono hb.size)
        replace hk1 := blk_ext hk1 hC
        refine ⟨true, false, congrArg some h3, fun hact => ?_, fun hact => ?_⟩
        · refine Does.mono (d_callX (vs := [(.agg #[(.slice m.1.at' m.1.len m.1.cap), (.slice m.2.1.at' m.2.1.len m.2.1.cap), (.slice m.2.2.1.at' m.2.2.1.len m.2.2.1.cap), (.slice m.2.2.2.1.at' m.2.2.2.1.len m.2.2.2.1.cap), (.slice m.2.2.2.2.1.at' m.2.2.2.2.1.len m.2.2.2.2.1.cap), (.slice m.2.2.2.2.2.1.at' m.2.2.2.2.2.1.len m.2.2.2.2.2.1.cap), (.slice m.2.2.2.2.2.2.1.at' m.2.2.2.2.2.2.1.len m.2.2.2.2.2.2.1.cap), (.int .i64 m.2.2.2.2.2.2.2.1), (.slice m.2.2.2.2.2.2.2.2.1.at' m.2.2.2.2.2.2.2.2.1.len m.2.2.2.2.2.2.2.2.1.cap), (.slice m.2.2.2.2.2.2.2.2.2.1.at' m.2.2.2.2.2.2.2.2.2.1.len m.2.2.2.2.2.2.2.2.2.1.cap), (.slice m.2.2.2.2.2.2.2.2.2.2.1.at' m.2.2.2.2.2.2.2.2.2.2.1.len m.2.2.2.2.2.2.2.2.2.2.1.cap), (.bool m.2.2.2.2.2.2.2.2.2.2.2.1.1), (.int .u32 m.2.2.2.2.2.2.2.2.2.2.2.1.2.1), (.int .u32 m.2.2.2.2.2.2.2.2.2.2.2.1.2.2.1), (.int .u32 m.2.2.2.2.2.2.2.2.2.2.2.1.2.2.2.1), (.int .u32 m.2.2.2.2.2.2.2.2.2.2.2.1.2.2.2.2.1), (.slice m.2.2.2.2.2.2.2.2.2.2.2.1.2.2.2.2.2.1.at' m.2.2.2.2.2.2.2.2.2.2.2.1.2.2.2.2.2.1.len m.2.2.2.2.2.2.2.2.2.2.2.1.2.2.2.2.2.1.cap)])]) (show [some (V 6)] = [some (.agg #[(.slice m.1.at' m.1.len m.1.cap), (.slice m.2.1.at' m.2.1.len m.2.1.cap), (.slice m.2.2.1.at' m.2.2.1.len m.2.2.1.cap), (.slice m.2.2.2.1.at' m.2.2.2.1.len m.2.2.2.1.cap), (.slice m.2.2.2.2.1.at' m.2.2.2.2.1.len m.2.2.2.2.1.cap), (.slice m.2.2.2.2.2.1.at' m.2.2.2.2.2.1.len m.2.2.2.2.2.1.cap), (.slice m.2.2.2.2.2.2.1.at' m.2.2.2.2.2.2.1.len m.2.2.2.2.2.2.1.cap), (.int .i64 m.2.2.2.2.2.2.2.1), (.slice m.2.2.2.2.2.2.2.2.1.at' m.2.2.2.2.2.2.2.2.1.len m.2.2.2.2.2.2.2.2.1.cap), (.slice m.2.2.2.2.2.2.2.2.2.1.at' m.2.2.2.2.2.2.2.2.2.1.len m.2.2.2.2.2.2.2.2.2.1.cap), (.slice m.2.2.2.2.2.2.2.2.2.2.1.at' m.2.2.2.2.2.2.2.2.2.2.1.len m.2.2.2.2.2.2.2.2.2.2.1.cap), (.bool m.2.2.2.2.2.2.2.2.2.2.2.1.1), (.int .u32 m.2.2.2.2.2.2.2.2.2.2.2.1.2.1), (.int .u32 m.2.2.2.2.2.2.2.2.2.2.2.1.2.2.1), (.int .u32 m.2.2.2.2.2.2.2.2.2.2.2.1.2.2.2.1), (.int .u32 m.2.2.2.2.2.2.2.2.2.2.2.1.2.2.2.2.1), (.slice m.2.2.2.2.2.2.2.2.2.2.2.1.2.2.2.2.2.1.at' m.2.2.2.2.2.2.2.2.2.2.2.1.2.2.2.2.2.1.len m.2.2.2.2.2.2.2.2.2.2.2.1.2.2.2.2.2.1.cap)])] from by rw [h6]) Try.func11 (by kernel_rfl) (by kernel_rfl) (routline_any m _ (rdMMd.kept _ _ _ hb g) hsp1)) ?_
          rintro _ w' ⟨hF2, hF3⟩
          obtain ⟨ra, rc, rfl, _, _⟩ := Row.slice hF2
          exact ⟨hF3, ⟨ra, rc, rfl, hF2.rebase hC.size⟩, nofr rfl⟩
        · exfalso; simp at hact
      trivial
    · skip
      clear hf fa; intro V w3 fa he3 hp hnb hf
      have hv0 : V 0 = (.agg #[(.slice m.1.at' m.1.len m.1.cap), (.slice m.2.1.at' m.2.1.len m.2.1.cap), (.slice m.2.2.1.at' m.2.2.1.len m.2.2.1.cap), (.slice m.2.2.2.1.at' m.2.2.2.1.len m.2.2.2.1.cap), (.slice m.2.2.2.2.1.at' m.2.2.2.2.1.len m.2.2.2.2.1.cap), (.slice m.2.2.2.2.2.1.at' m.2.2.2.2.2.1.len m.2.2.2.2.2.1.cap), (.slice m.2.2.2.2.2.2.1.at' m.2.2.2.2.2.2.1.len m.2.2.2.2.2.2.1.cap), (.int .i64 m.2.2.2.2.2.2.2.1), (.slice m.2.2.2.2.2.2.2.2.1.at' m.2.2.2.2.2.2.2.2.1.len m.2.2.2.2.2.2.2.2.1.cap), (.slice m.2.2.2.2.2.2.2.2.2.1.at' m.2.2.2.2.2.2.2.2.2.1.len m.2.2.2.2.2.2.2.2.2.1.cap), (.slice m.2.2.2.2.2.2.2.2.2.2.1.at' m.2.2.2.2.2.2.2.2.2.2.1.len m.2.2.2.2.2.2.2.2.2.2.1.cap), (.bool m.2.2.2.2.2.2.2.2.2.2.2.1.1), (.int .u32 m.2.2.2.2.2.2.2.2.2.2.2.1.2.1), (.int .u32 m.2.2.2.2.2.2.2.2.2.2.2.1.2.2.1), (.int .u32 m.2.2.2.2.2.2.2.2.2.2.2.1.2.2.2.1), (.int .u32 m.2.2.2.2.2.2.2.2.2.2.2.1.2.2.2.2.1), (.slice m.2.2.2.2.2.2.2.2.2.2.2.1.2.2.2.2.2.1.at' m.2.2.2.2.2.2.2.2.2.2.2.1.2.2.2.2.2.1.len m.2.2.2.2.2.2.2.2.2.2.2.1.2.2.2.2.2.1.cap)]) := postsHold_at hp 0 rfl
      have hv1 : V 1 = (.bool (smallP m)) := postsHold_at hp 1 rfl
      have hv2 : V 2 = (.bool false) := postsHold_at hp 2 rfl
      have hv3 : V 3 = (.bool false) := postsHold_at hp 3 rfl
      have hv4 : V 4 = (.agg #[(.slice m.1.at' m.1.len m.1.cap), (.slice m.2.1.at' m.2.1.len m.2.1.cap), (.slice m.2.2.1.at' m.2.2.1.len m.2.2.1.cap), (.slice m.2.2.2.1.at' m.2.2.2.1.len m.2.2.2.1.cap), (.slice m.2.2.2.2.1.at' m.2.2.2.2.1.len m.2.2.2.2.1.cap), (.slice m.2.2.2.2.2.1.at' m.2.2.2.2.2.1.len m.2.2.2.2.2.1.cap), (.slice m.2.2.2.2.2.2.1.at' m.2.2.2.2.2.2.1.len m.2.2.2.2.2.2.1.cap), (.int .i64 m.2.2.2.2.2.2.2.1), (.slice m.2.2.2.2.2.2.2.2.1.at' m.2.2.2.2.2.2.2.2.1.len m.2.2.2.2.2.2.2.2.1.cap), (.slice m.2.2.2.2.2.2.2.2.2.1.at' m.2.2.2.2.2.2.2.2.2.1.len m.2.2.2.2.2.2.2.2.2.1.cap), (.slice m.2.2.2.2.2.2.2.2.2.2.1.at' m.2.2.2.2.2.2.2.2.2.2.1.len m.2.2.2.2.2.2.2.2.2.2.1.cap), (.bool m.2.2.2.2.2.2.2.2.2.2.2.1.1), (.int .u32 m.2.2.2.2.2.2.2.2.2.2.2.1.2.1), (.int .u32 m.2.2.2.2.2.2.2.2.2.2.2.1.2.2.1), (.int .u32 m.2.2.2.2.2.2.2.2.2.2.2.1.2.2.2.1), (.int .u32 m.2.2.2.2.2.2.2.2.2.2.2.1.2.2.2.2.1), (.slice m.2.2.2.2.2.2.2.2.2.2.2.1.2.2.2.2.2.1.at' m.2.2.2.2.2.2.2.2.2.2.2.1.2.2.2.2.2.1.len m.2.2.2.2.2.2.2.2.2.2.2.1.2.2.2.2.2.1.cap)]) := postsHold_at hp 4 rfl
      have hv5 := postsHold_at hp 5 rfl
      obtain ⟨ea1, ec1, hv5, hr1⟩ := hv5
      rw [hv5] at hr1
      have hv6 : V 6 = (.agg #[(.slice m.1.at' m.1.len m.1.cap), (.slice m.2.1.at' m.2.1.len m.2.1.cap), (.slice m.2.2.1.at' m.2.2.1.len m.2.2.1.cap), (.slice m.2.2.2.1.at' m.2.2.2.1.len m.2.2.2.1.cap), (.slice m.2.2.2.2.1.at' m.2.2.2.2.1.len m.2.2.2.2.1.cap), (.slice m.2.2.2.2.2.1.at' m.2.2.2.2.2.1.len m.2.2.2.2.2.1.cap), (.slice m.2.2.2.2.2.2.1.at' m.2.2.2.2.2.2.1.len m.2.2.2.2.2.2.1.cap), (.int .i64 m.2.2.2.2.2.2.2.1), (.slice m.2.2.2.2.2.2.2.2.1.at' m.2.2.2.2.2.2.2.2.1.len m.2.2.2.2.2.2.2.2.1.cap), (.slice m.2.2.2.2.2.2.2.2.2.1.at' m.2.2.2.2.2.2.2.2.2.1.len m.2.2.2.2.2.2.2.2.2.1.cap), (.slice m.2.2.2.2.2.2.2.2.2.2.1.at' m.2.2.2.2.2.2.2.2.2.2.1.len m.2.2.2.2.2.2.2.2.2.2.1.cap), (.bool m.2.2.2.2.2.2.2.2.2.2.2.1.1), (.int .u32 m.2.2.2.2.2.2.2.2.2.2.2.1.2.1), (.int .u32 m.2.2.2.2.2.2.2.2.2.2.2.1.2.2.1), (.int .u32 m.2.2.2.2.2.2.2.2.2.2.2.1.2.2.2.1), (.int .u32 m.2.2.2.2.2.2.2.2.2.2.2.1.2.2.2.2.1), (.slice m.2.2.2.2.2.2.2.2.2.2.2.1.2.2.2.2.2.1.at' m.2.2.2.2.2.2.2.2.2.2.2.1.2.2.2.2.2.1.len m.2.2.2.2.2.2.2.2.2.2.2.1.2.2.2.2.2.1.cap)]) := postsHold_at hp 6 rfl
      have hv7 := postsHold_at hp 7 rfl
      obtain ⟨ea2, ec2, hv7, hr2⟩ := hv7
      rw [hv7] at hr2
      simp only [List.take_succ_cons, List.take_zero, insAll, ins, hv0, hv1, hv2, hv3, hv4, hv5, hv6, hv7] at hf
      clear hp hnb hv0 hv1 hv2 hv3 hv4 hv5 hv6 hv7
      replace hk1 := blk_ext hk1 he3
      replace hb := hb.trans (Below.mono he3 hb.size)
      simp only [List.drop_succ_cons, List.drop_zero]
      refine sqgd (act := true) (g := 3) (want := false) (ag := true) (c := false) hf (by rfl) (by rfl) rfl (fun _ =>  (d_callB (vs := [(.slice ea1 (((outL m)).length) ec1), (.slice ea2 (((outL m)).length) ec2)]) rfl Try.func9 (by kernel_rfl) (by kernel_rfl) (sames_any ea1 ea2 ec1 ec2 (outL m) _ (Row.rd (by intros; rfl) hr1) (Row.rd (by intros; rfl) hr2) (by have := outL_len m hsp1; omega) (by have := Row.caps hr1; omega) (by have := Row.caps hr2; omega))) ) (fun h => by cases h) rfl ?_; clear hf fa; rintro fa _ w4 ⟨rfl, he4⟩ hf
      replace hk1 := blk_ext hk1 he4
      replace hr1 := Row.ext hr1 he4
      replace hr2 := Row.ext hr2 he4
      replace hb := hb.trans (Below.mono he4 hb.size)
      change Fr _ _ ((13, (.bool true)) :: _) at hf
      refine sqv hf (r_pick (b := false) rfl rfl rfl rfl) rfl rfl rfl ?_; clear hf fa; intro fa hf
      refine sqv hf (r_assign rfl) rfl rfl rfl ?_; clear hf fa; intro fa hf
      apply wpList_nil
      (try simp only [Exit.then, Exit.inBlock, ↓reduceIte, Nat.reduceEqDiff])
      refine hK4 _ _ ?_
      refine wp_ret ?_
      (try simp only [Exit.then, Exit.inBlock])
      refine ret1 hf rfl rfl ?_
      exact ⟨rfl, hb⟩
  · have hsp1b : decide (smallP m = true) = false := decide_eq_false hsp1
    refine wp_region_unT 8 (fun wq => Below w2.heap.size w2 wq) (fun w w' => Below w.heap.size w w')
      (fun V => [(fun x _ => x = (.agg #[(.slice m.1.at' m.1.len m.1.cap), (.slice m.2.1.at' m.2.1.len m.2.1.cap), (.slice m.2.2.1.at' m.2.2.1.len m.2.2.1.cap), (.slice m.2.2.2.1.at' m.2.2.2.1.len m.2.2.2.1.cap), (.slice m.2.2.2.2.1.at' m.2.2.2.2.1.len m.2.2.2.2.1.cap), (.slice m.2.2.2.2.2.1.at' m.2.2.2.2.2.1.len m.2.2.2.2.2.1.cap), (.slice m.2.2.2.2.2.2.1.at' m.2.2.2.2.2.2.1.len m.2.2.2.2.2.2.1.cap), (.int .i64 m.2.2.2.2.2.2.2.1), (.slice m.2.2.2.2.2.2.2.2.1.at' m.2.2.2.2.2.2.2.2.1.len m.2.2.2.2.2.2.2.2.1.cap), (.slice m.2.2.2.2.2.2.2.2.2.1.at' m.2.2.2.2.2.2.2.2.2.1.len m.2.2.2.2.2.2.2.2.2.1.cap), (.slice m.2.2.2.2.2.2.2.2.2.2.1.at' m.2.2.2.2.2.2.2.2.2.2.1.len m.2.2.2.2.2.2.2.2.2.2.1.cap), (.bool m.2.2.2.2.2.2.2.2.2.2.2.1.1), (.int .u32 m.2.2.2.2.2.2.2.2.2.2.2.1.2.1), (.int .u32 m.2.2.2.2.2.2.2.2.2.2.2.1.2.2.1), (.int .u32 m.2.2.2.2.2.2.2.2.2.2.2.1.2.2.2.1), (.int .u32 m.2.2.2.2.2.2.2.2.2.2.2.1.2.2.2.2.1), (.slice m.2.2.2.2.2.2.2.2.2.2.2.1.2.2.2.2.2.1.at' m.2.2.2.2.2.2.2.2.2.2.2.1.2.2.2.2.2.1.len m.2.2.2.2.2.2.2.2.2.2.2.1.2.2.2.2.2.1.cap)])), (fun x _ => x = (.bool (smallP m))), (fun x _ => x = (.bool true)), (fun x _ => x = (.bool true)), (fun x _ => x = gb false (.bool false)), (fun x _ => x = gb false (.bool false)), (fun x _ => x = gb false (.bool false)), (fun x _ => x = gb false (.bool false))])
      []
      [[], [0], [1], [1, 2], [3], [3, 4], [3], [3, 5, 6], [], [], []]
      hf (by kernel_rfl) (by kernel_rfl) (by kernel_rfl) (fun _ => rfl) ((Below.refl _ _).drew) (fun a b h1 h2 => h1.trans (h2.mono h1.size)) (fun _ _ h => h.size) (fun V => ⟨kept_eq, kept_eq, kept_eq, kept_eq, kept_eq, kept_eq, kept_eq, kept_eq, trivial⟩) (fun _ _ _ _ _ => rfl) ?_ ?_
    · skip
      intro V
      refine ⟨fun wu0 hC hd => ?_, ?_⟩
      · clear hd
        replace hb := hb.trans (hC.mono hb.size)
        replace hk1 := blk_ext hk1 hC
        exact Runs.does (r_loadA (cs := [(.slice m.1.at' m.1.len m.1.cap), (.slice m.2.1.at' m.2.1.len m.2.1.cap), (.slice m.2.2.1.at' m.2.2.1.len m.2.2.1.cap), (.slice m.2.2.2.1.at' m.2.2.2.1.len m.2.2.2.1.cap), (.slice m.2.2.2.2.1.at' m.2.2.2.2.1.len m.2.2.2.2.1.cap), (.slice m.2.2.2.2.2.1.at' m.2.2.2.2.2.1.len m.2.2.2.2.2.1.cap), (.slice m.2.2.2.2.2.2.1.at' m.2.2.2.2.2.2.1.len m.2.2.2.2.2.2.1.cap), (.int .i64 m.2.2.2.2.2.2.2.1), (.slice m.2.2.2.2.2.2.2.2.1.at' m.2.2.2.2.2.2.2.2.1.len m.2.2.2.2.2.2.2.2.1.cap), (.slice m.2.2.2.2.2.2.2.2.2.1.at' m.2.2.2.2.2.2.2.2.2.1.len m.2.2.2.2.2.2.2.2.2.1.cap), (.slice m.2.2.2.2.2.2.2.2.2.2.1.at' m.2.2.2.2.2.2.2.2.2.2.1.len m.2.2.2.2.2.2.2.2.2.2.1.cap), (.bool m.2.2.2.2.2.2.2.2.2.2.2.1.1), (.int .u32 m.2.2.2.2.2.2.2.2.2.2.2.1.2.1), (.int .u32 m.2.2.2.2.2.2.2.2.2.2.2.1.2.2.1), (.int .u32 m.2.2.2.2.2.2.2.2.2.2.2.1.2.2.2.1), (.int .u32 m.2.2.2.2.2.2.2.2.2.2.2.1.2.2.2.2.1), (.slice m.2.2.2.2.2.2.2.2.2.2.2.1.2.2.2.2.2.1.at' m.2.2.2.2.2.2.2.2.2.2.2.1.2.2.2.2.2.1.len m.2.2.2.2.2.2.2.2.2.2.2.1.2.2.2.2.2.1.cap)]) rfl Try.underlying36 rfl (by kernel_rfl) (cellsAt_blk hk1)) ⟨Below.refl _ _, rfl, nofr rfl⟩
      refine ⟨fun wu1 hC hd => ?_, ?_⟩
      · obtain ⟨h0, _⟩ := hd
        skip
        replace h0 : V 0 = (.agg #[(.slice m.1.at' m.1.len m.1.cap), (.slice m.2.1.at' m.2.1.len m.2.1.cap), (.slice m.2.2.1.at' m.2.2.1.len m.2.2.1.cap), (.slice m.2.2.2.1.at' m.2.2.2.1.len m.2.2.2.1.cap), (.slice m.2.2.2.2.1.at' m.2.2.2.2.1.len m.2.2.2.2.1.cap), (.slice m.2.2.2.2.2.1.at' m.2.2.2.2.2.1.len m.2.2.2.2.2.1.cap), (.slice m.2.2.2.2.2.2.1.at' m.2.2.2.2.2.2.1.len m.2.2.2.2.2.2.1.cap), (.int .i64 m.2.2.2.2.2.2.2.1), (.slice m.2.2.2.2.2.2.2.2.1.at' m.2.2.2.2.2.2.2.2.1.len m.2.2.2.2.2.2.2.2.1.cap), (.slice m.2.2.2.2.2.2.2.2.2.1.at' m.2.2.2.2.2.2.2.2.2.1.len m.2.2.2.2.2.2.2.2.2.1.cap), (.slice m.2.2.2.2.2.2.2.2.2.2.1.at' m.2.2.2.2.2.2.2.2.2.2.1.len m.2.2.2.2.2.2.2.2.2.2.1.cap), (.bool m.2.2.2.2.2.2.2.2.2.2.2.1.1), (.int .u32 m.2.2.2.2.2.2.2.2.2.2.2.1.2.1), (.int .u32 m.2.2.2.2.2.2.2.2.2.2.2.1.2.2.1), (.int .u32 m.2.2.2.2.2.2.2.2.2.2.2.1.2.2.2.1), (.int .u32 m.2.2.2.2.2.2.2.2.2.2.2.1.2.2.2.2.1), (.slice m.2.2.2.2.2.2.2.2.2.2.2.1.2.2.2.2.2.1.at' m.2.2.2.2.2.2.2.2.2.2.2.1.2.2.2.2.2.1.len m.2.2.2.2.2.2.2.2.2.2.2.1.2.2.2.2.2.1.cap)]) := h0
        replace hb := hb.trans (hC.mono hb.size)
        replace hk1 := blk_ext hk1 hC
        refine Does.mono (d_callB (vs := [(.agg #[(.slice m.1.at' m.1.len m.1.cap), (.slice m.2.1.at' m.2.1.len m.2.1.cap), (.slice m.2.2.1.at' m.2.2.1.len m.2.2.1.cap), (.slice m.2.2.2.1.at' m.2.2.2.1.len m.2.2.2.1.cap), (.slice m.2.2.2.2.1.at' m.2.2.2.2.1.len m.2.2.2.2.1.cap), (.slice m.2.2.2.2.2.1.at' m.2.2.2.2.2.1.len m.2.2.2.2.2.1.cap), (.slice m.2.2.2.2.2.2.1.at' m.2.2.2.2.2.2.1.len m.2.2.2.2.2.2.1.cap), (.int .i64 m.2.2.2.2.2.2.2.1), (.slice m.2.2.2.2.2.2.2.2.1.at' m.2.2.2.2.2.2.2.2.1.len m.2.2.2.2.2.2.2.2.1.cap), (.slice m.2.2.2.2.2.2.2.2.2.1.at' m.2.2.2.2.2.2.2.2.2.1.len m.2.2.2.2.2.2.2.2.2.1.cap), (.slice m.2.2.2.2.2.2.2.2.2.2.1.at' m.2.2.2.2.2.2.2.2.2.2.1.len m.2.2.2.2.2.2.2.2.2.2.1.cap), (.bool m.2.2.2.2.2.2.2.2.2.2.2.1.1), (.int .u32 m.2.2.2.2.2.2.2.2.2.2.2.1.2.1), (.int .u32 m.2.2.2.2.2.2.2.2.2.2.2.1.2.2.1), (.int .u32 m.2.2.2.2.2.2.2.2.2.2.2.1.2.2.2.1), (.int .u32 m.2.2.2.2.2.2.2.2.2.2.2.1.2.2.2.2.1), (.slice m.2.2.2.2.2.2.2.2.2.2.2.1.2.2.2.2.2.1.at' m.2.2.2.2.2.2.2.2.2.2.2.1.2.2.2.2.2.1.len m.2.2.2.2.2.2.2.2.2.2.2.1.2.2.2.2.2.1.cap)])]) (show [some (V 0)] = [some (.agg #[(.slice m.1.at' m.1.len m.1.cap), (.slice m.2.1.at' m.2.1.len m.2.1.cap), (.slice m.2.2.1.at' m.2.2.1.len m.2.2.1.cap), (.slice m.2.2.2.1.at' m.2.2.2.1.len m.2.2.2.1.cap), (.slice m.2.2.2.2.1.at' m.2.2.2.2.1.len m.2.2.2.2.1.cap), (.slice m.2.2.2.2.2.1.at' m.2.2.2.2.2.1.len m.2.2.2.2.2.1.cap), (.slice m.2.2.2.2.2.2.1.at' m.2.2.2.2.2.2.1.len m.2.2.2.2.2.2.1.cap), (.int .i64 m.2.2.2.2.2.2.2.1), (.slice m.2.2.2.2.2.2.2.2.1.at' m.2.2.2.2.2.2.2.2.1.len m.2.2.2.2.2.2.2.2.1.cap), (.slice m.2.2.2.2.2.2.2.2.2.1.at' m.2.2.2.2.2.2.2.2.2.1.len m.2.2.2.2.2.2.2.2.2.1.cap), (.slice m.2.2.2.2.2.2.2.2.2.2.1.at' m.2.2.2.2.2.2.2.2.2.2.1.len m.2.2.2.2.2.2.2.2.2.2.1.cap), (.bool m.2.2.2.2.2.2.2.2.2.2.2.1.1), (.int .u32 m.2.2.2.2.2.2.2.2.2.2.2.1.2.1), (.int .u32 m.2.2.2.2.2.2.2.2.2.2.2.1.2.2.1), (.int .u32 m.2.2.2.2.2.2.2.2.2.2.2.1.2.2.2.1), (.int .u32 m.2.2.2.2.2.2.2.2.2.2.2.1.2.2.2.2.1), (.slice m.2.2.2.2.2.2.2.2.2.2.2.1.2.2.2.2.2.1.at' m.2.2.2.2.2.2.2.2.2.2.2.1.2.2.2.2.2.1.len m.2.2.2.2.2.2.2.2.2.2.2.1.2.2.2.2.2.1.cap)])] from by rw [h0]) Try.func8 (by kernel_rfl) (by kernel_rfl) (small_any m _ (rdMMd.kept _ _ _ hb g))) (fun _ _ h => ⟨h.2, h.1, nofr rfl⟩)
      refine ⟨fun wu2 hC hd => ?_, ?_⟩
      · obtain ⟨h1, _⟩ := hd
        skip
        replace h1 : V 1 = (.bool (smallP m)) := h1
        replace hb := hb.trans (hC.mono hb.size)
        replace hk1 := blk_ext hk1 hC
        exact Runs.does (Runs.veq (r_not (congrArg some h1)) (congrArg Value.bool (show _ = true from (by simp [hsp1])))) ⟨Below.refl _ _, rfl, nofr rfl⟩
      refine ⟨fun wu3 hC hd => ?_, ?_⟩
      · obtain ⟨h1, h2, _⟩ := hd
        skip
        skip
        replace h1 : V 1 = (.bool (smallP m)) := h1
        replace h2 : V 2 = (.bool true) := h2
        replace hb := hb.trans (hC.mono hb.size)
        replace hk1 := blk_ext hk1 hC
        exact Runs.does (r_move (congrArg some h2)) ⟨Below.refl _ _, rfl, nofr rfl⟩
      refine ⟨fun wu4 hC hd => ?_, ?_⟩
      · obtain ⟨h3, _⟩ := hd
        skip
        replace h3 : V 3 = (.bool true) := h3
        replace hb := hb.trans (hC.mono hb.size)
        replace hk1 := blk_ext hk1 hC
        refine ⟨true, true, congrArg some h3, fun hact => ?_, fun hact => ?_⟩
        · exfalso; simp at hact
        · exact ⟨Below.refl _ _, rfl, nofr rfl⟩
      refine ⟨fun wu5 hC hd => ?_, ?_⟩
      · obtain ⟨h3, h4, _⟩ := hd
        skip
        skip
        replace h3 : V 3 = (.bool true) := h3
        replace h4 : V 4 = gb false (.bool false) := h4
        replace hb := hb.trans (hC.mono hb.size)
        replace hk1 := blk_ext hk1 hC
        refine ⟨true, true, congrArg some h3, fun hact => ?_, fun hact => ?_⟩
        · exfalso; simp at hact
        · exact ⟨Below.refl _ _, rfl, nofr rfl⟩
      refine ⟨fun wu6 hC hd => ?_, ?_⟩
      · obtain ⟨h3, _⟩ := hd
        skip
        replace h3 : V 3 = (.bool true) := h3
        replace hb := hb.trans (hC.mono hb.size)
        replace hk1 := blk_ext hk1 hC
        refine ⟨true, true, congrArg some h3, fun hact => ?_, fun hact => ?_⟩
        · exfalso; simp at hact
        · exact ⟨Below.refl _ _, rfl, nofr rfl⟩
      refine ⟨fun wu7 hC hd => ?_, ?_⟩
      · obtain ⟨h3, h5, h6, _⟩ := hd
        skip
        skip
        skip
        replace h3 : V 3 = (.bool true) := h3
        replace h5 : V 5 = gb false (.bool false) := h5
        replace h6 : V 6 = gb false (.bool false) := h6
        replace hb := hb.trans (hC.mono hb.size)
        replace hk1 := blk_ext hk1 hC
        refine ⟨true, true, congrArg some h3, fun hact => ?_, fun hact => ?_⟩
        · exfalso; simp at hact
        · exact ⟨Below.refl _ _, rfl, nofr rfl⟩
      trivial
    · skip
      clear hf fa; intro V w5 fa he5 hp hnb hf
      have hv0 : V 0 = (.agg #[(.slice m.1.at' m.1.len m.1.cap), (.slice m.2.1.at' m.2.1.len m.2.1.cap), (.slice m.2.2.1.at' m.2.2.1.len m.2.2.1.cap), (.slice m.2.2.2.1.at' m.2.2.2.1.len m.2.2.2.1.cap), (.slice m.2.2.2.2.1.at' m.2.2.2.2.1.len m.2.2.2.2.1.cap), (.slice m.2.2.2.2.2.1.at' m.2.2.2.2.2.1.len m.2.2.2.2.2.1.cap), (.slice m.2.2.2.2.2.2.1.at' m.2.2.2.2.2.2.1.len m.2.2.2.2.2.2.1.cap), (.int .i64 m.2.2.2.2.2.2.2.1), (.slice m.2.2.2.2.2.2.2.2.1.at' m.2.2.2.2.2.2.2.2.1.len m.2.2.2.2.2.2.2.2.1.cap), (.slice m.2.2.2.2.2.2.2.2.2.1.at' m.2.2.2.2.2.2.2.2.2.1.len m.2.2.2.2.2.2.2.2.2.1.cap), (.slice m.2.2.2.2.2.2.2.2.2.2.1.at' m.2.2.2.2.2.2.2.2.2.2.1.len m.2.2.2.2.2.2.2.2.2.2.1.cap), (.bool m.2.2.2.2.2.2.2.2.2.2.2.1.1), (.int .u32 m.2.2.2.2.2.2.2.2.2.2.2.1.2.1), (.int .u32 m.2.2.2.2.2.2.2.2.2.2.2.1.2.2.1), (.int .u32 m.2.2.2.2.2.2.2.2.2.2.2.1.2.2.2.1), (.int .u32 m.2.2.2.2.2.2.2.2.2.2.2.1.2.2.2.2.1), (.slice m.2.2.2.2.2.2.2.2.2.2.2.1.2.2.2.2.2.1.at' m.2.2.2.2.2.2.2.2.2.2.2.1.2.2.2.2.2.1.len m.2.2.2.2.2.2.2.2.2.2.2.1.2.2.2.2.2.1.cap)]) := postsHold_at hp 0 rfl
      have hv1 : V 1 = (.bool (smallP m)) := postsHold_at hp 1 rfl
      have hv2 : V 2 = (.bool true) := postsHold_at hp 2 rfl
      have hv3 : V 3 = (.bool true) := postsHold_at hp 3 rfl
      have hv4 : V 4 = gb false (.bool false) := postsHold_at hp 4 rfl
      have hv5 : V 5 = gb false (.bool false) := postsHold_at hp 5 rfl
      have hv6 : V 6 = gb false (.bool false) := postsHold_at hp 6 rfl
      have hv7 : V 7 = gb false (.bool false) := postsHold_at hp 7 rfl
      simp only [List.take_succ_cons, List.take_zero, insAll, ins, hv0, hv1, hv2, hv3, hv4, hv5, hv6, hv7] at hf
      clear hp hnb hv0 hv1 hv2 hv3 hv4 hv5 hv6 hv7
      replace hk1 := blk_ext hk1 he5
      replace hb := hb.trans (Below.mono he5 hb.size)
      simp only [List.drop_succ_cons, List.drop_zero]
      refine sqgF (act := false) (ag := true) (c := true) (v := .bool false) hf rfl rfl rfl (fun hact => by cases hact) rfl rfl ?_; clear hf fa; intro fa hf
      refine sqv hf (r_pick (b := true) rfl rfl rfl rfl) rfl rfl rfl ?_; clear hf fa; intro fa hf
      refine sqv hf (r_assign rfl) rfl rfl rfl ?_; clear hf fa; intro fa hf
      apply wpList_nil
      (try simp only [Exit.then, Exit.inBlock, ↓reduceIte, Nat.reduceEqDiff])
      refine hK4 _ _ ?_
      refine wp_ret ?_
      (try simp only [Exit.then, Exit.inBlock])
      refine ret1 hf rfl rfl ?_
      exact ⟨rfl, hb⟩
end Go.Proofs.Ytpalmpfkliepfaa

namespace Go.Proofs.Ytpalmpfkliepfaa.textOutlines
open Go.ChangeShapes Go.WideShapes Go.ChangeAt Go.RowKit
open Go.ChangeMaps (open_string shut_string)
set_option linter.unusedVariables false
set_option linter.unusedSimpArgs false

theorem own : ownKnob Try.prog.godebug = none := by kernel_rfl
theorem laidOut : laidOutB Try.prog = true := by kernel_rfl
theorem walk (m : MMd) (W : World) (g : fMMd W m) : Calls Try.prog 3 #[(.agg #[(.slice m.1.at' m.1.len m.1.cap), (.slice m.2.1.at' m.2.1.len m.2.1.cap), (.slice m.2.2.1.at' m.2.2.1.len m.2.2.1.cap), (.slice m.2.2.2.1.at' m.2.2.2.1.len m.2.2.2.1.cap), (.slice m.2.2.2.2.1.at' m.2.2.2.2.1.len m.2.2.2.2.1.cap), (.slice m.2.2.2.2.2.1.at' m.2.2.2.2.2.1.len m.2.2.2.2.2.1.cap), (.slice m.2.2.2.2.2.2.1.at' m.2.2.2.2.2.2.1.len m.2.2.2.2.2.2.1.cap), (.int .i64 m.2.2.2.2.2.2.2.1), (.slice m.2.2.2.2.2.2.2.2.1.at' m.2.2.2.2.2.2.2.2.1.len m.2.2.2.2.2.2.2.2.1.cap), (.slice m.2.2.2.2.2.2.2.2.2.1.at' m.2.2.2.2.2.2.2.2.2.1.len m.2.2.2.2.2.2.2.2.2.1.cap), (.slice m.2.2.2.2.2.2.2.2.2.2.1.at' m.2.2.2.2.2.2.2.2.2.2.1.len m.2.2.2.2.2.2.2.2.2.2.1.cap), (.bool m.2.2.2.2.2.2.2.2.2.2.2.1.1), (.int .u32 m.2.2.2.2.2.2.2.2.2.2.2.1.2.1), (.int .u32 m.2.2.2.2.2.2.2.2.2.2.2.1.2.2.1), (.int .u32 m.2.2.2.2.2.2.2.2.2.2.2.1.2.2.2.1), (.int .u32 m.2.2.2.2.2.2.2.2.2.2.2.1.2.2.2.2.1), (.slice m.2.2.2.2.2.2.2.2.2.2.2.1.2.2.2.2.2.1.at' m.2.2.2.2.2.2.2.2.2.2.2.1.2.2.2.2.2.1.len m.2.2.2.2.2.2.2.2.2.2.2.1.2.2.2.2.2.1.cap)])] W fun e w' => e = .returned (.bool true) ∧ Below W.heap.size W w' := textOutlines_any m W g

set_option maxRecDepth 100000 in
theorem lifted (os : Os) (started : os.Started) (H : Type) (enc : TypeId × Value → H) :
    ReturnsInHanded {} Try.checked os 3 .any (Rows.textOutlinesSpec.pre6 enc Try.prog Try.f3 Rows.textOutlinesRow.domain false) (Rows.textOutlinesSpec.post enc Try.prog Try.f3 false true false false) := by
  refine returnsInHanded_of_change_sized (C := Try.checked) own started (by kernel_rfl) Try.func3
    (ChangeSpec.witness6 (enc := enc) (C := Try.checked) false ⟨#[], #[.agg #[(.slice none 0 0), (.slice none 0 0), (.slice none 0 0), (.slice none 0 0), (.slice none 0 0), (.slice none 0 0), (.slice none 0 0), (.int .i64 (0 : Int)), (.slice none 0 0), (.slice none 0 0), (.slice none 0 0), (.bool false), (.int .u32 (0 : Int)), (.int .u32 (0 : Int)), (.int .u32 (0 : Int)), (.int .u32 (0 : Int)), (.slice none 0 0)]], []⟩ 8 (by kernel_rfl) (by kernel_rfl) (by kernel_rfl) (by kernel_rfl)) ?_
  intro W base args ds gs before hval0 hW hcnd hsz _
  have hval : ∀ (j : Nat) t v, Try.f3.params[j]? = some t → args[j]? = some v → Value.okWide Try.prog W .any base t v := hval0
  have hW' := hW
  obtain ⟨p, q, hA0, hV, rfl, hfz, hnd⟩ := hW
  have hA : DataW.TrodAll enc Try.prog W 0 (fun _ => true) true Try.f3.params.toList args.toList ds p := hA0
  rw [Try.params3] at hA hval
  obtain ⟨v0, vs0, x0, ds0, p0, q0, hargs, rfl, rfl, h0, r0⟩ := trodAll_cons hA
  obtain ⟨rfl, rfl, rfl⟩ := trodAll_nil r0
  obtain rfl : args = #[v0] := by cases args; simp_all
  obtain ⟨rfl, rfl⟩ := trodVars_none hV
  have k0 := h0
  have lt0 : ∀ x ∈ p0, x.block < W.heap.size := by obtain ⟨m, hm⟩ := k0; exact DataW.trod_lt m _ _ _ hm
  obtain ⟨cs0, rfl, _, _⟩ : ∃ cs, v0 = .agg cs ∧ cs.size = Try.prog.cellsOf 36 ∧ Row.okWide Try.prog W .any base 36 cs := by
    have := hval 0 36 v0 rfl rfl
    simpa [Value.okWide, Try.underlying36] using this
  obtain ⟨d0, e0, g0⟩ := (rdMMd).arg h0 (weights_at hsz (j := 0) (t := 36) (by kernel_rfl) rfl)
  replace e0 : cs0 = (_ : List Value).toArray := Array.ext' (by simpa [Value.cells] using e0)
  subst e0
  clear hA0 hval0
  refine (walk d0 W g0).mono fun e W' ⟨he, bel⟩ => ?_
  subst he
  exact ⟨_, rfl, _, _, _, [], _, [], hW', trodAll_mk1 (shut_bool Try.underlying4 _), (trodAll_cons_mk (Below.trod laidOut (by kernel_rfl) (of_decide_eq_true (by kernel_rfl)) k0 bel lt0) trodAll_mk0), rfl, bel.frame _, fun h => by cases h⟩

theorem over : Rows.textOutlinesRow.holds Try.pinned (OpenSpec.ofChange Rows.textOutlinesSpec) :=
  OpenClaim.holds_of_wide 3 Try.f3 rfl rfl rfl rfl rfl rfl rfl ⟨rfl, rfl, rfl, rfl, rfl⟩ rfl rfl rfl rfl rfl (by kernel_rfl) Try.func3 (by kernel_rfl)
    (of_decide_eq_true (by kernel_rfl)) (by unfold Func.isWrapper; first | (rw [if_pos (by decide +kernel)]; kernel_rfl) | (rw [if_neg (by decide +kernel)]; exact ⟨rfl, rfl⟩))
    (fun os started H enc _ => lifted os started H enc)

/-- The statement. -/
theorem proved : Rows.TextOutlinesSaid := over
#print axioms proved
end Go.Proofs.Ytpalmpfkliepfaa.textOutlines
