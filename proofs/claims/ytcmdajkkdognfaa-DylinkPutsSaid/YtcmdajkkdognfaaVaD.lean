/- What is proved here: what abort.Value comes to where nothing is given up. -/
import Derived.Test.YtcmdajkkdognfaaSxR
import Derived.Test.YtcmdajkkdognfaaMtN
namespace Go.Proofs.Ytcmdajkkdognfaa
open Go.RowKit
set_option linter.unusedVariables false
set_option linter.unusedSimpArgs false
set_option maxHeartbeats 1000000 in
set_option maxRecDepth 100000 in
theorem in_dyl (tb vb bs TS : Nat) (k : FuncId) (caps c2 : Array Value) (has : Bool) (d1 d2 d3 d4 : Int) (l : List ByteArray) (w : World) (hltv : vb < w.heap.size) (h1b : bs < tb) (h2b : tb < vb) (h0 : w.heap[tb]? = some (.cells #[.func (.func k) #[] caps] 136 (0, 0))) (h1 : w.heap[vb]? = some (.cells #[(.bool false), (.int .u32 (0 : Int)), (.int .u32 (0 : Int)), (.int .u32 (0 : Int)), (.int .u32 (0 : Int)), (.slice none 0 0)] 37 (0, 0))) (hin : Enters Try.prog k) (hc : Calls Try.prog k caps w fun e w2 => ∃ (va : Option Addr) (vc : Nat), e = .returned (.agg #[(.bool has), (.int .u32 d1), (.int .u32 d2), (.int .u32 d3), (.int .u32 d4), (.slice va l.length vc)]) ∧ Row 1 vStr 9 w.heap.size w2 (.slice va l.length vc) l ∧ Wrote w bs c2 TS w2) : Calls Try.prog 135 #[(.pointer (some ⟨tb, 0, none⟩)), (.pointer (some ⟨vb, 0, none⟩))] w fun e w' => e = .returned (.tuple #[]) ∧ ∃ (va : Option Addr) (vc : Nat), w'.heap[vb]? = some (.cells #[(.bool has), (.int .u32 d1), (.int .u32 d2), (.int .u32 d3), (.int .u32 d4), (.slice va l.length vc)] 37 (0, 0)) ∧ w'.heap[bs]? = some (.cells c2 TS (0, 0)) ∧ Row 1 vStr 9 w.heap.size w' (.slice va l.length vc) l ∧ KS [vb, bs] w.heap.size w w' := by
  refine sx_enter (L := [(0, (.pointer (some ⟨tb, 0, none⟩))), (1, (.pointer (some ⟨vb, 0, none⟩)))]) Try.func135 rfl rfl rfl rfl (fun fa hf => ?_)
  have hb : KS [vb, bs] w.heap.size w w := KS.refl _ _ _
  refine wp_region_lit ?_
  refine sqv hf (r_load (v := (.func (.func k) #[] caps)) rfl Try.underlying136 rfl (cell_blk h0 rfl)) rfl rfl rfl ?_; clear hf fa; intro fa hf
  refine sqdt hf (d_callF (vs := []) (ags := caps) rfl rfl (by simp) hin (hc.mono (fun e w' h => (by obtain ⟨va, vc, h0, h⟩ := h; exact ⟨_, h0, va, vc, rfl, h⟩ : ∃ u, e = .returned u ∧ ∃ (va : Option Addr) (vc : Nat), u = (.agg #[(.bool has), (.int .u32 d1), (.int .u32 d2), (.int .u32 d3), (.int .u32 d4), (.slice va l.length vc)]) ∧ Row 1 vStr 9 w.heap.size w' (.slice va l.length vc) l ∧ Wrote w bs c2 TS w')))) rfl rfl rfl ?_; clear hf fa; rintro fa _ w1 ⟨va, vc, rfl, hr1, hk1, hg1⟩ hf
  replace h0 := blk_grown h0 hg1 (by omega)
  replace h1 := blk_grown h1 hg1 (by omega)
  replace hb := hb.wrote hg1 hb.size (.inl (by simp only [List.mem_cons, eq_self, true_or, or_true]))
  refine sqn hf (d_storeK (T := 37) (v := (.agg #[(.bool has), (.int .u32 d1), (.int .u32 d2), (.int .u32 d3), (.int .u32 d4), (.slice va l.length vc)])) (cs := #[(.bool false), (.int .u32 (0 : Int)), (.int .u32 (0 : Int)), (.int .u32 (0 : Int)), (.int .u32 (0 : Int)), (.slice none 0 0)]) (cs' := #[(.bool has), (.int .u32 d1), (.int .u32 d2), (.int .u32 d3), (.int .u32 d4), (.slice va l.length vc)]) rfl rfl (by kernel_rfl) (by kernel_rfl) h1 (by kernel_rfl) (by kernel_rfl)) rfl rfl ?_; clear hf fa; rintro fa _ w2 ⟨hk2, hg2⟩ hf
  replace h0 := blk_grown h0 hg2 (by omega)
  replace hk1 := blk_grown hk1 hg2 (by omega)
  replace hr1 := Row.grown hr1 hg2 (Row.ne_type hr1 h1 rfl)
  replace hb := hb.wrote hg2 hb.size (.inl (by simp only [List.mem_cons, eq_self, true_or, or_true]))
  apply wpList_nil
  (try simp only [Exit.then, Exit.inBlock])
  refine end0 hf rfl ?_
  exact ⟨rfl, va, vc, hk2, hk1, hr1, hb⟩

set_option maxHeartbeats 1000000 in
set_option maxRecDepth 100000 in
theorem val_dyl (bs TS : Nat) (k : FuncId) (caps c2 : Array Value) (has : Bool) (d1 d2 d3 d4 : Int) (l : List ByteArray) (w : World) (hbs : bs < w.heap.size) (hin : Enters Try.prog k) (hc : ∀ w1, Below w.heap.size w w1 → Calls Try.prog k caps w1 fun e w2 => ∃ (va : Option Addr) (vc : Nat), e = .returned (.agg #[(.bool has), (.int .u32 d1), (.int .u32 d2), (.int .u32 d3), (.int .u32 d4), (.slice va l.length vc)]) ∧ Row 1 vStr 9 w1.heap.size w2 (.slice va l.length vc) l ∧ Wrote w1 bs c2 TS w2) : Calls Try.prog 91 #[(.func (.func k) #[] caps)] w fun e w' => ∃ u, e = .returned u ∧ ∃ (va : Option Addr) (vc : Nat), u = .tuple #[(.agg #[(.bool has), (.int .u32 d1), (.int .u32 d2), (.int .u32 d3), (.int .u32 d4), (.slice va l.length vc)]), .agg #[.int .i64 0, .int .i64 0]] ∧ Row 1 vStr 9 w.heap.size w' (.slice va l.length vc) l ∧ Wrote w bs c2 TS w' := by
  refine sx_enter (L := [(0, (.func (.func k) #[] caps))]) Try.func91 rfl rfl rfl rfl (fun fa hf => ?_)
  have hb : Below w.heap.size w w := Below.refl _ _
  refine wp_seq_k (fun K1 hK1 => ?_)
  refine wp_region_lit ?_
  refine sqdt hf (d_box (cs := #[(.func (.func k) #[] caps)]) rfl rfl) rfl rfl rfl ?_; clear hf fa; rintro fa _ w1 ⟨b1, rfl, hle1, hk1, he1⟩ hf
  have hBb1 : w.heap.size ≤ b1 := Nat.le_trans hb.size hle1
  replace hb := hb.trans (Below.mono he1 hb.size)
  refine sqdt hf (d_alloc (z := (.agg #[(.bool false), (.int .u32 (0 : Int)), (.int .u32 (0 : Int)), (.int .u32 (0 : Int)), (.int .u32 (0 : Int)), (.slice none 0 0)])) (cs := #[(.bool false), (.int .u32 (0 : Int)), (.int .u32 (0 : Int)), (.int .u32 (0 : Int)), (.int .u32 (0 : Int)), (.slice none 0 0)]) (by kernel_rfl) rfl) rfl rfl rfl ?_; clear hf fa; rintro fa _ w2 ⟨b2, rfl, hle2, hk2, he2⟩ hf
  have hBb2 : w.heap.size ≤ b2 := Nat.le_trans hb.size hle2
  have : b1 < b2 := Nat.lt_of_lt_of_le (blk_lt hk1) hle2
  replace hk1 := blk_ext hk1 he2
  replace hb := hb.trans (Below.mono he2 hb.size)
  refine sqdt hf (d_alloc (z := (.agg #[(.int .i64 (0 : Int)), (.int .i64 (0 : Int))])) (cs := #[(.int .i64 (0 : Int)), (.int .i64 (0 : Int))]) (by kernel_rfl) rfl) rfl rfl rfl ?_; clear hf fa; rintro fa _ w3 ⟨b3, rfl, hle3, hk3, he3⟩ hf
  have hBb3 : w.heap.size ≤ b3 := Nat.le_trans hb.size hle3
  have : b1 < b3 := Nat.lt_of_lt_of_le (blk_lt hk1) hle3
  have : b2 < b3 := Nat.lt_of_lt_of_le (blk_lt hk2) hle3
  replace hk1 := blk_ext hk1 he3
  replace hk2 := blk_ext hk2 he3
  replace hb := hb.trans (Below.mono he3 hb.size)
  apply wpList_nil
  (try simp only [Exit.then, Exit.inBlock, ↓reduceIte, Nat.reduceEqDiff])
  refine hK1 _ _ ?_
  refine wp_seq_k (fun K2 hK2 => ?_)
  refine wp_region_lit ?_
  refine sqdt hf (d_alloc (z := (.agg #[(.bool false), (.int .u32 (0 : Int)), (.int .u32 (0 : Int)), (.int .u32 (0 : Int)), (.int .u32 (0 : Int)), (.slice none 0 0)])) (cs := #[(.bool false), (.int .u32 (0 : Int)), (.int .u32 (0 : Int)), (.int .u32 (0 : Int)), (.int .u32 (0 : Int)), (.slice none 0 0)]) (by kernel_rfl) rfl) rfl rfl rfl ?_; clear hf fa; rintro fa _ w4 ⟨b4, rfl, hle4, hk4, he4⟩ hf
  have hBb4 : w.heap.size ≤ b4 := Nat.le_trans hb.size hle4
  have : b1 < b4 := Nat.lt_of_lt_of_le (blk_lt hk1) hle4
  have : b2 < b4 := Nat.lt_of_lt_of_le (blk_lt hk2) hle4
  have : b3 < b4 := Nat.lt_of_lt_of_le (blk_lt hk3) hle4
  replace hk1 := blk_ext hk1 he4
  replace hk2 := blk_ext hk2 he4
  replace hk3 := blk_ext hk3 he4
  replace hb := hb.trans (Below.mono he4 hb.size)
  apply wpList_nil
  (try simp only [Exit.then, Exit.inBlock, ↓reduceIte, Nat.reduceEqDiff])
  refine hK2 _ _ ?_
  refine wp_seq_k (fun K3 hK3 => ?_)
  refine wp_region_lit ?_
  refine sqv hf (r_makeFunc (vs := [(.pointer (some ⟨b1, 0, none⟩)), (.pointer (some ⟨b4, 0, none⟩))]) rfl) rfl rfl rfl ?_; clear hf fa; intro fa hf
  have hszB := hb.size
  refine sqdt hf (d_callR (vs := [(.func (.func 135) #[] #[(.pointer (some ⟨b1, 0, none⟩)), (.pointer (some ⟨b4, 0, none⟩))])]) rfl Try.func59 (by kernel_rfl) (by kernel_rfl) (out_ok 135 _ _ [b4, bs] (fun B w' => ∃ (va : Option Addr) (vc : Nat), w'.heap[b4]? = some (.cells #[(.bool has), (.int .u32 d1), (.int .u32 d2), (.int .u32 d3), (.int .u32 d4), (.slice va l.length vc)] 37 (0, 0)) ∧ w'.heap[bs]? = some (.cells c2 TS (0, 0)) ∧ Row 1 vStr 9 B w' (.slice va l.length vc) l) (enters Try.func135 (by kernel_rfl) (by kernel_rfl)) (by intro q hq; have := blk_lt hk4; simp only [List.mem_cons, List.not_mem_nil, or_false] at hq; rcases hq with rfl | rfl <;> omega) (fun w1 hw1 hlt => (in_dyl b1 b4 bs TS k caps c2 has d1 d2 d3 d4 l w1 (by have := hw1.size; have := blk_lt hk4; omega) (by omega) (by omega) (blk_ext hk1 hw1) (blk_ext hk4 hw1) hin (hc w1 (hb.trans (hw1.mono hb.size)))).mono (fun e w' h => (by obtain ⟨h0, va, vc, h1, h2, h4, h3⟩ := h; exact ⟨h0, h3, va, vc, h1, h2, h4⟩))))) rfl rfl rfl ?_; clear hf fa; rintro fa _ w5 ⟨rfl, hks1, B1, hB1, va, vc, hk5, hk6, hr1⟩ hf
  replace hk1 := blk_ks hk1 hks1 (by simp only [List.mem_cons, List.not_mem_nil, or_false]; omega)
  replace hk2 := blk_ks hk2 hks1 (by simp only [List.mem_cons, List.not_mem_nil, or_false]; omega)
  replace hk3 := blk_ks hk3 hks1 (by simp only [List.mem_cons, List.not_mem_nil, or_false]; omega)
  replace hb : KS [bs] w.heap.size w _ := (KS.of_belowB hb).many hks1 (by intro q hq; simp only [List.mem_cons, List.not_mem_nil, or_false] at hq ⊢; omega) hb.size
  have hBbs0 : bs < w.heap.size := hbs
  skip
  skip
  skip
  skip
  skip
  refine sqdt hf (d_alloc (z := (.agg #[(.int .i64 (0 : Int)), (.int .i64 (0 : Int))])) (cs := #[(.int .i64 (0 : Int)), (.int .i64 (0 : Int))]) (by kernel_rfl) rfl) rfl rfl rfl ?_; clear hf fa; rintro fa _ w6 ⟨b5, rfl, hle5, hk7, he5⟩ hf
  have hBb5 : w.heap.size ≤ b5 := Nat.le_trans hb.size hle5
  have : b1 < b5 := Nat.lt_of_lt_of_le (blk_lt hk1) hle5
  have : b2 < b5 := Nat.lt_of_lt_of_le (blk_lt hk2) hle5
  have : b3 < b5 := Nat.lt_of_lt_of_le (blk_lt hk3) hle5
  have : b4 < b5 := Nat.lt_of_lt_of_le (blk_lt hk5) hle5
  have : bs < b5 := Nat.lt_of_lt_of_le (blk_lt hk6) hle5
  replace hk1 := blk_ext hk1 he5
  replace hk2 := blk_ext hk2 he5
  replace hk3 := blk_ext hk3 he5
  replace hk5 := blk_ext hk5 he5
  replace hk6 := blk_ext hk6 he5
  replace hr1 := Row.ext hr1 he5
  replace hb := hb.trans (Below.mono he5 hb.size)
  refine sqn hf (d_storeK (T := 90) (v := (.agg #[(.int .i64 (0 : Int)), (.int .i64 (0 : Int))])) (cs := #[(.int .i64 (0 : Int)), (.int .i64 (0 : Int))]) (cs' := #[(.int .i64 (0 : Int)), (.int .i64 (0 : Int))]) rfl rfl (by kernel_rfl) (by kernel_rfl) hk7 (by kernel_rfl) (by kernel_rfl)) rfl rfl ?_; clear hf fa; rintro fa _ w7 ⟨hk8, hg1⟩ hf
  replace hk1 := blk_grown hk1 hg1 (by omega)
  replace hk2 := blk_grown hk2 hg1 (by omega)
  replace hk3 := blk_grown hk3 hg1 (by omega)
  replace hk5 := blk_grown hk5 hg1 (by omega)
  replace hk6 := blk_grown hk6 hg1 (by omega)
  replace hr1 := Row.grown hr1 hg1 (Row.ne_type hr1 hk7 rfl)
  replace hb := hb.wrote hg1 hb.size (.inr hBb5)
  apply wpList_nil
  (try simp only [Exit.then, Exit.inBlock, ↓reduceIte, Nat.reduceEqDiff])
  refine hK3 _ _ ?_
  refine wp_seq_k (fun K4 hK4 => ?_)
  refine wp_seq_k (fun K5 hK5 => ?_)
  refine wp_region_lit ?_
  refine sqv hf (r_fa rfl Try.underlying90 (f := 0) (q := 0) rfl (by kernel_rfl) rfl) rfl rfl rfl ?_; clear hf fa; intro fa hf
  refine sqv hf (r_load (v := (.int .i64 (0 : Int))) rfl Try.underlying39 rfl (cell_blk hk8 rfl)) rfl rfl rfl ?_; clear hf fa; intro fa hf
  refine sqv hf (r_ne rfl rfl) rfl rfl rfl ?_; clear hf fa; intro fa hf
  apply wpList_nil
  (try simp only [Exit.then, Exit.inBlock, ↓reduceIte, Nat.reduceEqDiff])
  refine hK5 _ _ ?_
  refine wp_cond_false ((hf.ev rfl).trans (congrArg Value.bool (show (decide ((0 : Int) ≠ (0 : Int))) = false from rfl))) ?_
  refine wp_skip ?_
  (try simp only [Exit.then, Exit.inBlock, ↓reduceIte, Nat.reduceEqDiff])
  refine hK4 _ _ ?_
  refine wp_seq_k (fun K6 hK6 => ?_)
  refine wp_region_unT 3 (fun wc => (w7.grownBy wc (some b2) ∧ (wc.heap[b2]? = some (.cells #[(.bool false), (.int .u32 (0 : Int)), (.int .u32 (0 : Int)), (.int .u32 (0 : Int)), (.int .u32 (0 : Int)), (.slice none 0 0)] 37 (0, 0)) ∨ wc.heap[b2]? = some (.cells #[(.bool has), (.int .u32 d1), (.int .u32 d2), (.int .u32 d3), (.int .u32 d4), (.slice va l.length vc)] 37 (0, 0))))) (fun wa wc => ((w7.grownBy wa (some b2) ∧ (wa.heap[b2]? = some (.cells #[(.bool false), (.int .u32 (0 : Int)), (.int .u32 (0 : Int)), (.int .u32 (0 : Int)), (.int .u32 (0 : Int)), (.slice none 0 0)] 37 (0, 0)) ∨ wa.heap[b2]? = some (.cells #[(.bool has), (.int .u32 d1), (.int .u32 d2), (.int .u32 d3), (.int .u32 d4), (.slice va l.length vc)] 37 (0, 0)))) → (w7.grownBy wc (some b2) ∧ (wc.heap[b2]? = some (.cells #[(.bool false), (.int .u32 (0 : Int)), (.int .u32 (0 : Int)), (.int .u32 (0 : Int)), (.int .u32 (0 : Int)), (.slice none 0 0)] 37 (0, 0)) ∨ wc.heap[b2]? = some (.cells #[(.bool has), (.int .u32 d1), (.int .u32 d2), (.int .u32 d3), (.int .u32 d4), (.slice va l.length vc)] 37 (0, 0))))) ∧ wa.heap.size ≤ wc.heap.size ∧ (wa.heap[b2]? = some (.cells #[(.bool has), (.int .u32 d1), (.int .u32 d2), (.int .u32 d3), (.int .u32 d4), (.slice va l.length vc)] 37 (0, 0)) → wc.heap[b2]? = some (.cells #[(.bool has), (.int .u32 d1), (.int .u32 d2), (.int .u32 d3), (.int .u32 d4), (.slice va l.length vc)] 37 (0, 0))))
    (fun V => [(fun x _ => x = (.agg #[(.bool has), (.int .u32 d1), (.int .u32 d2), (.int .u32 d3), (.int .u32 d4), (.slice va l.length vc)])), (fun x _ => x = (.agg #[(.int .i64 (0 : Int)), (.int .i64 (0 : Int))])), (fun _ wq => wq.heap[b2]? = some (.cells #[(.bool has), (.int .u32 d1), (.int .u32 d2), (.int .u32 d3), (.int .u32 d4), (.slice va l.length vc)] 37 (0, 0)))])
    []
    [[], [], [0], []]
    hf (by kernel_rfl) (by kernel_rfl) (by kernel_rfl) (fun _ => rfl) ⟨below_grown (Below.refl _ _).drew, .inl (blk_ext hk2 (Below.refl _ _).drew)⟩ (fun a b h1 h2 => h2.1 h1) (fun _ _ h => h.2.1) (fun V => ⟨(fun _ _ _ h _ => h), (fun _ _ _ h _ => h), (fun _ _ _ h hG => hG.2.2 h), trivial⟩) (fun _ _ _ _ _ => rfl) ?_ ?_
  · skip
    intro V
    refine ⟨fun wu0 hC hd => ?_, ?_⟩
    · clear hd
      have hgC := hC.1
      replace hk1 := blk_grown hk1 hgC (by omega)
      replace hk3 := blk_grown hk3 hgC (by omega)
      replace hk5 := blk_grown hk5 hgC (by omega)
      replace hk6 := blk_grown hk6 hgC (by omega)
      replace hk8 := blk_grown hk8 hgC (by omega)
      replace hr1 := Row.grown hr1 hgC (Row.ne_type hr1 hk2 rfl)
      replace hb := hb.wrote hgC hb.size (.inr hBb2)
      exact Runs.does (r_loadA (cs := [(.bool has), (.int .u32 d1), (.int .u32 d2), (.int .u32 d3), (.int .u32 d4), (.slice va l.length vc)]) rfl Try.underlying37 rfl (by kernel_rfl) (cellsAt_blk hk5)) ⟨⟨id, Nat.le_refl _, id⟩, rfl, nofr rfl⟩
    refine ⟨fun wu1 hC hd => ?_, ?_⟩
    · clear hd
      have hgC := hC.1
      replace hk1 := blk_grown hk1 hgC (by omega)
      replace hk3 := blk_grown hk3 hgC (by omega)
      replace hk5 := blk_grown hk5 hgC (by omega)
      replace hk6 := blk_grown hk6 hgC (by omega)
      replace hk8 := blk_grown hk8 hgC (by omega)
      replace hr1 := Row.grown hr1 hgC (Row.ne_type hr1 hk2 rfl)
      replace hb := hb.wrote hgC hb.size (.inr hBb2)
      exact Runs.does (r_loadA (cs := [(.int .i64 (0 : Int)), (.int .i64 (0 : Int))]) rfl Try.underlying90 rfl (by kernel_rfl) (cellsAt_blk hk8)) ⟨⟨id, Nat.le_refl _, id⟩, rfl, nofr rfl⟩
    refine ⟨fun wu2 hC hd => ?_, ?_⟩
    · obtain ⟨h0, _⟩ := hd
      replace h0 : V 0 = (.agg #[(.bool has), (.int .u32 d1), (.int .u32 d2), (.int .u32 d3), (.int .u32 d4), (.slice va l.length vc)]) := h0
      have hgC := hC.1
      replace hk1 := blk_grown hk1 hgC (by omega)
      replace hk3 := blk_grown hk3 hgC (by omega)
      replace hk5 := blk_grown hk5 hgC (by omega)
      replace hk6 := blk_grown hk6 hgC (by omega)
      replace hk8 := blk_grown hk8 hgC (by omega)
      replace hr1 := Row.grown hr1 hgC (Row.ne_type hr1 hk2 rfl)
      replace hb := hb.wrote hgC hb.size (.inr hBb2)
      rcases hC.2 with hX | hX
      · refine Does.mono (d_storeK (T := 37) (v := (.agg #[(.bool has), (.int .u32 d1), (.int .u32 d2), (.int .u32 d3), (.int .u32 d4), (.slice va l.length vc)])) (cs := #[(.bool false), (.int .u32 (0 : Int)), (.int .u32 (0 : Int)), (.int .u32 (0 : Int)), (.int .u32 (0 : Int)), (.slice none 0 0)]) (cs' := #[(.bool has), (.int .u32 d1), (.int .u32 d2), (.int .u32 d3), (.int .u32 d4), (.slice va l.length vc)]) rfl (congrArg some h0) (by kernel_rfl) (by kernel_rfl) hX (by kernel_rfl) (by kernel_rfl)) ?_
        rintro _ wz ⟨hY, hgY⟩
        exact ⟨⟨fun _ => ⟨grownBy_trans hgC hgY, .inr hY⟩, hgY.size, fun _ => hY⟩, hY, nofr rfl⟩
      · refine Does.mono (d_storeK (T := 37) (v := (.agg #[(.bool has), (.int .u32 d1), (.int .u32 d2), (.int .u32 d3), (.int .u32 d4), (.slice va l.length vc)])) (cs := #[(.bool has), (.int .u32 d1), (.int .u32 d2), (.int .u32 d3), (.int .u32 d4), (.slice va l.length vc)]) (cs' := #[(.bool has), (.int .u32 d1), (.int .u32 d2), (.int .u32 d3), (.int .u32 d4), (.slice va l.length vc)]) rfl (congrArg some h0) (by kernel_rfl) (by kernel_rfl) hX (by kernel_rfl) (by kernel_rfl)) ?_
        rintro _ wz ⟨hY, hgY⟩
        exact ⟨⟨fun _ => ⟨grownBy_trans hgC hgY, .inr hY⟩, hgY.size, fun _ => hY⟩, hY, nofr rfl⟩
    trivial
  · skip
    clear hf fa; intro V w8 fa he6 hp hnb hf
    have hg2 := he6.1
    have hv0 : V 0 = (.agg #[(.bool has), (.int .u32 d1), (.int .u32 d2), (.int .u32 d3), (.int .u32 d4), (.slice va l.length vc)]) := postsHold_at hp 0 rfl
    have hv1 : V 1 = (.agg #[(.int .i64 (0 : Int)), (.int .i64 (0 : Int))]) := postsHold_at hp 1 rfl
    have hk9 := postsHold_at hp 2 rfl
    simp only [List.take_succ_cons, List.take_zero, insAll, ins, hv0, hv1] at hf
    clear hp hnb hv0 hv1
    replace hk1 := blk_grown hk1 hg2 (by omega)
    replace hk3 := blk_grown hk3 hg2 (by omega)
    replace hk5 := blk_grown hk5 hg2 (by omega)
    replace hk6 := blk_grown hk6 hg2 (by omega)
    replace hk8 := blk_grown hk8 hg2 (by omega)
    replace hr1 := Row.grown hr1 hg2 (Row.ne_type hr1 hk2 rfl)
    replace hb := hb.wrote hg2 hb.size (.inr hBb2)
    replace hk9 : w8.heap[b2]? = some (.cells #[(.bool has), (.int .u32 d1), (.int .u32 d2), (.int .u32 d3), (.int .u32 d4), (.slice va l.length vc)] 37 (0, 0)) := hk9
    simp only [List.drop_succ_cons, List.drop_zero]
    refine sqn hf (d_storeK (T := 90) (v := (.agg #[(.int .i64 (0 : Int)), (.int .i64 (0 : Int))])) (cs := #[(.int .i64 (0 : Int)), (.int .i64 (0 : Int))]) (cs' := #[(.int .i64 (0 : Int)), (.int .i64 (0 : Int))]) rfl rfl (by kernel_rfl) (by kernel_rfl) hk3 (by kernel_rfl) (by kernel_rfl)) rfl rfl ?_; clear hf fa; rintro fa _ w9 ⟨hk10, hg3⟩ hf
    replace hk1 := blk_grown hk1 hg3 (by omega)
    replace hk9 := blk_grown hk9 hg3 (by omega)
    replace hk5 := blk_grown hk5 hg3 (by omega)
    replace hk6 := blk_grown hk6 hg3 (by omega)
    replace hk8 := blk_grown hk8 hg3 (by omega)
    replace hr1 := Row.grown hr1 hg3 (Row.ne_type hr1 hk3 rfl)
    replace hb := hb.wrote hg3 hb.size (.inr hBb3)
    apply wpList_nil
    (try simp only [Exit.then, Exit.inBlock, ↓reduceIte, Nat.reduceEqDiff])
    refine hK6 _ _ ?_
    refine wp_ret ?_
    (try simp only [Exit.then, Exit.inBlock])
    refine retCC hf rfl rfl hk9 Try.underlying37 rfl (by kernel_rfl) rfl hk10 Try.underlying90 rfl (by kernel_rfl) ?_
    exact ⟨_, rfl, _, _, rfl, Row.rebase hr1 (Nat.le_trans hszB (Nat.le_of_lt hB1)), hk6, hb.grown1⟩
end Go.Proofs.Ytcmdajkkdognfaa
