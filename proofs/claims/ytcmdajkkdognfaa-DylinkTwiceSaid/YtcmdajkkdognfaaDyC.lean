/- What is proved here: the law DylinkTwice is true. -/
import Derived.Test.YtcmdajkkdognfaaDyB
import Derived.Test.YtcmdajkkdognfaaSxV
namespace Go.Proofs.Ytcmdajkkdognfaa
open Go.RowKit
set_option linter.unusedVariables false
set_option linter.unusedSimpArgs false
theorem few_big27 {L : List ByteArray} {i : Nat} {z : ByteArray} (h : fewP L = true) (hz : L[i]? = some z) : ∀ s ∈ ([] ++ L) ++ [z], s.size ≤ 1000000 := by
  intro s hs
  rw [List.nil_append] at hs
  rcases List.mem_append.1 hs with hs | hs
  · exact few_big h s hs
  · rw [List.mem_singleton.1 hs]; exact few_big h z (List.mem_of_getElem? hz)

set_option maxHeartbeats 1000000 in
set_option maxRecDepth 100000 in
theorem dylinkTwice_any (has : Bool) (a1 a2 a3 a4 : Int) (a : Option Addr) (L : List ByteArray) (c : Nat) (f : Nat) (most : Int) (w : World) (hl : RdS 1 vStr w a L) (hc : L.length ≤ 9223372036854775807) (hcp : L.length ≤ c) (hc9 : c ≤ 9223372036854775807) (hn : a = none → c = 0) (ha1 : 0 ≤ a1 ∧ a1 < 4294967296) (ha2 : 0 ≤ a2 ∧ a2 < 4294967296) (ha3 : 0 ≤ a3 ∧ a3 < 4294967296) (ha4 : 0 ≤ a4 ∧ a4 < 4294967296) (hf256 : f < 256) (hm : 0 ≤ most ∧ most < 4294967296) : Calls Try.prog 4 #[(.agg #[(.bool has), (.int .u32 a1), (.int .u32 a2), (.int .u32 a3), (.int .u32 a4), (.slice a L.length c)]), (.int .u8 ((f : Nat) : Int)), (.int .u32 most)] w fun e w' => e = .returned (.bool true) ∧ Below w.heap.size w w' := by
  refine sx_enter (L := [(0, (.agg #[(.bool has), (.int .u32 a1), (.int .u32 a2), (.int .u32 a3), (.int .u32 a4), (.slice a L.length c)])), (1, (.int .u8 ((f : Nat) : Int))), (2, (.int .u32 most))]) Try.func4 rfl rfl rfl rfl (fun fa hf => ?_)
  have hb : Below w.heap.size w w := Below.refl _ _
  refine wp_seq_k (fun K1 hK1 => ?_)
  refine wp_region_lit ?_
  refine sqdt hf (d_box (cs := #[(.bool has), (.int .u32 a1), (.int .u32 a2), (.int .u32 a3), (.int .u32 a4), (.slice a L.length c)]) rfl rfl) rfl rfl rfl ?_; clear hf fa; rintro fa _ w1 ⟨b1, rfl, hle1, hk1, he1⟩ hf
  have hBb1 : w.heap.size ≤ b1 := Nat.le_trans hb.size hle1
  replace hb := hb.trans (Below.mono he1 hb.size)
  refine sqv hf (r_assign rfl) rfl rfl rfl ?_; clear hf fa; intro fa hf
  apply wpList_nil
  (try simp only [Exit.then, Exit.inBlock, ↓reduceIte, Nat.reduceEqDiff])
  refine hK1 _ _ ?_
  refine wp_seq_k (fun K2 hK2 => ?_)
  refine wp_seq_k (fun K3 hK3 => ?_)
  refine wp_region_lit ?_
  refine sqdt hf (d_callB (vs := []) rfl Try.func23 (by kernel_rfl) (by kernel_rfl) (awake16_any _)) rfl rfl rfl ?_; clear hf fa; rintro fa _ w2 ⟨rfl, he2⟩ hf
  replace hk1 := blk_ext hk1 he2
  replace hb := hb.trans (Below.mono he2 hb.size)
  refine sqv hf (Runs.veq (v' := (.bool false)) (r_not rfl) rfl) rfl rfl rfl ?_; clear hf fa; intro fa hf
  apply wpList_nil
  (try simp only [Exit.then, Exit.inBlock, ↓reduceIte, Nat.reduceEqDiff])
  refine hK3 _ _ ?_
  refine wp_cond_false (hf.ev rfl) ?_
  refine wp_skip ?_
  (try simp only [Exit.then, Exit.inBlock, ↓reduceIte, Nat.reduceEqDiff])
  refine hK2 _ _ ?_
  refine wp_seq_k (fun K4 hK4 => ?_)
  refine wp_seq_k (fun K5 hK5 => ?_)
  refine wp_region_lit ?_
  refine sqv hf (r_loadA (cs := [(.bool has), (.int .u32 a1), (.int .u32 a2), (.int .u32 a3), (.int .u32 a4), (.slice a L.length c)]) rfl Try.underlying37 rfl (by kernel_rfl) (cellsAt_blk hk1)) rfl rfl rfl ?_; clear hf fa; intro fa hf
  refine sqdt hf (d_callB (vs := [(.agg #[(.bool has), (.int .u32 a1), (.int .u32 a2), (.int .u32 a3), (.int .u32 a4), (.slice a L.length c)])]) rfl Try.func24 (by kernel_rfl) (by kernel_rfl) (few_any has a1 a2 a3 a4 a L c _ (RdS.ext hl hb) hc hcp)) rfl rfl rfl ?_; clear hf fa; rintro fa _ w3 ⟨rfl, he3⟩ hf
  replace hk1 := blk_ext hk1 he3
  replace hb := hb.trans (Below.mono he3 hb.size)
  refine sqv hf (r_not rfl) rfl rfl rfl ?_; clear hf fa; intro fa hf
  refine sqv hf (r_move rfl) rfl rfl rfl ?_; clear hf fa; intro fa hf
  refine sqgF (act := (!(!(fewP L)))) (ag := true) (c := (!(fewP L))) (v := (.agg #[(.bool has), (.int .u32 a1), (.int .u32 a2), (.int .u32 a3), (.int .u32 a4), (.slice a L.length c)])) hf rfl rfl rfl (fun hact => (r_loadA (cs := [(.bool has), (.int .u32 a1), (.int .u32 a2), (.int .u32 a3), (.int .u32 a4), (.slice a L.length c)]) rfl Try.underlying37 rfl (by kernel_rfl) (cellsAt_blk hk1))) rfl rfl ?_; clear hf fa; intro fa hf
  refine sqgd (R := fun vq wq => vq = gb (!(!(fewP L))) (.int .i64 ((drightP has a1 a2 a3 a4 L))) ∧ Below w3.heap.size w3 wq) (act := (!(!(fewP L)))) (g := 3) (want := false) (ag := true) (c := (!(fewP L))) hf (by rfl) (by rfl) (act_F _ _) (fun hact => (d_callB (vs := [(.agg #[(.bool has), (.int .u32 a1), (.int .u32 a2), (.int .u32 a3), (.int .u32 a4), (.slice a L.length c)])]) (cons_ev (gb_ev hact rfl) rfl) Try.func25 (by kernel_rfl) (by kernel_rfl) (dright_any has a1 a2 a3 a4 a L c _ (RdS.ext hl hb) (by omega) hcp (few_big (by simpa using hact)))).mono (fun _ _ h => ⟨by rw [h.1, hact]; rfl, h.2⟩)) (fun h => ⟨by rw [h]; rfl, Below.refl _ _⟩) rfl ?_; clear hf fa; rintro fa _ w4 ⟨rfl, he4⟩ hf
  replace hk1 := blk_ext hk1 he4
  replace hb := hb.trans (Below.mono he4 hb.size)
  change Fr _ _ ((17, (gb (!(!(fewP L))) (.int .i64 ((drightP has a1 a2 a3 a4 L))))) :: _) at hf
  refine sqgF (act := (!(!(fewP L)))) (ag := true) (c := (!(fewP L))) (v := (.bool (decide (((drightP has a1 a2 a3 a4 L)) ≠ (0 : Int))))) hf rfl rfl rfl (fun hact => (r_ne (gb_ev hact rfl) rfl)) rfl rfl ?_; clear hf fa; intro fa hf
  refine sqv hf (r_pickO (b := (!(fewP L))) (e := (decide (((drightP has a1 a2 a3 a4 L)) ≠ (0 : Int)))) rfl rfl rfl) rfl rfl rfl ?_; clear hf fa; intro fa hf
  refine sqv hf (r_move rfl) rfl rfl rfl ?_; clear hf fa; intro fa hf
  refine sqgF (act := (!((!(fewP L)) || (decide (((drightP has a1 a2 a3 a4 L)) ≠ (0 : Int)))))) (ag := true) (c := ((!(fewP L)) || (decide (((drightP has a1 a2 a3 a4 L)) ≠ (0 : Int))))) (v := (.pointer (some ⟨b1, 0, none⟩))) hf rfl rfl rfl (fun hact => (r_fa rfl Try.underlying37 (f := 0) (q := 0) rfl (by kernel_rfl) rfl)) rfl rfl ?_; clear hf fa; intro fa hf
  refine sqgF (act := (!((!(fewP L)) || (decide (((drightP has a1 a2 a3 a4 L)) ≠ (0 : Int)))))) (ag := true) (c := ((!(fewP L)) || (decide (((drightP has a1 a2 a3 a4 L)) ≠ (0 : Int))))) (v := (.bool has)) hf rfl rfl rfl (fun hact => (r_load (v := (.bool has)) (gb_ev hact rfl) Try.underlying4 rfl (cell_blk hk1 rfl))) rfl rfl ?_; clear hf fa; intro fa hf
  refine sqgF (act := (!((!(fewP L)) || (decide (((drightP has a1 a2 a3 a4 L)) ≠ (0 : Int)))))) (ag := true) (c := ((!(fewP L)) || (decide (((drightP has a1 a2 a3 a4 L)) ≠ (0 : Int))))) (v := (.bool (!has))) hf rfl rfl rfl (fun hact => (r_not (gb_ev hact rfl))) rfl rfl ?_; clear hf fa; intro fa hf
  refine sqv hf (r_pickO (b := ((!(fewP L)) || (decide (((drightP has a1 a2 a3 a4 L)) ≠ (0 : Int))))) (e := (!has)) rfl rfl rfl) rfl rfl rfl ?_; clear hf fa; intro fa hf
  apply wpList_nil
  (try simp only [Exit.then, Exit.inBlock, ↓reduceIte, Nat.reduceEqDiff])
  refine hK5 _ _ ?_
  refine wp_cond_split (t := (((!(fewP L)) || (decide (((drightP has a1 a2 a3 a4 L)) ≠ (0 : Int)))) || (!has))) (hf.ev rfl) (fun hqt24_1 => ?_) (fun hqt24_1 => ?_)
  · have hqt24_1b := hqt24_1
    try simp only [decide_eq_true_eq, Bool.and_eq_true, Bool.or_eq_true, Bool.not_eq_true', decide_eq_false_iff_not, ne_eq, Bool.not_eq_true] at hqt24_1
    refine wp_seq_k (fun K6 hK6 => ?_)
    refine wp_region_lit ?_
    refine sqv hf (r_assign rfl) rfl rfl rfl ?_; clear hf fa; intro fa hf
    apply wpList_nil
    (try simp only [Exit.then, Exit.inBlock, ↓reduceIte, Nat.reduceEqDiff])
    refine hK6 _ _ ?_
    refine wp_ret ?_
    (try simp only [Exit.then, Exit.inBlock])
    refine ret1 hf rfl rfl ?_
    exact ⟨rfl, hb⟩
  · have hqt24_1b := hqt24_1
    replace hqt24_1 := Bool.eq_false_iff.1 hqt24_1
    try simp only [ne_eq, decide_eq_true_eq, Bool.and_eq_true, Bool.or_eq_true, Bool.not_eq_true', decide_eq_false_iff_not] at hqt24_1
    refine wp_skip ?_
    (try simp only [Exit.then, Exit.inBlock, ↓reduceIte, Nat.reduceEqDiff])
    refine hK4 _ _ ?_
    refine wp_seq_k (fun K7 hK7 => ?_)
    have hfw : fewP L = true := by have h := hqt24_1b; revert h; cases fewP L <;> simp
    have hdr : drightP has a1 a2 a3 a4 L = 0 := by have h := hqt24_1b; rw [hfw] at h; simp at h; exact h.1
    have hhas : has = true := by have h := hqt24_1b; rw [hfw] at h; simp at h; exact h.2
    have hfl := (few_iff.1 hfw).1
    refine wp_region_vn (fun _ wq => Below w4.heap.size w4 wq)
      (fun V S => [(fun x _ => x = (.agg #[(.bool has), (.int .u32 a1), (.int .u32 a2), (.int .u32 a3), (.int .u32 a4), (.slice a L.length c)])), (fun x _ => x = (.agg #[(.bool has), (.int .u32 a1), (.int .u32 a2), (.int .u32 a3), (.int .u32 a4), (.slice a L.length c)])), (fun x _ => x = (.agg #[(.bool has), (.int .u32 a1), (.int .u32 a2), (.int .u32 a3), (.int .u32 a4), (.slice a L.length c)])), (fun x wq => ∃ b, x = .pointer (some ⟨b, 0, none⟩) ∧ w4.heap.size ≤ b ∧ (¬ S 6 → wq.heap[b]? = some (.cells #[(.bool false), (.int .u32 (0 : Int)), (.int .u32 (0 : Int)), (.int .u32 (0 : Int)), (.int .u32 (0 : Int)), (.slice none 0 0)] 37 (0, 0))) ∧ (S 6 → wq.heap[b]? = some (.cells #[(.bool has), (.int .u32 a1), (.int .u32 a2), (.int .u32 a3), (.int .u32 a4), (.slice a L.length c)] 37 (0, 0)))), (fun x wq => ∃ b, x = .pointer (some ⟨b, 0, none⟩) ∧ w4.heap.size ≤ b ∧ (¬ S 7 → wq.heap[b]? = some (.cells #[(.bool false), (.int .u32 (0 : Int)), (.int .u32 (0 : Int)), (.int .u32 (0 : Int)), (.int .u32 (0 : Int)), (.slice none 0 0)] 37 (0, 0))) ∧ (S 7 → wq.heap[b]? = some (.cells #[(.bool has), (.int .u32 a1), (.int .u32 a2), (.int .u32 a3), (.int .u32 a4), (.slice a L.length c)] 37 (0, 0)))), (fun x wq => ∃ b, x = .pointer (some ⟨b, 0, none⟩) ∧ w4.heap.size ≤ b ∧ (¬ S 8 → wq.heap[b]? = some (.cells #[(.bool false), (.int .u32 (0 : Int)), (.int .u32 (0 : Int)), (.int .u32 (0 : Int)), (.int .u32 (0 : Int)), (.slice none 0 0)] 37 (0, 0))) ∧ (S 8 → wq.heap[b]? = some (.cells #[(.bool has), (.int .u32 a1), (.int .u32 a2), (.int .u32 a3), (.int .u32 a4), (.slice a L.length c)] 37 (0, 0)))), (fun _ _ => True), (fun _ _ => True), (fun _ _ => True)])
      [3, 4, 5]
      [[], [], [], [], [], [], [0, 3, 4, 5], [0, 1, 3, 4, 5, 6], [0, 1, 2, 3, 4, 5, 6, 7]]
      hf (by kernel_rfl) (by kernel_rfl) (fun _ _ => rfl) (fun _ _ => (Below.refl _ _).drew) (fun _ _ _ _ _ _ => rfl) ?_ ?_
    · skip
      intro V
      have hKP : ∀ (i : Nat) (S : Nat → Prop) (w : World), (∀ q ∈ ([6, 7, 8] : List Nat), q ≠ i) → ∀ j v w', (((fun (S : Nat → Prop) => ([(fun x _ => x = (.agg #[(.bool has), (.int .u32 a1), (.int .u32 a2), (.int .u32 a3), (.int .u32 a4), (.slice a L.length c)])), (fun x _ => x = (.agg #[(.bool has), (.int .u32 a1), (.int .u32 a2), (.int .u32 a3), (.int .u32 a4), (.slice a L.length c)])), (fun x _ => x = (.agg #[(.bool has), (.int .u32 a1), (.int .u32 a2), (.int .u32 a3), (.int .u32 a4), (.slice a L.length c)])), (fun x wq => ∃ b, x = .pointer (some ⟨b, 0, none⟩) ∧ w4.heap.size ≤ b ∧ (¬ S 6 → wq.heap[b]? = some (.cells #[(.bool false), (.int .u32 (0 : Int)), (.int .u32 (0 : Int)), (.int .u32 (0 : Int)), (.int .u32 (0 : Int)), (.slice none 0 0)] 37 (0, 0))) ∧ (S 6 → wq.heap[b]? = some (.cells #[(.bool has), (.int .u32 a1), (.int .u32 a2), (.int .u32 a3), (.int .u32 a4), (.slice a L.length c)] 37 (0, 0)))), (fun x wq => ∃ b, x = .pointer (some ⟨b, 0, none⟩) ∧ w4.heap.size ≤ b ∧ (¬ S 7 → wq.heap[b]? = some (.cells #[(.bool false), (.int .u32 (0 : Int)), (.int .u32 (0 : Int)), (.int .u32 (0 : Int)), (.int .u32 (0 : Int)), (.slice none 0 0)] 37 (0, 0))) ∧ (S 7 → wq.heap[b]? = some (.cells #[(.bool has), (.int .u32 a1), (.int .u32 a2), (.int .u32 a3), (.int .u32 a4), (.slice a L.length c)] 37 (0, 0)))), (fun x wq => ∃ b, x = .pointer (some ⟨b, 0, none⟩) ∧ w4.heap.size ≤ b ∧ (¬ S 8 → wq.heap[b]? = some (.cells #[(.bool false), (.int .u32 (0 : Int)), (.int .u32 (0 : Int)), (.int .u32 (0 : Int)), (.int .u32 (0 : Int)), (.slice none 0 0)] 37 (0, 0))) ∧ (S 8 → wq.heap[b]? = some (.cells #[(.bool has), (.int .u32 a1), (.int .u32 a2), (.int .u32 a3), (.int .u32 a4), (.slice a L.length c)] 37 (0, 0)))), (fun _ _ => True), (fun _ _ => True), (fun _ _ => True)] : List (Value → World → Prop))) S).getD j (fun _ _ => True)) v w → Below w.heap.size w w' → (((fun (S : Nat → Prop) => ([(fun x _ => x = (.agg #[(.bool has), (.int .u32 a1), (.int .u32 a2), (.int .u32 a3), (.int .u32 a4), (.slice a L.length c)])), (fun x _ => x = (.agg #[(.bool has), (.int .u32 a1), (.int .u32 a2), (.int .u32 a3), (.int .u32 a4), (.slice a L.length c)])), (fun x _ => x = (.agg #[(.bool has), (.int .u32 a1), (.int .u32 a2), (.int .u32 a3), (.int .u32 a4), (.slice a L.length c)])), (fun x wq => ∃ b, x = .pointer (some ⟨b, 0, none⟩) ∧ w4.heap.size ≤ b ∧ (¬ S 6 → wq.heap[b]? = some (.cells #[(.bool false), (.int .u32 (0 : Int)), (.int .u32 (0 : Int)), (.int .u32 (0 : Int)), (.int .u32 (0 : Int)), (.slice none 0 0)] 37 (0, 0))) ∧ (S 6 → wq.heap[b]? = some (.cells #[(.bool has), (.int .u32 a1), (.int .u32 a2), (.int .u32 a3), (.int .u32 a4), (.slice a L.length c)] 37 (0, 0)))), (fun x wq => ∃ b, x = .pointer (some ⟨b, 0, none⟩) ∧ w4.heap.size ≤ b ∧ (¬ S 7 → wq.heap[b]? = some (.cells #[(.bool false), (.int .u32 (0 : Int)), (.int .u32 (0 : Int)), (.int .u32 (0 : Int)), (.int .u32 (0 : Int)), (.slice none 0 0)] 37 (0, 0))) ∧ (S 7 → wq.heap[b]? = some (.cells #[(.bool has), (.int .u32 a1), (.int .u32 a2), (.int .u32 a3), (.int .u32 a4), (.slice a L.length c)] 37 (0, 0)))), (fun x wq => ∃ b, x = .pointer (some ⟨b, 0, none⟩) ∧ w4.heap.size ≤ b ∧ (¬ S 8 → wq.heap[b]? = some (.cells #[(.bool false), (.int .u32 (0 : Int)), (.int .u32 (0 : Int)), (.int .u32 (0 : Int)), (.int .u32 (0 : Int)), (.slice none 0 0)] 37 (0, 0))) ∧ (S 8 → wq.heap[b]? = some (.cells #[(.bool has), (.int .u32 a1), (.int .u32 a2), (.int .u32 a3), (.int .u32 a4), (.slice a L.length c)] 37 (0, 0)))), (fun _ _ => True), (fun _ _ => True), (fun _ _ => True)] : List (Value → World → Prop))) (ad i S)).getD j (fun _ _ => True)) v w' := by
        intro i S w hi j v w' h hB
        match j with
        | 0 =>
          exact h
        | 1 =>
          exact h
        | 2 =>
          exact h
        | 3 =>
          obtain ⟨b, e1, e2, e3, e4⟩ := h
          exact ⟨b, e1, e2, fun hn => blk_ext (e3 (fun hs => hn (.inr hs))) hB, fun hs => by rcases hs with e | hs; exact absurd e (hi 6 (by decide)); exact blk_ext (e4 hs) hB⟩
        | 4 =>
          obtain ⟨b, e1, e2, e3, e4⟩ := h
          exact ⟨b, e1, e2, fun hn => blk_ext (e3 (fun hs => hn (.inr hs))) hB, fun hs => by rcases hs with e | hs; exact absurd e (hi 7 (by decide)); exact blk_ext (e4 hs) hB⟩
        | 5 =>
          obtain ⟨b, e1, e2, e3, e4⟩ := h
          exact ⟨b, e1, e2, fun hn => blk_ext (e3 (fun hs => hn (.inr hs))) hB, fun hs => by rcases hs with e | hs; exact absurd e (hi 8 (by decide)); exact blk_ext (e4 hs) hB⟩
        | 6 =>
          exact h
        | 7 =>
          exact h
        | 8 =>
          exact h
        | _ + 9 => trivial
      refine ⟨fun S wu0 hC hS hd hi => ?_, ?_⟩
      · skip
        replace hC : Below w4.heap.size w4 wu0 := hC
        refine uv_plain (C := fun _ wq => Below w4.heap.size w4 wq) (hKP 0 S wu0 (by decide)) (fun _ h1 h2 => Below.trans h1 (Below.mono h2 (Below.size h1))) hC hS ?_
        replace hb := hb.trans (hC.mono hb.size)
        replace hk1 := blk_ext hk1 hC
        exact Runs.does (r_loadA (cs := [(.bool has), (.int .u32 a1), (.int .u32 a2), (.int .u32 a3), (.int .u32 a4), (.slice a L.length c)]) rfl Try.underlying37 rfl (by kernel_rfl) (cellsAt_blk hk1)) ⟨Below.refl _ _, rfl, nofr rfl⟩
      refine ⟨fun S wu1 hC hS hd hi => ?_, ?_⟩
      · skip
        replace hC : Below w4.heap.size w4 wu1 := hC
        refine uv_plain (C := fun _ wq => Below w4.heap.size w4 wq) (hKP 1 S wu1 (by decide)) (fun _ h1 h2 => Below.trans h1 (Below.mono h2 (Below.size h1))) hC hS ?_
        replace hb := hb.trans (hC.mono hb.size)
        replace hk1 := blk_ext hk1 hC
        exact Runs.does (r_loadA (cs := [(.bool has), (.int .u32 a1), (.int .u32 a2), (.int .u32 a3), (.int .u32 a4), (.slice a L.length c)]) rfl Try.underlying37 rfl (by kernel_rfl) (cellsAt_blk hk1)) ⟨Below.refl _ _, rfl, nofr rfl⟩
      refine ⟨fun S wu2 hC hS hd hi => ?_, ?_⟩
      · skip
        replace hC : Below w4.heap.size w4 wu2 := hC
        refine uv_plain (C := fun _ wq => Below w4.heap.size w4 wq) (hKP 2 S wu2 (by decide)) (fun _ h1 h2 => Below.trans h1 (Below.mono h2 (Below.size h1))) hC hS ?_
        replace hb := hb.trans (hC.mono hb.size)
        replace hk1 := blk_ext hk1 hC
        exact Runs.does (r_loadA (cs := [(.bool has), (.int .u32 a1), (.int .u32 a2), (.int .u32 a3), (.int .u32 a4), (.slice a L.length c)]) rfl Try.underlying37 rfl (by kernel_rfl) (cellsAt_blk hk1)) ⟨Below.refl _ _, rfl, nofr rfl⟩
      refine ⟨fun S wu3 hC hS hd hi => ?_, ?_⟩
      · skip
        replace hC : Below w4.heap.size w4 wu3 := hC
        refine uv_plain (C := fun _ wq => Below w4.heap.size w4 wq) (hKP 3 S wu3 (by decide)) (fun _ h1 h2 => Below.trans h1 (Below.mono h2 (Below.size h1))) hC hS ?_
        replace hb := hb.trans (hC.mono hb.size)
        replace hk1 := blk_ext hk1 hC
        refine Does.mono (d_alloc (z := (.agg #[(.bool false), (.int .u32 (0 : Int)), (.int .u32 (0 : Int)), (.int .u32 (0 : Int)), (.int .u32 (0 : Int)), (.slice none 0 0)])) (cs := #[(.bool false), (.int .u32 (0 : Int)), (.int .u32 (0 : Int)), (.int .u32 (0 : Int)), (.int .u32 (0 : Int)), (.slice none 0 0)]) (by kernel_rfl) rfl) ?_
        rintro _ w' ⟨b, rfl, hF⟩
        exact ⟨hF.2.2, ⟨b, rfl, Nat.le_trans hC.size hF.1, fun _ => hF.2.1, fun hs => by rcases hs with e | hs; exact absurd e (by decide); exact absurd (hS.down 6 hs 3 (by decide)) hi⟩, isfr rfl hF.1 (blk_lt hF.2.1)⟩
      refine ⟨fun S wu4 hC hS hd hi => ?_, ?_⟩
      · skip
        replace hC : Below w4.heap.size w4 wu4 := hC
        refine uv_plain (C := fun _ wq => Below w4.heap.size w4 wq) (hKP 4 S wu4 (by decide)) (fun _ h1 h2 => Below.trans h1 (Below.mono h2 (Below.size h1))) hC hS ?_
        replace hb := hb.trans (hC.mono hb.size)
        replace hk1 := blk_ext hk1 hC
        refine Does.mono (d_alloc (z := (.agg #[(.bool false), (.int .u32 (0 : Int)), (.int .u32 (0 : Int)), (.int .u32 (0 : Int)), (.int .u32 (0 : Int)), (.slice none 0 0)])) (cs := #[(.bool false), (.int .u32 (0 : Int)), (.int .u32 (0 : Int)), (.int .u32 (0 : Int)), (.int .u32 (0 : Int)), (.slice none 0 0)]) (by kernel_rfl) rfl) ?_
        rintro _ w' ⟨b, rfl, hF⟩
        exact ⟨hF.2.2, ⟨b, rfl, Nat.le_trans hC.size hF.1, fun _ => hF.2.1, fun hs => by rcases hs with e | hs; exact absurd e (by decide); exact absurd (hS.down 7 hs 4 (by decide)) hi⟩, isfr rfl hF.1 (blk_lt hF.2.1)⟩
      refine ⟨fun S wu5 hC hS hd hi => ?_, ?_⟩
      · skip
        replace hC : Below w4.heap.size w4 wu5 := hC
        refine uv_plain (C := fun _ wq => Below w4.heap.size w4 wq) (hKP 5 S wu5 (by decide)) (fun _ h1 h2 => Below.trans h1 (Below.mono h2 (Below.size h1))) hC hS ?_
        replace hb := hb.trans (hC.mono hb.size)
        replace hk1 := blk_ext hk1 hC
        refine Does.mono (d_alloc (z := (.agg #[(.bool false), (.int .u32 (0 : Int)), (.int .u32 (0 : Int)), (.int .u32 (0 : Int)), (.int .u32 (0 : Int)), (.slice none 0 0)])) (cs := #[(.bool false), (.int .u32 (0 : Int)), (.int .u32 (0 : Int)), (.int .u32 (0 : Int)), (.int .u32 (0 : Int)), (.slice none 0 0)]) (by kernel_rfl) rfl) ?_
        rintro _ w' ⟨b, rfl, hF⟩
        exact ⟨hF.2.2, ⟨b, rfl, Nat.le_trans hC.size hF.1, fun _ => hF.2.1, fun hs => by rcases hs with e | hs; exact absurd e (by decide); exact absurd (hS.down 8 hs 5 (by decide)) hi⟩, isfr rfl hF.1 (blk_lt hF.2.1)⟩
      refine ⟨fun S wu6 hC hS hd hi => ?_, ?_⟩
      · skip
        replace hC : Below w4.heap.size w4 wu6 := hC
        have h0 := hS.post 0 (hd 0 (by decide))
        replace h0 : V 0 = (.agg #[(.bool has), (.int .u32 a1), (.int .u32 a2), (.int .u32 a3), (.int .u32 a4), (.slice a L.length c)]) := h0
        have h3 := hS.post 3 (hd 3 (by decide))
        obtain ⟨b2, h3, hle2, hk2z, hk2⟩ := h3
        replace hk2 := hk2z hi
        have h4 := hS.post 4 (hd 4 (by decide))
        obtain ⟨b3, h4, hle3, hk3z, hk3⟩ := h4
        replace hk3 := hk3z (fun h => hi (hS.down 7 h 6 (by decide)))
        have h5 := hS.post 5 (hd 5 (by decide))
        obtain ⟨b4, h5, hle4, hk4z, hk4⟩ := h5
        replace hk4 := hk4z (fun h => hi (hS.down 8 h 6 (by decide)))
        replace hb := hb.trans (hC.mono hb.size)
        replace hk1 := blk_ext hk1 hC
        refine Does.mono (R := fun _ wz => Wrote wu6 b2 #[(.bool has), (.int .u32 a1), (.int .u32 a2), (.int .u32 a3), (.int .u32 a4), (.slice a L.length c)] 37 wz) (d_storeK (T := 37) (v := (.agg #[(.bool has), (.int .u32 a1), (.int .u32 a2), (.int .u32 a3), (.int .u32 a4), (.slice a L.length c)])) (cs := #[(.bool false), (.int .u32 (0 : Int)), (.int .u32 (0 : Int)), (.int .u32 (0 : Int)), (.int .u32 (0 : Int)), (.slice none 0 0)]) (cs' := #[(.bool has), (.int .u32 a1), (.int .u32 a2), (.int .u32 a3), (.int .u32 a4), (.slice a L.length c)]) (congrArg some h3) (congrArg some h0) (by kernel_rfl) (by kernel_rfl) hk2 (by kernel_rfl) (by kernel_rfl)) ?_
        rintro _ wz ⟨hY, hgY⟩
        refine ⟨⟨hC.trans (grown_below hgY hC.size hle2), fun j hj => ?_, hgY.size⟩, trivial, nofr rfl⟩
        match j with
        | 0 =>
          exact hS.post 0 hj
        | 1 =>
          exact hS.post 1 hj
        | 2 =>
          exact hS.post 2 hj
        | 3 =>
          exact ⟨b2, h3, hle2, fun hn => absurd (.inl rfl) hn, fun _ => hY⟩
        | 4 =>
          obtain ⟨c, e1, e2, e3, e4⟩ := hS.post 4 hj
          have hne : c ≠ b2 := fun e => hS.ne 4 3 rfl rfl (by decide) hj (hd 3 (by decide)) (by rw [e1, h3, e] <;> rfl)
          exact ⟨c, e1, e2, fun hn => blk_grown (e3 (fun hs => hn (.inr hs))) hgY hne, fun hs => by rcases hs with e | hs; exact absurd e (by decide); exact blk_grown (e4 hs) hgY hne⟩
        | 5 =>
          obtain ⟨c, e1, e2, e3, e4⟩ := hS.post 5 hj
          have hne : c ≠ b2 := fun e => hS.ne 5 3 rfl rfl (by decide) hj (hd 3 (by decide)) (by rw [e1, h3, e] <;> rfl)
          exact ⟨c, e1, e2, fun hn => blk_grown (e3 (fun hs => hn (.inr hs))) hgY hne, fun hs => by rcases hs with e | hs; exact absurd e (by decide); exact blk_grown (e4 hs) hgY hne⟩
        | 6 =>
          trivial
        | 7 =>
          trivial
        | 8 =>
          trivial
        | _ + 9 => trivial
      refine ⟨fun S wu7 hC hS hd hi => ?_, ?_⟩
      · skip
        replace hC : Below w4.heap.size w4 wu7 := hC
        have h0 := hS.post 0 (hd 0 (by decide))
        replace h0 : V 0 = (.agg #[(.bool has), (.int .u32 a1), (.int .u32 a2), (.int .u32 a3), (.int .u32 a4), (.slice a L.length c)]) := h0
        have h1 := hS.post 1 (hd 1 (by decide))
        replace h1 : V 1 = (.agg #[(.bool has), (.int .u32 a1), (.int .u32 a2), (.int .u32 a3), (.int .u32 a4), (.slice a L.length c)]) := h1
        have h3 := hS.post 3 (hd 3 (by decide))
        obtain ⟨b2, h3, hle2, hk2z, hk2⟩ := h3
        replace hk2 := hk2 (hd 6 (by decide))
        have h4 := hS.post 4 (hd 4 (by decide))
        obtain ⟨b3, h4, hle3, hk3z, hk3⟩ := h4
        replace hk3 := hk3z hi
        have h5 := hS.post 5 (hd 5 (by decide))
        obtain ⟨b4, h5, hle4, hk4z, hk4⟩ := h5
        replace hk4 := hk4z (fun h => hi (hS.down 8 h 7 (by decide)))
        have h6 := hS.post 6 (hd 6 (by decide))
        replace hb := hb.trans (hC.mono hb.size)
        replace hk1 := blk_ext hk1 hC
        refine Does.mono (R := fun _ wz => Wrote wu7 b3 #[(.bool has), (.int .u32 a1), (.int .u32 a2), (.int .u32 a3), (.int .u32 a4), (.slice a L.length c)] 37 wz) (d_storeK (T := 37) (v := (.agg #[(.bool has), (.int .u32 a1), (.int .u32 a2), (.int .u32 a3), (.int .u32 a4), (.slice a L.length c)])) (cs := #[(.bool false), (.int .u32 (0 : Int)), (.int .u32 (0 : Int)), (.int .u32 (0 : Int)), (.int .u32 (0 : Int)), (.slice none 0 0)]) (cs' := #[(.bool has), (.int .u32 a1), (.int .u32 a2), (.int .u32 a3), (.int .u32 a4), (.slice a L.length c)]) (congrArg some h4) (congrArg some h1) (by kernel_rfl) (by kernel_rfl) hk3 (by kernel_rfl) (by kernel_rfl)) ?_
        rintro _ wz ⟨hY, hgY⟩
        refine ⟨⟨hC.trans (grown_below hgY hC.size hle3), fun j hj => ?_, hgY.size⟩, trivial, nofr rfl⟩
        match j with
        | 0 =>
          exact hS.post 0 hj
        | 1 =>
          exact hS.post 1 hj
        | 2 =>
          exact hS.post 2 hj
        | 3 =>
          obtain ⟨c, e1, e2, e3, e4⟩ := hS.post 3 hj
          have hne : c ≠ b3 := fun e => hS.ne 3 4 rfl rfl (by decide) hj (hd 4 (by decide)) (by rw [e1, h4, e] <;> rfl)
          exact ⟨c, e1, e2, fun hn => blk_grown (e3 (fun hs => hn (.inr hs))) hgY hne, fun hs => by rcases hs with e | hs; exact absurd e (by decide); exact blk_grown (e4 hs) hgY hne⟩
        | 4 =>
          exact ⟨b3, h4, hle3, fun hn => absurd (.inl rfl) hn, fun _ => hY⟩
        | 5 =>
          obtain ⟨c, e1, e2, e3, e4⟩ := hS.post 5 hj
          have hne : c ≠ b3 := fun e => hS.ne 5 4 rfl rfl (by decide) hj (hd 4 (by decide)) (by rw [e1, h4, e] <;> rfl)
          exact ⟨c, e1, e2, fun hn => blk_grown (e3 (fun hs => hn (.inr hs))) hgY hne, fun hs => by rcases hs with e | hs; exact absurd e (by decide); exact blk_grown (e4 hs) hgY hne⟩
        | 6 =>
          trivial
        | 7 =>
          trivial
        | 8 =>
          trivial
        | _ + 9 => trivial
      refine ⟨fun S wu8 hC hS hd hi => ?_, ?_⟩
      · skip
        replace hC : Below w4.heap.size w4 wu8 := hC
        have h0 := hS.post 0 (hd 0 (by decide))
        replace h0 : V 0 = (.agg #[(.bool has), (.int .u32 a1), (.int .u32 a2), (.int .u32 a3), (.int .u32 a4), (.slice a L.length c)]) := h0
        have h1 := hS.post 1 (hd 1 (by decide))
        replace h1 : V 1 = (.agg #[(.bool has), (.int .u32 a1), (.int .u32 a2), (.int .u32 a3), (.int .u32 a4), (.slice a L.length c)]) := h1
        have h2 := hS.post 2 (hd 2 (by decide))
        replace h2 : V 2 = (.agg #[(.bool has), (.int .u32 a1), (.int .u32 a2), (.int .u32 a3), (.int .u32 a4), (.slice a L.length c)]) := h2
        have h3 := hS.post 3 (hd 3 (by decide))
        obtain ⟨b2, h3, hle2, hk2z, hk2⟩ := h3
        replace hk2 := hk2 (hd 6 (by decide))
        have h4 := hS.post 4 (hd 4 (by decide))
        obtain ⟨b3, h4, hle3, hk3z, hk3⟩ := h4
        replace hk3 := hk3 (hd 7 (by decide))
        have h5 := hS.post 5 (hd 5 (by decide))
        obtain ⟨b4, h5, hle4, hk4z, hk4⟩ := h5
        replace hk4 := hk4z hi
        have h6 := hS.post 6 (hd 6 (by decide))
        have h7 := hS.post 7 (hd 7 (by decide))
        replace hb := hb.trans (hC.mono hb.size)
        replace hk1 := blk_ext hk1 hC
        refine Does.mono (R := fun _ wz => Wrote wu8 b4 #[(.bool has), (.int .u32 a1), (.int .u32 a2), (.int .u32 a3), (.int .u32 a4), (.slice a L.length c)] 37 wz) (d_storeK (T := 37) (v := (.agg #[(.bool has), (.int .u32 a1), (.int .u32 a2), (.int .u32 a3), (.int .u32 a4), (.slice a L.length c)])) (cs := #[(.bool false), (.int .u32 (0 : Int)), (.int .u32 (0 : Int)), (.int .u32 (0 : Int)), (.int .u32 (0 : Int)), (.slice none 0 0)]) (cs' := #[(.bool has), (.int .u32 a1), (.int .u32 a2), (.int .u32 a3), (.int .u32 a4), (.slice a L.length c)]) (congrArg some h5) (congrArg some h2) (by kernel_rfl) (by kernel_rfl) hk4 (by kernel_rfl) (by kernel_rfl)) ?_
        rintro _ wz ⟨hY, hgY⟩
        refine ⟨⟨hC.trans (grown_below hgY hC.size hle4), fun j hj => ?_, hgY.size⟩, trivial, nofr rfl⟩
        match j with
        | 0 =>
          exact hS.post 0 hj
        | 1 =>
          exact hS.post 1 hj
        | 2 =>
          exact hS.post 2 hj
        | 3 =>
          obtain ⟨c, e1, e2, e3, e4⟩ := hS.post 3 hj
          have hne : c ≠ b4 := fun e => hS.ne 3 5 rfl rfl (by decide) hj (hd 5 (by decide)) (by rw [e1, h5, e] <;> rfl)
          exact ⟨c, e1, e2, fun hn => blk_grown (e3 (fun hs => hn (.inr hs))) hgY hne, fun hs => by rcases hs with e | hs; exact absurd e (by decide); exact blk_grown (e4 hs) hgY hne⟩
        | 4 =>
          obtain ⟨c, e1, e2, e3, e4⟩ := hS.post 4 hj
          have hne : c ≠ b4 := fun e => hS.ne 4 5 rfl rfl (by decide) hj (hd 5 (by decide)) (by rw [e1, h5, e] <;> rfl)
          exact ⟨c, e1, e2, fun hn => blk_grown (e3 (fun hs => hn (.inr hs))) hgY hne, fun hs => by rcases hs with e | hs; exact absurd e (by decide); exact blk_grown (e4 hs) hgY hne⟩
        | 5 =>
          exact ⟨b4, h5, hle4, fun hn => absurd (.inl rfl) hn, fun _ => hY⟩
        | 6 =>
          trivial
        | 7 =>
          trivial
        | 8 =>
          trivial
        | _ + 9 => trivial
      trivial
    · skip
      clear hf fa; intro V S w5 fa hall he5 hp hnb hf
      have hv0 := postsHold_at hp 0 rfl
      replace hv0 : V 0 = (.agg #[(.bool has), (.int .u32 a1), (.int .u32 a2), (.int .u32 a3), (.int .u32 a4), (.slice a L.length c)]) := hv0
      have hv1 := postsHold_at hp 1 rfl
      replace hv1 : V 1 = (.agg #[(.bool has), (.int .u32 a1), (.int .u32 a2), (.int .u32 a3), (.int .u32 a4), (.slice a L.length c)]) := hv1
      have hv2 := postsHold_at hp 2 rfl
      replace hv2 : V 2 = (.agg #[(.bool has), (.int .u32 a1), (.int .u32 a2), (.int .u32 a3), (.int .u32 a4), (.slice a L.length c)]) := hv2
      have hv3 := postsHold_at hp 3 rfl
      obtain ⟨b2, hv3, hle2, hk2z, hk2⟩ := hv3
      have hBb2 : w.heap.size ≤ b2 := Nat.le_trans hb.size hle2
      replace hk2 := hk2 (hall 6 (show 6 < 9 by decide))
      clear hk2z
      have hv4 := postsHold_at hp 4 rfl
      obtain ⟨b3, hv4, hle3, hk3z, hk3⟩ := hv4
      have hBb3 : w.heap.size ≤ b3 := Nat.le_trans hb.size hle3
      replace hk3 := hk3 (hall 7 (show 7 < 9 by decide))
      clear hk3z
      have hv5 := postsHold_at hp 5 rfl
      obtain ⟨b4, hv5, hle4, hk4z, hk4⟩ := hv5
      have hBb4 : w.heap.size ≤ b4 := Nat.le_trans hb.size hle4
      replace hk4 := hk4 (hall 8 (show 8 < 9 by decide))
      clear hk4z
      simp only [List.take_succ_cons, List.take_zero, insAll, ins, hv0, hv1, hv2, hv3, hv4, hv5] at hf
      have : b2 ≠ b3 := two_blk (i := 3) (j := 4) hnb rfl rfl rfl rfl rfl (by rw [hv3]; rfl) (by rw [hv4]; rfl)
      have : b2 ≠ b4 := two_blk (i := 3) (j := 5) hnb rfl rfl rfl rfl rfl (by rw [hv3]; rfl) (by rw [hv5]; rfl)
      have : b3 ≠ b4 := two_blk (i := 4) (j := 5) hnb rfl rfl rfl rfl rfl (by rw [hv4]; rfl) (by rw [hv5]; rfl)
      have : b1 < b2 := Nat.lt_of_lt_of_le (blk_lt hk1) hle2
      have : b1 < b3 := Nat.lt_of_lt_of_le (blk_lt hk1) hle3
      have : b1 < b4 := Nat.lt_of_lt_of_le (blk_lt hk1) hle4
      clear hp hnb hall hv0 hv1 hv2 hv3 hv4 hv5
      replace hk1 := blk_ext hk1 he5
      replace hb := hb.trans (Below.mono he5 hb.size)
      (try simp only [Exit.then, Exit.inBlock, ↓reduceIte, Nat.reduceEqDiff])
      refine hK7 _ _ ?_
      refine wp_seq_k (fun K8 hK8 => ?_)
      refine wp_region_lit ?_
      refine sqv hf (r_move rfl) rfl rfl rfl ?_; clear hf fa; intro fa hf
      refine sqv hf (r_max rfl rfl) rfl rfl rfl ?_; clear hf fa; intro fa hf
      refine sqv hf (r_fa rfl Try.underlying37 (f := 2) (q := 2) rfl (by kernel_rfl) rfl) rfl rfl rfl ?_; clear hf fa; intro fa hf
      refine sqn hf (d_storeK (T := 37) (v := (.int .u32 (if most < (21 : Int) then (21 : Int) else most))) (cs := #[(.bool has), (.int .u32 a1), (.int .u32 a2), (.int .u32 a3), (.int .u32 a4), (.slice a L.length c)]) (cs' := #[(.bool has), (.int .u32 a1), (.int .u32 (if most < (21 : Int) then (21 : Int) else most)), (.int .u32 a3), (.int .u32 a4), (.slice a L.length c)]) rfl rfl (by kernel_rfl) (by kernel_rfl) hk3 (by kernel_rfl) (by kernel_rfl)) rfl rfl ?_; clear hf fa; rintro fa _ w6 ⟨hk5, hg1⟩ hf
      replace hk1 := blk_grown hk1 hg1 (by omega)
      replace hk2 := blk_grown hk2 hg1 (by omega)
      replace hk4 := blk_grown hk4 hg1 (by omega)
      replace hb := hb.trans (grown_below hg1 hb.size hBb3)
      apply wpList_nil
      (try simp only [Exit.then, Exit.inBlock, ↓reduceIte, Nat.reduceEqDiff])
      refine hK8 _ _ ?_
      refine wp_seq_k (fun K9 hK9 => ?_)
      refine wp_region_lit ?_
      refine sqv hf (r_fa rfl Try.underlying37 (f := 0) (q := 0) rfl (by kernel_rfl) rfl) rfl rfl rfl ?_; clear hf fa; intro fa hf
      refine sqn hf (d_storeK (T := 37) (v := (.bool false)) (cs := #[(.bool has), (.int .u32 a1), (.int .u32 a2), (.int .u32 a3), (.int .u32 a4), (.slice a L.length c)]) (cs' := #[(.bool false), (.int .u32 a1), (.int .u32 a2), (.int .u32 a3), (.int .u32 a4), (.slice a L.length c)]) rfl rfl (by kernel_rfl) (by kernel_rfl) hk4 (by kernel_rfl) (by kernel_rfl)) rfl rfl ?_; clear hf fa; rintro fa _ w7 ⟨hk6, hg2⟩ hf
      replace hk1 := blk_grown hk1 hg2 (by omega)
      replace hk2 := blk_grown hk2 hg2 (by omega)
      replace hk5 := blk_grown hk5 hg2 (by omega)
      replace hb := hb.trans (grown_below hg2 hb.size hBb4)
      apply wpList_nil
      (try simp only [Exit.then, Exit.inBlock, ↓reduceIte, Nat.reduceEqDiff])
      refine hK9 _ _ ?_
      refine wp_seq_k (fun K10 hK10 => ?_)
      refine wp_region_lit ?_
      refine sqv hf (r_move rfl) rfl rfl rfl ?_; clear hf fa; intro fa hf
      refine sqv hf (r_max rfl rfl) rfl rfl rfl ?_; clear hf fa; intro fa hf
      refine sqv hf (r_fa rfl Try.underlying37 (f := 1) (q := 1) rfl (by kernel_rfl) rfl) rfl rfl rfl ?_; clear hf fa; intro fa hf
      refine sqn hf (d_storeK (T := 37) (v := (.int .u32 (if most < (1 : Int) then (1 : Int) else most))) (cs := #[(.bool false), (.int .u32 a1), (.int .u32 a2), (.int .u32 a3), (.int .u32 a4), (.slice a L.length c)]) (cs' := #[(.bool false), (.int .u32 (if most < (1 : Int) then (1 : Int) else most)), (.int .u32 a2), (.int .u32 a3), (.int .u32 a4), (.slice a L.length c)]) rfl rfl (by kernel_rfl) (by kernel_rfl) hk6 (by kernel_rfl) (by kernel_rfl)) rfl rfl ?_; clear hf fa; rintro fa _ w8 ⟨hk7, hg3⟩ hf
      replace hk1 := blk_grown hk1 hg3 (by omega)
      replace hk2 := blk_grown hk2 hg3 (by omega)
      replace hk5 := blk_grown hk5 hg3 (by omega)
      replace hb := hb.trans (grown_below hg3 hb.size hBb4)
      apply wpList_nil
      (try simp only [Exit.then, Exit.inBlock, ↓reduceIte, Nat.reduceEqDiff])
      refine hK10 _ _ ?_
      refine wp_seq_k (fun K11 hK11 => ?_)
      refine wp_seq_k (fun K12 hK12 => ?_)
      refine wp_region_lit ?_
      refine sqv hf (r_fa rfl Try.underlying37 (f := 5) (q := 5) rfl (by kernel_rfl) rfl) rfl rfl rfl ?_; clear hf fa; intro fa hf
      refine sqv hf (r_load (v := (.slice a L.length c)) rfl Try.underlying33 rfl (cell_blk hk1 rfl)) rfl rfl rfl ?_; clear hf fa; intro fa hf
      refine sqv hf (r_lensl rfl Try.underlying33) rfl rfl rfl ?_; clear hf fa; intro fa hf
      refine sqv hf (r_gt rfl rfl) rfl rfl rfl ?_; clear hf fa; intro fa hf
      apply wpList_nil
      (try simp only [Exit.then, Exit.inBlock, ↓reduceIte, Nat.reduceEqDiff])
      refine hK12 _ _ ?_
      refine wp_cond_split (t := (decide ((0 : Int) < ((L.length : Nat) : Int)))) (hf.ev rfl) (fun hqt38_1 => ?_) (fun hqt38_1 => ?_)
      · have hqt38_1b := hqt38_1
        try simp only [decide_eq_true_eq, Bool.and_eq_true, Bool.or_eq_true, Bool.not_eq_true', decide_eq_false_iff_not, ne_eq, Bool.not_eq_true] at hqt38_1
        refine wp_seq_k (fun K13 hK13 => ?_)
        have hlp : 0 < L.length := by have h := hqt38_1; omega
        obtain ⟨z, hz⟩ : ∃ x, L[f % L.length]? = some x := ⟨_, List.getElem?_eq_getElem (Nat.mod_lt _ hlp)⟩
        have hmod := Nat.mod_lt f hlp
        have hy1 : (L)[(f % L.length)]? = some z := hz
        obtain ⟨ab1, aoff1, hat1, hlb1, hel1⟩ := RdS.at hl hy1
        refine wp_region_vnT 15 (fun _ wq => Below w8.heap.size w8 wq)
          (fun V S => [(fun x wq => ∃ b, x = .slice (some ⟨b, 0, none⟩) 0 0 ∧ w8.heap.size ≤ b ∧ (¬ S 3 → wq.heap[b]? = some (.cells #[] 9 (0, 0)))), (fun x _ => x = (.pointer (some ⟨b1, 5, none⟩))), (fun x _ => x = (.slice a L.length c)), (fun x wq => ∃ b, (∃ c, x = .slice (some ⟨b, 0, none⟩) ([] ++ L).length c) ∧ w8.heap.size ≤ b ∧ Row 1 vStr 9 w8.heap.size wq x ([] ++ L)), (fun x _ => x = (.pointer (some ⟨b1, 5, none⟩))), (fun x _ => x = (.slice a L.length c)), (fun x _ => x = (.int .u8 ((f : Nat) : Int))), (fun x _ => x = (.int .i64 ((f : Nat) : Int))), (fun x _ => x = (.pointer (some ⟨b1, 5, none⟩))), (fun x _ => x = (.slice a L.length c)), (fun x _ => x = (.int .i64 ((L.length : Nat) : Int))), (fun x _ => x = (.int .i64 (((f : Nat) : Int) % ((L.length : Nat) : Int)))), (fun x _ => x = (.pointer (some ⟨ab1, (aoff1 + (f % L.length) * 1), none⟩))), (fun x _ => x = (.string z)), (fun x wq => ∃ b, x = .slice (some ⟨b, 0, none⟩) 1 1 ∧ w8.heap.size ≤ b ∧ wq.heap[b]? = some (.cells #[(.string z)] 9 (0, 0)))])
          [0, 14]
          [[], [], [1], [0, 2], [], [4], [], [6], [], [8], [9], [7, 10], [5, 11], [12], [13], [], [], []]
          hf (by kernel_rfl) (by kernel_rfl) (by kernel_rfl) (fun _ _ => rfl) (fun _ _ => (Below.refl _ _).drew) (fun _ _ _ _ _ _ => rfl) ?_ ?_
        · skip
          intro V
          have hKP : ∀ (i : Nat) (S : Nat → Prop) (w : World), (∀ q ∈ ([3] : List Nat), q ≠ i) → ∀ j v w', (((fun (S : Nat → Prop) => ([(fun x wq => ∃ b, x = .slice (some ⟨b, 0, none⟩) 0 0 ∧ w8.heap.size ≤ b ∧ (¬ S 3 → wq.heap[b]? = some (.cells #[] 9 (0, 0)))), (fun x _ => x = (.pointer (some ⟨b1, 5, none⟩))), (fun x _ => x = (.slice a L.length c)), (fun x wq => ∃ b, (∃ c, x = .slice (some ⟨b, 0, none⟩) ([] ++ L).length c) ∧ w8.heap.size ≤ b ∧ Row 1 vStr 9 w8.heap.size wq x ([] ++ L)), (fun x _ => x = (.pointer (some ⟨b1, 5, none⟩))), (fun x _ => x = (.slice a L.length c)), (fun x _ => x = (.int .u8 ((f : Nat) : Int))), (fun x _ => x = (.int .i64 ((f : Nat) : Int))), (fun x _ => x = (.pointer (some ⟨b1, 5, none⟩))), (fun x _ => x = (.slice a L.length c)), (fun x _ => x = (.int .i64 ((L.length : Nat) : Int))), (fun x _ => x = (.int .i64 (((f : Nat) : Int) % ((L.length : Nat) : Int)))), (fun x _ => x = (.pointer (some ⟨ab1, (aoff1 + (f % L.length) * 1), none⟩))), (fun x _ => x = (.string z)), (fun x wq => ∃ b, x = .slice (some ⟨b, 0, none⟩) 1 1 ∧ w8.heap.size ≤ b ∧ wq.heap[b]? = some (.cells #[(.string z)] 9 (0, 0)))] : List (Value → World → Prop))) S).getD j (fun _ _ => True)) v w → Below w.heap.size w w' → (((fun (S : Nat → Prop) => ([(fun x wq => ∃ b, x = .slice (some ⟨b, 0, none⟩) 0 0 ∧ w8.heap.size ≤ b ∧ (¬ S 3 → wq.heap[b]? = some (.cells #[] 9 (0, 0)))), (fun x _ => x = (.pointer (some ⟨b1, 5, none⟩))), (fun x _ => x = (.slice a L.length c)), (fun x wq => ∃ b, (∃ c, x = .slice (some ⟨b, 0, none⟩) ([] ++ L).length c) ∧ w8.heap.size ≤ b ∧ Row 1 vStr 9 w8.heap.size wq x ([] ++ L)), (fun x _ => x = (.pointer (some ⟨b1, 5, none⟩))), (fun x _ => x = (.slice a L.length c)), (fun x _ => x = (.int .u8 ((f : Nat) : Int))), (fun x _ => x = (.int .i64 ((f : Nat) : Int))), (fun x _ => x = (.pointer (some ⟨b1, 5, none⟩))), (fun x _ => x = (.slice a L.length c)), (fun x _ => x = (.int .i64 ((L.length : Nat) : Int))), (fun x _ => x = (.int .i64 (((f : Nat) : Int) % ((L.length : Nat) : Int)))), (fun x _ => x = (.pointer (some ⟨ab1, (aoff1 + (f % L.length) * 1), none⟩))), (fun x _ => x = (.string z)), (fun x wq => ∃ b, x = .slice (some ⟨b, 0, none⟩) 1 1 ∧ w8.heap.size ≤ b ∧ wq.heap[b]? = some (.cells #[(.string z)] 9 (0, 0)))] : List (Value → World → Prop))) (ad i S)).getD j (fun _ _ => True)) v w' := by
            intro i S w hi j v w' h hB
            match j with
            | 0 =>
              obtain ⟨b, e1, e2, e3⟩ := h
              exact ⟨b, e1, e2, fun hn => blk_ext (e3 (fun hs => hn (.inr hs))) hB⟩
            | 1 =>
              exact h
            | 2 =>
              exact h
            | 3 =>
              obtain ⟨b, e1, e2, e3⟩ := h
              exact ⟨b, e1, e2, Row.ext e3 hB⟩
            | 4 =>
              exact h
            | 5 =>
              exact h
            | 6 =>
              exact h
            | 7 =>
              exact h
            | 8 =>
              exact h
            | 9 =>
              exact h
            | 10 =>
              exact h
            | 11 =>
              exact h
            | 12 =>
              exact h
            | 13 =>
              exact h
            | 14 =>
              obtain ⟨b, e1, e2, e3⟩ := h
              exact ⟨b, e1, e2, blk_ext e3 hB⟩
            | _ + 15 => trivial
          refine ⟨fun S wu0 hC hS hd hi => ?_, ?_⟩
          · skip
            replace hC : Below w8.heap.size w8 wu0 := hC
            refine uv_plain (C := fun _ wq => Below w8.heap.size w8 wq) (hKP 0 S wu0 (by decide)) (fun _ h1 h2 => Below.trans h1 (Below.mono h2 (Below.size h1))) hC hS ?_
            replace hb := hb.trans (hC.mono hb.size)
            replace hk1 := blk_ext hk1 hC
            replace hk2 := blk_ext hk2 hC
            replace hk5 := blk_ext hk5 hC
            replace hk7 := blk_ext hk7 hC
            refine Does.mono (d_bslice0 (sz := 1) Try.underlying33 (by kernel_rfl)) ?_
            rintro _ w' ⟨b, rfl, hF⟩
            exact ⟨hF.2.2, ⟨b, rfl, Nat.le_trans hC.size hF.1, fun _ => hF.2.1⟩, isfr rfl hF.1 (blk_lt hF.2.1)⟩
          refine ⟨fun S wu1 hC hS hd hi => ?_, ?_⟩
          · skip
            replace hC : Below w8.heap.size w8 wu1 := hC
            refine uv_plain (C := fun _ wq => Below w8.heap.size w8 wq) (hKP 1 S wu1 (by decide)) (fun _ h1 h2 => Below.trans h1 (Below.mono h2 (Below.size h1))) hC hS ?_
            replace hb := hb.trans (hC.mono hb.size)
            replace hk1 := blk_ext hk1 hC
            replace hk2 := blk_ext hk2 hC
            replace hk5 := blk_ext hk5 hC
            replace hk7 := blk_ext hk7 hC
            exact Runs.does (r_fa rfl Try.underlying37 (f := 5) (q := 5) rfl (by kernel_rfl) rfl) ⟨Below.refl _ _, rfl, nofr rfl⟩
          refine ⟨fun S wu2 hC hS hd hi => ?_, ?_⟩
          · skip
            replace hC : Below w8.heap.size w8 wu2 := hC
            refine uv_plain (C := fun _ wq => Below w8.heap.size w8 wq) (hKP 2 S wu2 (by decide)) (fun _ h1 h2 => Below.trans h1 (Below.mono h2 (Below.size h1))) hC hS ?_
            have h1 := hS.post 1 (hd 1 (by decide))
            replace h1 : V 1 = (.pointer (some ⟨b1, 5, none⟩)) := h1
            replace hb := hb.trans (hC.mono hb.size)
            replace hk1 := blk_ext hk1 hC
            replace hk2 := blk_ext hk2 hC
            replace hk5 := blk_ext hk5 hC
            replace hk7 := blk_ext hk7 hC
            exact Runs.does (r_load (v := (.slice a L.length c)) (congrArg some h1) Try.underlying33 rfl (cell_blk hk1 rfl)) ⟨Below.refl _ _, rfl, nofr rfl⟩
          refine ⟨fun S wu3 hC hS hd hi => ?_, ?_⟩
          · skip
            replace hC : Below w8.heap.size w8 wu3 := hC
            have h0 := hS.post 0 (hd 0 (by decide))
            obtain ⟨b5, h0, hle5, hk8⟩ := h0
            replace hk8 := hk8 hi
            have h2 := hS.post 2 (hd 2 (by decide))
            replace h2 : V 2 = (.slice a L.length c) := h2
            replace hb := hb.trans (hC.mono hb.size)
            replace hk1 := blk_ext hk1 hC
            replace hk2 := blk_ext hk2 hC
            replace hk5 := blk_ext hk5 hC
            replace hk7 := blk_ext hk7 hC
            have hrA := Row.of_new (k := 1) (V := vStr) (l := []) (base := w8.heap.size) hk8 hle5 rfl rfl (Nat.le_of_ble_eq_true rfl)
            refine Does.mono (d_append (V := vStr) (k := 1) (e := 9) (bytes := 16) (z := (.string ⟨#[]⟩)) (news := L) (base := w8.heap.size) (by intros; rfl) (by intro x u hu; simp only [vStr, List.mem_singleton] at hu; subst hu; rfl) (congrArg some h0) (congrArg some h2) Try.underlying33 (by kernel_rfl) rfl rfl rfl hrA (RdS.ext hl hb) (by omega) (by assumption) (by first | omega | (simp only [List.length_cons, List.length_nil, List.length_append, nums_len, List.length_replicate]; omega)) hC.size) ?_
            rintro v' wz ⟨hY, hgY⟩
            obtain ⟨ra, rc, rfl, _, _⟩ := Row.slice hY
            obtain ⟨br, rfl, hbr, _⟩ := Row.some hY (by first | omega | (simp only [Sl.list_length, List.length_set, List.length_take, List.length_append, List.length_replicate, List.length_cons, List.length_nil, List.length_map, List.length_replicate, nums_len]; omega))
            refine ⟨⟨hC.trans (row_below hrA hgY hC.size (Nat.le_refl _)), fun j hj => ?_, hgY.size⟩, ⟨br, ⟨rc, rfl⟩, hbr, hY⟩, nofr rfl⟩
            match j with
            | 0 =>
              exact ⟨b5, h0, hle5, fun hn => absurd (.inl rfl) hn⟩
            | 1 =>
              exact hS.post 1 hj
            | 2 =>
              exact hS.post 2 hj
            | 3 =>
              exact absurd hj hi
            | 4 =>
              exact hS.post 4 hj
            | 5 =>
              exact hS.post 5 hj
            | 6 =>
              exact hS.post 6 hj
            | 7 =>
              exact hS.post 7 hj
            | 8 =>
              exact hS.post 8 hj
            | 9 =>
              exact hS.post 9 hj
            | 10 =>
              exact hS.post 10 hj
            | 11 =>
              exact hS.post 11 hj
            | 12 =>
              exact hS.post 12 hj
            | 13 =>
              exact hS.post 13 hj
            | 14 =>
              obtain ⟨c, e1, e2, e3⟩ := hS.post 14 hj
              have hne : c ≠ b5 := fun e => hS.ne 14 0 rfl rfl (by decide) hj (hd 0 (by decide)) (by rw [e1, h0, e] <;> rfl)
              exact ⟨c, e1, e2, blk_grown e3 hgY hne⟩
            | _ + 15 => trivial
          refine ⟨fun S wu4 hC hS hd hi => ?_, ?_⟩
          · skip
            replace hC : Below w8.heap.size w8 wu4 := hC
            refine uv_plain (C := fun _ wq => Below w8.heap.size w8 wq) (hKP 4 S wu4 (by decide)) (fun _ h1 h2 => Below.trans h1 (Below.mono h2 (Below.size h1))) hC hS ?_
            replace hb := hb.trans (hC.mono hb.size)
            replace hk1 := blk_ext hk1 hC
            replace hk2 := blk_ext hk2 hC
            replace hk5 := blk_ext hk5 hC
            replace hk7 := blk_ext hk7 hC
            exact Runs.does (r_fa rfl Try.underlying37 (f := 5) (q := 5) rfl (by kernel_rfl) rfl) ⟨Below.refl _ _, rfl, nofr rfl⟩
          refine ⟨fun S wu5 hC hS hd hi => ?_, ?_⟩
          · skip
            replace hC : Below w8.heap.size w8 wu5 := hC
            refine uv_plain (C := fun _ wq => Below w8.heap.size w8 wq) (hKP 5 S wu5 (by decide)) (fun _ h1 h2 => Below.trans h1 (Below.mono h2 (Below.size h1))) hC hS ?_
            have h4 := hS.post 4 (hd 4 (by decide))
            replace h4 : V 4 = (.pointer (some ⟨b1, 5, none⟩)) := h4
            replace hb := hb.trans (hC.mono hb.size)
            replace hk1 := blk_ext hk1 hC
            replace hk2 := blk_ext hk2 hC
            replace hk5 := blk_ext hk5 hC
            replace hk7 := blk_ext hk7 hC
            exact Runs.does (r_load (v := (.slice a L.length c)) (congrArg some h4) Try.underlying33 rfl (cell_blk hk1 rfl)) ⟨Below.refl _ _, rfl, nofr rfl⟩
          refine ⟨fun S wu6 hC hS hd hi => ?_, ?_⟩
          · skip
            replace hC : Below w8.heap.size w8 wu6 := hC
            refine uv_plain (C := fun _ wq => Below w8.heap.size w8 wq) (hKP 6 S wu6 (by decide)) (fun _ h1 h2 => Below.trans h1 (Below.mono h2 (Below.size h1))) hC hS ?_
            replace hb := hb.trans (hC.mono hb.size)
            replace hk1 := blk_ext hk1 hC
            replace hk2 := blk_ext hk2 hC
            replace hk5 := blk_ext hk5 hC
            replace hk7 := blk_ext hk7 hC
            exact Runs.does (r_move rfl) ⟨Below.refl _ _, rfl, nofr rfl⟩
          refine ⟨fun S wu7 hC hS hd hi => ?_, ?_⟩
          · skip
            replace hC : Below w8.heap.size w8 wu7 := hC
            refine uv_plain (C := fun _ wq => Below w8.heap.size w8 wq) (hKP 7 S wu7 (by decide)) (fun _ h1 h2 => Below.trans h1 (Below.mono h2 (Below.size h1))) hC hS ?_
            have h6 := hS.post 6 (hd 6 (by decide))
            replace h6 : V 6 = (.int .u8 ((f : Nat) : Int)) := h6
            replace hb := hb.trans (hC.mono hb.size)
            replace hk1 := blk_ext hk1 hC
            replace hk2 := blk_ext hk2 hC
            replace hk5 := blk_ext hk5 hC
            replace hk7 := blk_ext hk7 hC
            exact Runs.does (r_conv (C := ((f : Nat) : Int)) (congrArg some h6) Try.underlying5 Try.underlying3 (by rw [IntKind.wrap_i64]; omega)) ⟨Below.refl _ _, rfl, nofr rfl⟩
          refine ⟨fun S wu8 hC hS hd hi => ?_, ?_⟩
          · skip
            replace hC : Below w8.heap.size w8 wu8 := hC
            refine uv_plain (C := fun _ wq => Below w8.heap.size w8 wq) (hKP 8 S wu8 (by decide)) (fun _ h1 h2 => Below.trans h1 (Below.mono h2 (Below.size h1))) hC hS ?_
            replace hb := hb.trans (hC.mono hb.size)
            replace hk1 := blk_ext hk1 hC
            replace hk2 := blk_ext hk2 hC
            replace hk5 := blk_ext hk5 hC
            replace hk7 := blk_ext hk7 hC
            exact Runs.does (r_fa rfl Try.underlying37 (f := 5) (q := 5) rfl (by kernel_rfl) rfl) ⟨Below.refl _ _, rfl, nofr rfl⟩
          refine ⟨fun S wu9 hC hS hd hi => ?_, ?_⟩
          · skip
            replace hC : Below w8.heap.size w8 wu9 := hC
            refine uv_plain (C := fun _ wq => Below w8.heap.size w8 wq) (hKP 9 S wu9 (by decide)) (fun _ h1 h2 => Below.trans h1 (Below.mono h2 (Below.size h1))) hC hS ?_
            have h8 := hS.post 8 (hd 8 (by decide))
            replace h8 : V 8 = (.pointer (some ⟨b1, 5, none⟩)) := h8
            replace hb := hb.trans (hC.mono hb.size)
            replace hk1 := blk_ext hk1 hC
            replace hk2 := blk_ext hk2 hC
            replace hk5 := blk_ext hk5 hC
            replace hk7 := blk_ext hk7 hC
            exact Runs.does (r_load (v := (.slice a L.length c)) (congrArg some h8) Try.underlying33 rfl (cell_blk hk1 rfl)) ⟨Below.refl _ _, rfl, nofr rfl⟩
          refine ⟨fun S wu10 hC hS hd hi => ?_, ?_⟩
          · skip
            replace hC : Below w8.heap.size w8 wu10 := hC
            refine uv_plain (C := fun _ wq => Below w8.heap.size w8 wq) (hKP 10 S wu10 (by decide)) (fun _ h1 h2 => Below.trans h1 (Below.mono h2 (Below.size h1))) hC hS ?_
            have h9 := hS.post 9 (hd 9 (by decide))
            replace h9 : V 9 = (.slice a L.length c) := h9
            replace hb := hb.trans (hC.mono hb.size)
            replace hk1 := blk_ext hk1 hC
            replace hk2 := blk_ext hk2 hC
            replace hk5 := blk_ext hk5 hC
            replace hk7 := blk_ext hk7 hC
            exact Runs.does (r_lensl (congrArg some h9) Try.underlying33) ⟨Below.refl _ _, rfl, nofr rfl⟩
          refine ⟨fun S wu11 hC hS hd hi => ?_, ?_⟩
          · skip
            replace hC : Below w8.heap.size w8 wu11 := hC
            refine uv_plain (C := fun _ wq => Below w8.heap.size w8 wq) (hKP 11 S wu11 (by decide)) (fun _ h1 h2 => Below.trans h1 (Below.mono h2 (Below.size h1))) hC hS ?_
            have h7 := hS.post 7 (hd 7 (by decide))
            replace h7 : V 7 = (.int .i64 ((f : Nat) : Int)) := h7
            have h10 := hS.post 10 (hd 10 (by decide))
            replace h10 : V 10 = (.int .i64 ((L.length : Nat) : Int)) := h10
            replace hb := hb.trans (hC.mono hb.size)
            replace hk1 := blk_ext hk1 hC
            replace hk2 := blk_ext hk2 hC
            replace hk5 := blk_ext hk5 hC
            replace hk7 := blk_ext hk7 hC
            exact Runs.does (r_rem (C := (((f : Nat) : Int) % ((L.length : Nat) : Int))) (congrArg some h7) (congrArg some h10) (by omega) (Int.tmod_eq_emod_of_nonneg (by omega))) ⟨Below.refl _ _, rfl, nofr rfl⟩
          refine ⟨fun S wu12 hC hS hd hi => ?_, ?_⟩
          · skip
            replace hC : Below w8.heap.size w8 wu12 := hC
            refine uv_plain (C := fun _ wq => Below w8.heap.size w8 wq) (hKP 12 S wu12 (by decide)) (fun _ h1 h2 => Below.trans h1 (Below.mono h2 (Below.size h1))) hC hS ?_
            have h5 := hS.post 5 (hd 5 (by decide))
            replace h5 : V 5 = (.slice a L.length c) := h5
            have h11 := hS.post 11 (hd 11 (by decide))
            replace h11 : V 11 = (.int .i64 (((f : Nat) : Int) % ((L.length : Nat) : Int))) := h11
            replace hb := hb.trans (hC.mono hb.size)
            replace hk1 := blk_ext hk1 hC
            replace hk2 := blk_ext hk2 hC
            replace hk5 := blk_ext hk5 hC
            replace hk7 := blk_ext hk7 hC
            exact Runs.does (r_ixa (sz := 1) (j := (f % L.length)) (evAt (congrArg some h5) hat1) (congrArg some h11) Try.underlying33 (by kernel_rfl) (by omega) (by omega) rfl) ⟨Below.refl _ _, rfl, nofr rfl⟩
          refine ⟨fun S wu13 hC hS hd hi => ?_, ?_⟩
          · skip
            replace hC : Below w8.heap.size w8 wu13 := hC
            refine uv_plain (C := fun _ wq => Below w8.heap.size w8 wq) (hKP 13 S wu13 (by decide)) (fun _ h1 h2 => Below.trans h1 (Below.mono h2 (Below.size h1))) hC hS ?_
            have h12 := hS.post 12 (hd 12 (by decide))
            replace h12 : V 12 = (.pointer (some ⟨ab1, (aoff1 + (f % L.length) * 1), none⟩)) := h12
            replace hb := hb.trans (hC.mono hb.size)
            replace hk1 := blk_ext hk1 hC
            replace hk2 := blk_ext hk2 hC
            replace hk5 := blk_ext hk5 hC
            replace hk7 := blk_ext hk7 hC
            exact Runs.does (r_load (v := (.string z)) (congrArg some h12) Try.underlying9 rfl (cellsAt_cell (cellsAt_below hel1 hb hlb1) (i := 0) rfl rfl)) ⟨Below.refl _ _, rfl, nofr rfl⟩
          refine ⟨fun S wu14 hC hS hd hi => ?_, ?_⟩
          · skip
            replace hC : Below w8.heap.size w8 wu14 := hC
            refine uv_plain (C := fun _ wq => Below w8.heap.size w8 wq) (hKP 14 S wu14 (by decide)) (fun _ h1 h2 => Below.trans h1 (Below.mono h2 (Below.size h1))) hC hS ?_
            have h13 := hS.post 13 (hd 13 (by decide))
            replace h13 : V 13 = (.string z) := h13
            replace hb := hb.trans (hC.mono hb.size)
            replace hk1 := blk_ext hk1 hC
            replace hk2 := blk_ext hk2 hC
            replace hk5 := blk_ext hk5 hC
            replace hk7 := blk_ext hk7 hC
            refine Does.mono (d_bslice (z := (.string ⟨#[]⟩)) (sz := 1) (vs := [(0, (.string z))]) (cs := #[(.string z)]) (show [(0, some (V 13))] = [(0, some (.string z))] from by rw [h13]) Try.underlying33 (by kernel_rfl) rfl (by kernel_rfl)) ?_
            rintro _ w' ⟨b, rfl, hF⟩
            exact ⟨hF.2.2, ⟨b, rfl, Nat.le_trans hC.size hF.1, hF.2.1⟩, isfr rfl hF.1 (blk_lt hF.2.1)⟩
          trivial
        · skip
          clear hf fa; intro V S w9 fa hall he6 hp hnb hf
          have hv0 := postsHold_at hp 0 rfl
          obtain ⟨b5, hv0, hle5, hk8⟩ := hv0
          clear hk8
          have hBb5 : w.heap.size ≤ b5 := Nat.le_trans hb.size hle5
          have hv1 := postsHold_at hp 1 rfl
          replace hv1 : V 1 = (.pointer (some ⟨b1, 5, none⟩)) := hv1
          have hv2 := postsHold_at hp 2 rfl
          replace hv2 : V 2 = (.slice a L.length c) := hv2
          have hv3 := postsHold_at hp 3 rfl
          obtain ⟨mb1, ⟨mc1, hv3⟩, hle6, hr1⟩ := hv3
          rw [hv3] at hr1
          replace hr1 := Row.rebase hr1 hb.size
          have hcmc1 := Row.caps hr1
          have hBmb1 : w.heap.size ≤ mb1 := Nat.le_trans hb.size hle6
          have hv4 := postsHold_at hp 4 rfl
          replace hv4 : V 4 = (.pointer (some ⟨b1, 5, none⟩)) := hv4
          have hv5 := postsHold_at hp 5 rfl
          replace hv5 : V 5 = (.slice a L.length c) := hv5
          have hv6 := postsHold_at hp 6 rfl
          replace hv6 : V 6 = (.int .u8 ((f : Nat) : Int)) := hv6
          have hv7 := postsHold_at hp 7 rfl
          replace hv7 : V 7 = (.int .i64 ((f : Nat) : Int)) := hv7
          have hv8 := postsHold_at hp 8 rfl
          replace hv8 : V 8 = (.pointer (some ⟨b1, 5, none⟩)) := hv8
          have hv9 := postsHold_at hp 9 rfl
          replace hv9 : V 9 = (.slice a L.length c) := hv9
          have hv10 := postsHold_at hp 10 rfl
          replace hv10 : V 10 = (.int .i64 ((L.length : Nat) : Int)) := hv10
          have hv11 := postsHold_at hp 11 rfl
          replace hv11 : V 11 = (.int .i64 (((f : Nat) : Int) % ((L.length : Nat) : Int))) := hv11
          have hv12 := postsHold_at hp 12 rfl
          replace hv12 : V 12 = (.pointer (some ⟨ab1, (aoff1 + (f % L.length) * 1), none⟩)) := hv12
          have hv13 := postsHold_at hp 13 rfl
          replace hv13 : V 13 = (.string z) := hv13
          have hv14 := postsHold_at hp 14 rfl
          obtain ⟨b6, hv14, hle7, hk9⟩ := hv14
          have hBb6 : w.heap.size ≤ b6 := Nat.le_trans hb.size hle7
          simp only [List.take_succ_cons, List.take_zero, insAll, ins, hv0, hv1, hv2, hv3, hv4, hv5, hv6, hv7, hv8, hv9, hv10, hv11, hv12, hv13, hv14] at hf
          have : b5 ≠ b6 := two_blk (i := 0) (j := 14) hnb rfl rfl rfl rfl rfl (by rw [hv0]; rfl) (by rw [hv14]; rfl)
          have : b1 < b5 := Nat.lt_of_lt_of_le (blk_lt hk1) hle5
          have : b1 < b6 := Nat.lt_of_lt_of_le (blk_lt hk1) hle7
          have : b2 < b5 := Nat.lt_of_lt_of_le (blk_lt hk2) hle5
          have : b2 < b6 := Nat.lt_of_lt_of_le (blk_lt hk2) hle7
          have : b3 < b5 := Nat.lt_of_lt_of_le (blk_lt hk5) hle5
          have : b3 < b6 := Nat.lt_of_lt_of_le (blk_lt hk5) hle7
          have : b4 < b5 := Nat.lt_of_lt_of_le (blk_lt hk7) hle5
          have : b4 < b6 := Nat.lt_of_lt_of_le (blk_lt hk7) hle7
          clear hp hnb hall hv0 hv1 hv2 hv3 hv4 hv5 hv6 hv7 hv8 hv9 hv10 hv11 hv12 hv13 hv14
          replace hk1 := blk_ext hk1 he6
          replace hk2 := blk_ext hk2 he6
          replace hk5 := blk_ext hk5 he6
          replace hk7 := blk_ext hk7 he6
          replace hb := hb.trans (Below.mono he6 hb.size)
          simp only [List.drop_succ_cons, List.drop_zero]
          have hs1 := Row.rd (by intros; rfl) (Row.of_new (k := 1) (V := vStr) (l := [z]) hk9 (Nat.le_refl _) rfl rfl (Nat.le_of_ble_eq_true rfl))
          refine sqdt hf (d_append (V := vStr) (k := 1) (e := 9) (bytes := 16) (z := (.string ⟨#[]⟩)) (news := [z]) (base := w.heap.size) (by intros; rfl) (by intro x u hu; simp only [vStr, List.mem_singleton] at hu; subst hu; rfl) rfl rfl Try.underlying33 (by kernel_rfl) rfl rfl rfl hr1 hs1 rfl (fun h => by cases h) (by first | omega | (simp only [List.length_cons, List.length_nil, List.length_append, nums_len, List.length_replicate]; omega)) (by have := hb.size; omega)) rfl rfl rfl ?_; clear hf fa; rintro fa v w10 ⟨hr2, hg4⟩ hf; obtain ⟨ra1, rc1, rfl, hcrc1, hmrc1⟩ := Row.slice hr2
          replace hk1 := blk_row' hk1 hg4 (Row.ne_type hr1 hk1 rfl)
          replace hk2 := blk_row' hk2 hg4 (Row.ne_type hr1 hk2 rfl)
          replace hk5 := blk_row' hk5 hg4 (Row.ne_type hr1 hk5 rfl)
          replace hk7 := blk_row' hk7 hg4 (Row.ne_type hr1 hk7 rfl)
          replace hb := hb.trans (row_below hr1 hg4 hb.size (by have := hb.size; omega))
          refine sqv hf (r_fa rfl Try.underlying37 (f := 5) (q := 5) rfl (by kernel_rfl) rfl) rfl rfl rfl ?_; clear hf fa; intro fa hf
          refine sqn hf (d_storeK (T := 37) (v := (.slice ra1 (((([] ++ L) ++ [z])).length) rc1)) (cs := #[(.bool has), (.int .u32 a1), (.int .u32 a2), (.int .u32 a3), (.int .u32 a4), (.slice a L.length c)]) (cs' := #[(.bool has), (.int .u32 a1), (.int .u32 a2), (.int .u32 a3), (.int .u32 a4), (.slice ra1 (((([] ++ L) ++ [z])).length) rc1)]) rfl rfl (by kernel_rfl) (by kernel_rfl) hk2 (by kernel_rfl) (by kernel_rfl)) rfl rfl ?_; clear hf fa; rintro fa _ w11 ⟨hk10, hg5⟩ hf
          replace hk1 := blk_grown hk1 hg5 (by omega)
          replace hk5 := blk_grown hk5 hg5 (by omega)
          replace hk7 := blk_grown hk7 hg5 (by omega)
          replace hr2 := Row.grown hr2 hg5 (Row.ne_type hr2 hk2 rfl)
          replace hb := hb.trans (grown_below hg5 hb.size hBb2)
          apply wpList_nil
          (try simp only [Exit.then, Exit.inBlock, ↓reduceIte, Nat.reduceEqDiff])
          refine hK13 _ _ ?_
          refine wp_seq_k (fun K14 hK14 => ?_)
          refine wp_region_lit ?_
          refine sqv hf (r_loadA (cs := [(.bool has), (.int .u32 a1), (.int .u32 a2), (.int .u32 a3), (.int .u32 a4), (.slice ra1 (((([] ++ L) ++ [z])).length) rc1)]) rfl Try.underlying37 rfl (by kernel_rfl) (cellsAt_blk hk10)) rfl rfl rfl ?_; clear hf fa; intro fa hf
          refine sqdt hf (d_callB (v := (.int .i64 (27 : Int))) (vs := [(.agg #[(.bool has), (.int .u32 a1), (.int .u32 a2), (.int .u32 a3), (.int .u32 a4), (.slice ra1 (((([] ++ L) ++ [z])).length) rc1)])]) rfl Try.func25 (by kernel_rfl) (by kernel_rfl) (by have h := dright_any has a1 a2 a3 a4 ra1 (([] ++ L) ++ [z]) rc1 _ (Row.rd (by intros; rfl) hr2) (by simp only [List.length_append, List.length_cons, List.length_nil]; omega) (by have := Row.caps hr2; omega) (few_big27 hfw hz); rwa [dr_27 hhas hfw hdr hz] at h)) rfl rfl rfl ?_; clear hf fa; rintro fa _ w12 ⟨rfl, he7⟩ hf
          replace hk1 := blk_ext hk1 he7
          replace hk10 := blk_ext hk10 he7
          replace hk5 := blk_ext hk5 he7
          replace hk7 := blk_ext hk7 he7
          replace hr2 := Row.ext hr2 he7
          replace hb := hb.trans (Below.mono he7 hb.size)
          refine sqv hf (r_ne rfl rfl) rfl rfl rfl ?_; clear hf fa; intro fa hf
          apply wpList_nil
          (try simp only [Exit.then, Exit.inBlock, ↓reduceIte, Nat.reduceEqDiff])
          refine hK14 _ _ ?_
          refine wp_cond_false ((hf.ev rfl).trans (congrArg Value.bool (show (decide ((27 : Int) ≠ (27 : Int))) = false from rfl))) ?_
          refine wp_skip ?_
          (try simp only [Exit.then, Exit.inBlock, ↓reduceIte, Nat.reduceEqDiff])
          refine hK11 _ _ ?_
          refine wp_seq_k (fun K15 hK15 => ?_)
          refine wp_region_lit ?_
          refine sqv hf (r_loadA (cs := [(.bool has), (.int .u32 a1), (.int .u32 (if most < (21 : Int) then (21 : Int) else most)), (.int .u32 a3), (.int .u32 a4), (.slice a L.length c)]) rfl Try.underlying37 rfl (by kernel_rfl) (cellsAt_blk hk5)) rfl rfl rfl ?_; clear hf fa; intro fa hf
          refine sqdt hf (d_callB (v := (.int .i64 (25 : Int))) (vs := [(.agg #[(.bool has), (.int .u32 a1), (.int .u32 (if most < (21 : Int) then (21 : Int) else most)), (.int .u32 a3), (.int .u32 a4), (.slice a L.length c)])]) rfl Try.func25 (by kernel_rfl) (by kernel_rfl) (by have h := dright_any has a1 (if most < (21 : Int) then (21 : Int) else most) a3 a4 a L c _ (RdS.ext hl hb) (by omega) hcp (few_big hfw); rwa [dr_25 hhas (by split <;> omega)] at h)) rfl rfl rfl ?_; clear hf fa; rintro fa _ w13 ⟨rfl, he8⟩ hf
          replace hk1 := blk_ext hk1 he8
          replace hk10 := blk_ext hk10 he8
          replace hk5 := blk_ext hk5 he8
          replace hk7 := blk_ext hk7 he8
          replace hr2 := Row.ext hr2 he8
          replace hb := hb.trans (Below.mono he8 hb.size)
          refine sqv hf (Runs.veq (r_eq rfl rfl) (congrArg Value.bool (show _ = true from rfl))) rfl rfl rfl ?_; clear hf fa; intro fa hf
          refine sqv hf (r_move rfl) rfl rfl rfl ?_; clear hf fa; intro fa hf
          refine sqgd (act := true) (g := 3) (want := true) (ag := true) (c := true) hf (by rfl) (by rfl) rfl (fun _ =>  Runs.does (R := fun vq wq => vq = (.agg #[(.bool false), (.int .u32 (if most < (1 : Int) then (1 : Int) else most)), (.int .u32 a2), (.int .u32 a3), (.int .u32 a4), (.slice a L.length c)]) ∧ w13 = wq) (r_loadA (cs := [(.bool false), (.int .u32 (if most < (1 : Int) then (1 : Int) else most)), (.int .u32 a2), (.int .u32 a3), (.int .u32 a4), (.slice a L.length c)]) rfl Try.underlying37 rfl (by kernel_rfl) (cellsAt_blk hk7)) ⟨rfl, rfl⟩) (fun h => by cases h) rfl ?_; clear hf fa; rintro fa _ _ ⟨rfl, rfl⟩ hf
          change Fr _ _ ((63, (.agg #[(.bool false), (.int .u32 (if most < (1 : Int) then (1 : Int) else most)), (.int .u32 a2), (.int .u32 a3), (.int .u32 a4), (.slice a L.length c)])) :: _) at hf
          refine sqgd (act := true) (g := 3) (want := true) (ag := true) (c := true) hf (by rfl) (by rfl) rfl (fun _ =>  (d_callB (v := (.int .i64 (15 : Int))) (vs := [(.agg #[(.bool false), (.int .u32 (if most < (1 : Int) then (1 : Int) else most)), (.int .u32 a2), (.int .u32 a3), (.int .u32 a4), (.slice a L.length c)])]) rfl Try.func25 (by kernel_rfl) (by kernel_rfl) (by have h := dright_any false (if most < (1 : Int) then (1 : Int) else most) a2 a3 a4 a L c _ (RdS.ext hl hb) (by omega) hcp (few_big hfw); rwa [dr_15 (by split <;> omega) (by split <;> omega) ha2 ha3 ha4] at h)) ) (fun h => by cases h) rfl ?_; clear hf fa; rintro fa _ w14 ⟨rfl, he9⟩ hf
          replace hk1 := blk_ext hk1 he9
          replace hk10 := blk_ext hk10 he9
          replace hk5 := blk_ext hk5 he9
          replace hk7 := blk_ext hk7 he9
          replace hr2 := Row.ext hr2 he9
          replace hb := hb.trans (Below.mono he9 hb.size)
          change Fr _ _ ((64, (.int .i64 (15 : Int))) :: _) at hf
          refine sqgd (act := true) (g := 3) (want := true) (ag := true) (c := true) hf (by rfl) (by rfl) rfl (fun _ =>  Runs.does (R := fun vq wq => vq = (.bool true) ∧ w14 = wq) (Runs.veq (r_eq rfl rfl) (congrArg Value.bool (show _ = true from rfl))) ⟨rfl, rfl⟩) (fun h => by cases h) rfl ?_; clear hf fa; rintro fa _ _ ⟨rfl, rfl⟩ hf
          change Fr _ _ ((65, (.bool true)) :: _) at hf
          refine sqv hf (r_pick (b := true) rfl rfl rfl rfl) rfl rfl rfl ?_; clear hf fa; intro fa hf
          refine sqv hf (r_assign rfl) rfl rfl rfl ?_; clear hf fa; intro fa hf
          apply wpList_nil
          (try simp only [Exit.then, Exit.inBlock, ↓reduceIte, Nat.reduceEqDiff])
          refine hK15 _ _ ?_
          refine wp_ret ?_
          (try simp only [Exit.then, Exit.inBlock])
          refine ret1 hf rfl rfl ?_
          exact ⟨rfl, hb⟩
      · have hqt38_1b := hqt38_1
        replace hqt38_1 := Bool.eq_false_iff.1 hqt38_1
        try simp only [ne_eq, decide_eq_true_eq, Bool.and_eq_true, Bool.or_eq_true, Bool.not_eq_true', decide_eq_false_iff_not] at hqt38_1
        refine wp_skip ?_
        (try simp only [Exit.then, Exit.inBlock, ↓reduceIte, Nat.reduceEqDiff])
        refine hK11 _ _ ?_
        refine wp_seq_k (fun K16 hK16 => ?_)
        refine wp_region_lit ?_
        refine sqv hf (r_loadA (cs := [(.bool has), (.int .u32 a1), (.int .u32 (if most < (21 : Int) then (21 : Int) else most)), (.int .u32 a3), (.int .u32 a4), (.slice a L.length c)]) rfl Try.underlying37 rfl (by kernel_rfl) (cellsAt_blk hk5)) rfl rfl rfl ?_; clear hf fa; intro fa hf
        refine sqdt hf (d_callB (v := (.int .i64 (25 : Int))) (vs := [(.agg #[(.bool has), (.int .u32 a1), (.int .u32 (if most < (21 : Int) then (21 : Int) else most)), (.int .u32 a3), (.int .u32 a4), (.slice a L.length c)])]) rfl Try.func25 (by kernel_rfl) (by kernel_rfl) (by have h := dright_any has a1 (if most < (21 : Int) then (21 : Int) else most) a3 a4 a L c _ (RdS.ext hl hb) (by omega) hcp (few_big hfw); rwa [dr_25 hhas (by split <;> omega)] at h)) rfl rfl rfl ?_; clear hf fa; rintro fa _ w15 ⟨rfl, he10⟩ hf
        replace hk1 := blk_ext hk1 he10
        replace hk2 := blk_ext hk2 he10
        replace hk5 := blk_ext hk5 he10
        replace hk7 := blk_ext hk7 he10
        replace hb := hb.trans (Below.mono he10 hb.size)
        refine sqv hf (Runs.veq (r_eq rfl rfl) (congrArg Value.bool (show _ = true from rfl))) rfl rfl rfl ?_; clear hf fa; intro fa hf
        refine sqv hf (r_move rfl) rfl rfl rfl ?_; clear hf fa; intro fa hf
        refine sqgd (act := true) (g := 3) (want := true) (ag := true) (c := true) hf (by rfl) (by rfl) rfl (fun _ =>  Runs.does (R := fun vq wq => vq = (.agg #[(.bool false), (.int .u32 (if most < (1 : Int) then (1 : Int) else most)), (.int .u32 a2), (.int .u32 a3), (.int .u32 a4), (.slice a L.length c)]) ∧ w15 = wq) (r_loadA (cs := [(.bool false), (.int .u32 (if most < (1 : Int) then (1 : Int) else most)), (.int .u32 a2), (.int .u32 a3), (.int .u32 a4), (.slice a L.length c)]) rfl Try.underlying37 rfl (by kernel_rfl) (cellsAt_blk hk7)) ⟨rfl, rfl⟩) (fun h => by cases h) rfl ?_; clear hf fa; rintro fa _ _ ⟨rfl, rfl⟩ hf
        change Fr _ _ ((63, (.agg #[(.bool false), (.int .u32 (if most < (1 : Int) then (1 : Int) else most)), (.int .u32 a2), (.int .u32 a3), (.int .u32 a4), (.slice a L.length c)])) :: _) at hf
        refine sqgd (act := true) (g := 3) (want := true) (ag := true) (c := true) hf (by rfl) (by rfl) rfl (fun _ =>  (d_callB (v := (.int .i64 (15 : Int))) (vs := [(.agg #[(.bool false), (.int .u32 (if most < (1 : Int) then (1 : Int) else most)), (.int .u32 a2), (.int .u32 a3), (.int .u32 a4), (.slice a L.length c)])]) rfl Try.func25 (by kernel_rfl) (by kernel_rfl) (by have h := dright_any false (if most < (1 : Int) then (1 : Int) else most) a2 a3 a4 a L c _ (RdS.ext hl hb) (by omega) hcp (few_big hfw); rwa [dr_15 (by split <;> omega) (by split <;> omega) ha2 ha3 ha4] at h)) ) (fun h => by cases h) rfl ?_; clear hf fa; rintro fa _ w16 ⟨rfl, he11⟩ hf
        replace hk1 := blk_ext hk1 he11
        replace hk2 := blk_ext hk2 he11
        replace hk5 := blk_ext hk5 he11
        replace hk7 := blk_ext hk7 he11
        replace hb := hb.trans (Below.mono he11 hb.size)
        change Fr _ _ ((64, (.int .i64 (15 : Int))) :: _) at hf
        refine sqgd (act := true) (g := 3) (want := true) (ag := true) (c := true) hf (by rfl) (by rfl) rfl (fun _ =>  Runs.does (R := fun vq wq => vq = (.bool true) ∧ w16 = wq) (Runs.veq (r_eq rfl rfl) (congrArg Value.bool (show _ = true from rfl))) ⟨rfl, rfl⟩) (fun h => by cases h) rfl ?_; clear hf fa; rintro fa _ _ ⟨rfl, rfl⟩ hf
        change Fr _ _ ((65, (.bool true)) :: _) at hf
        refine sqv hf (r_pick (b := true) rfl rfl rfl rfl) rfl rfl rfl ?_; clear hf fa; intro fa hf
        refine sqv hf (r_assign rfl) rfl rfl rfl ?_; clear hf fa; intro fa hf
        apply wpList_nil
        (try simp only [Exit.then, Exit.inBlock, ↓reduceIte, Nat.reduceEqDiff])
        refine hK16 _ _ ?_
        refine wp_ret ?_
        (try simp only [Exit.then, Exit.inBlock])
        refine ret1 hf rfl rfl ?_
        exact ⟨rfl, hb⟩
end Go.Proofs.Ytcmdajkkdognfaa
