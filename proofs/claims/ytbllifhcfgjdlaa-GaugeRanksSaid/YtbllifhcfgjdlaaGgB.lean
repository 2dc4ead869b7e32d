/- What is proved here: the sort of floats by insertion. -/
import Derived.Test.YtbllifhcfgjdlaaGgS
namespace Go.Proofs.Ytbllifhcfgjdlaa
open Go.RowKit
set_option linter.unusedVariables false
set_option linter.unusedSimpArgs false
set_option maxHeartbeats 1000000 in
set_option maxRecDepth 100000 in
theorem ins_any (b c : Nat) (l : List Nat) (p q : Nat) (hq : q ≤ l.length) (hl : l.length ≤ 4611686018427387903) (hpl : p ≤ l.length) (w0 w : World) (hb : Below w0.heap.size w0 w) (hR : Row 1 vFlt 22 w0.heap.size w (.slice (some ⟨b, 0, none⟩) l.length c) l) (hW : allW l) : Calls Try.prog 38 #[(.slice (some ⟨b, 0, none⟩) l.length c), (.int .i64 ((p : Nat) : Int)), (.int .i64 ((q : Nat) : Int)), (.func (.func 9) #[] #[])] w fun e w' => e = .returned (.tuple #[]) ∧ Row 1 vFlt 22 w0.heap.size w' (.slice (some ⟨b, 0, none⟩) l.length c) (isort p q l) ∧ Below w0.heap.size w0 w' := by
  refine sx_enter (L := [(0, (.slice (some ⟨b, 0, none⟩) l.length c)), (1, (.int .i64 ((p : Nat) : Int))), (2, (.int .i64 ((q : Nat) : Int))), (3, (.func (.func 9) #[] #[]))]) Try.func38 rfl rfl rfl rfl (fun fa hf => ?_)
  refine wp_seq_k (fun K1 hK1 => ?_)
  refine wp_region_lit ?_
  refine sqv hf (r_move rfl) rfl rfl rfl ?_; clear hf fa; intro fa hf
  refine sqv hf (r_add (C := (((p : Nat) : Int) + (1 : Int))) rfl rfl (by rw [IntKind.wrap_i64]; omega)) rfl rfl rfl ?_; clear hf fa; intro fa hf
  refine sqv hf (r_assign rfl) rfl rfl rfl ?_; clear hf fa; intro fa hf
  apply wpList_nil
  (try simp only [Exit.then, Exit.inBlock, ↓reduceIte, Nat.reduceEqDiff])
  refine hK1 _ _ ?_
  refine wp_block ?_
  refine wp_loop_k (fun mq fa wr => ∃ (i : Nat) (m : List Nat), mq = q - i ∧ Fr 53 fa [(0, (.slice (some ⟨b, 0, none⟩) l.length c)), (1, (.int .i64 ((p : Nat) : Int))), (2, (.int .i64 ((q : Nat) : Int))), (3, (.func (.func 9) #[] #[])), (8, (.int .i64 ((i : Nat) : Int)))] ∧ Below w0.heap.size w0 wr ∧ Row 1 vFlt 22 (w0.heap.size) wr (.slice (some ⟨b, 0, none⟩) (l.length) c) m ∧ (p + 1 ≤ i) ∧ (m.length = l.length) ∧ (allW m) ∧ (insR p (q - i) i m = isort p q l)) ?_ ?_
  · skip
    exact ⟨_, (p + 1), l, rfl, hf.sub ⟨rfl, rfl, rfl, rfl, (some_int (by first | rfl | omega)), trivial⟩, hb, hR, (by omega), rfl, hW, rfl⟩
  · skip
    clear hf fa; intro mq1 fa w1 hI KL1 hKL1
    clear hb
    clear hR
    obtain ⟨i, m, hmq1, hf, hb, hr, hi, hm, hw, hs⟩ := hI
    have hcr := Row.caps hr
    refine wp_seq_k (fun K2 hK2 => ?_)
    refine wp_seq_k (fun K3 hK3 => ?_)
    refine wp_region_lit ?_
    refine sqv hf (r_move rfl) rfl rfl rfl ?_; clear hf fa; intro fa hf
    refine sqv hf (r_move rfl) rfl rfl rfl ?_; clear hf fa; intro fa hf
    refine sqv hf (r_lt rfl rfl) rfl rfl rfl ?_; clear hf fa; intro fa hf
    apply wpList_nil
    (try simp only [Exit.then, Exit.inBlock, ↓reduceIte, Nat.reduceEqDiff])
    refine hK3 _ _ ?_
    refine wp_cond_split (t := (decide (((i : Nat) : Int) < ((q : Nat) : Int)))) (hf.ev rfl) (fun hqt14_1 => ?_) (fun hqt14_1 => ?_)
    · have hqt14_1b := hqt14_1
      try simp only [decide_eq_true_eq, Bool.and_eq_true, Bool.or_eq_true, Bool.not_eq_true', decide_eq_false_iff_not, ne_eq, Bool.not_eq_true] at hqt14_1
      refine wp_skip ?_
      (try simp only [Exit.then, Exit.inBlock, ↓reduceIte, Nat.reduceEqDiff])
      refine hK2 _ _ ?_
      refine wp_seq_k (fun K4 hK4 => ?_)
      refine wp_block ?_
      refine wp_seq_k (fun K5 hK5 => ?_)
      refine wp_region_lit ?_
      refine sqv hf (r_move rfl) rfl rfl rfl ?_; clear hf fa; intro fa hf
      refine sqv hf (r_assign rfl) rfl rfl rfl ?_; clear hf fa; intro fa hf
      apply wpList_nil
      (try simp only [Exit.then, Exit.inBlock, ↓reduceIte, Nat.reduceEqDiff])
      refine hK5 _ _ ?_
      refine wp_block ?_
      refine wp_loop_k (fun mq fa wr => ∃ (j : Nat) (m2 : List Nat), mq = j ∧ Fr 53 fa [(0, (.slice (some ⟨b, 0, none⟩) l.length c)), (1, (.int .i64 ((p : Nat) : Int))), (2, (.int .i64 ((q : Nat) : Int))), (3, (.func (.func 9) #[] #[])), (8, (.int .i64 ((i : Nat) : Int))), (9, (.int .i64 ((j : Nat) : Int)))] ∧ Below w0.heap.size w0 wr ∧ Row 1 vFlt 22 (w0.heap.size) wr (.slice (some ⟨b, 0, none⟩) (l.length) c) m2 ∧ (j < l.length) ∧ (m2.length = l.length) ∧ (allW m2) ∧ (insL p j m2 = insL p i m)) ?_ ?_
      · skip
        exact ⟨_, i, m, rfl, hf.sub ⟨rfl, rfl, rfl, rfl, rfl, rfl, trivial⟩, hb, hr, (by omega), hm, hw, rfl⟩
      · skip
        clear hf fa; intro mq2 fa w2 hI KL2 hKL2
        clear hb
        clear hr
        obtain ⟨j, m2, hmq2, hf, hb, hr, hj, hm2, hw2, hs2⟩ := hI
        have hcr := Row.caps hr
        refine wp_seq_k (fun K6 hK6 => ?_)
        refine wp_seq_k (fun K7 hK7 => ?_)
        by_cases hsp1 : p < j
        · have hsp1b : decide (p < j) = true := decide_eq_true hsp1
          have hy1 := getD_at (l := m2) (j := j) 0 (by first | omega | (simp only [Sl.list_length, List.length_set, List.length_take, List.length_append, List.length_replicate, List.length_cons, List.length_nil, List.length_map, nums_len]; omega))
          have hel1 := RdS.at (Row.rd (by intros; rfl) hr) hy1
          obtain ⟨_, _, hab, hlr1, hel1⟩ := hel1
          cases hab
          have hy2 := getD_at (l := m2) (j := (j - 1)) 0 (by first | omega | (simp only [Sl.list_length, List.length_set, List.length_take, List.length_append, List.length_replicate, List.length_cons, List.length_nil, List.length_map, nums_len]; omega))
          have hel2 := RdS.at (Row.rd (by intros; rfl) hr) hy2
          obtain ⟨_, _, hab, hlr2, hel2⟩ := hel2
          cases hab
          refine wp_region_un (fun wq => Below w2.heap.size w2 wq) (fun w w' => Below w.heap.size w w')
            (fun V => [(fun x _ => x = (.int .i64 ((j : Nat) : Int))), (fun x _ => x = (.int .i64 ((p : Nat) : Int))), (fun x _ => x = (.bool true)), (fun x _ => x = (.bool true)), (fun x _ => x = (.func (.func 9) #[] #[])), (fun x _ => x = (.slice (some ⟨b, 0, none⟩) l.length c)), (fun x _ => x = (.int .i64 ((j : Nat) : Int))), (fun x _ => x = (.pointer (some ⟨b, (0 + j * 1), none⟩))), (fun x _ => x = (.float .f64 (m2.getD j 0))), (fun x _ => x = (.slice (some ⟨b, 0, none⟩) l.length c)), (fun x _ => x = (.int .i64 ((j : Nat) : Int))), (fun x _ => x = (.int .i64 (((j : Nat) : Int) - (1 : Int)))), (fun x _ => x = (.pointer (some ⟨b, (0 + (j - 1) * 1), none⟩))), (fun x _ => x = (.float .f64 (m2.getD (j - 1) 0))), (fun x _ => x = (.int .i64 (ordN (m2.getD j 0) (m2.getD (j - 1) 0)))), (fun x _ => x = (.bool (decide ((ordN (m2.getD j 0) (m2.getD (j - 1) 0)) < (0 : Int))))), (fun x _ => x = (.bool (decide ((ordN (m2.getD j 0) (m2.getD (j - 1) 0)) < (0 : Int)))))])
            []
            [[], [], [0, 1], [2], [3], [3], [3], [3, 5, 6], [3, 7], [3], [3], [3, 10], [3, 9, 11], [3, 12], [3, 4, 8, 13], [3, 14], [3, 15]]
            hf (by kernel_rfl) (by kernel_rfl) (fun _ => rfl) ((Below.refl _ _).drew) (fun a b h1 h2 => h1.trans (h2.mono h1.size)) (fun _ _ h => h.size) (fun V => ⟨kept_eq, kept_eq, kept_eq, kept_eq, kept_eq, kept_eq, kept_eq, kept_eq, kept_eq, kept_eq, kept_eq, kept_eq, kept_eq, kept_eq, kept_eq, kept_eq, kept_eq, trivial⟩) (fun _ _ _ _ _ => rfl) ?_ ?_
          · skip
            intro V
            refine ⟨fun wu0 hC hd => ?_, ?_⟩
            · clear hd
              replace hb := hb.trans (hC.mono hb.size)
              replace hr := Row.ext hr hC
              exact Runs.does (r_move rfl) ⟨Below.refl _ _, rfl, nofr rfl⟩
            refine ⟨fun wu1 hC hd => ?_, ?_⟩
            · clear hd
              replace hb := hb.trans (hC.mono hb.size)
              replace hr := Row.ext hr hC
              exact Runs.does (r_move rfl) ⟨Below.refl _ _, rfl, nofr rfl⟩
            refine ⟨fun wu2 hC hd => ?_, ?_⟩
            · obtain ⟨h0, h1, _⟩ := hd
              skip
              skip
              replace h0 : V 0 = (.int .i64 ((j : Nat) : Int)) := h0
              replace h1 : V 1 = (.int .i64 ((p : Nat) : Int)) := h1
              replace hb := hb.trans (hC.mono hb.size)
              replace hr := Row.ext hr hC
              exact Runs.does (Runs.veq (r_gt (congrArg some h0) (congrArg some h1)) (congrArg Value.bool (show _ = true from (decide_eq_true (by omega))))) ⟨Below.refl _ _, rfl, nofr rfl⟩
            refine ⟨fun wu3 hC hd => ?_, ?_⟩
            · obtain ⟨h2, _⟩ := hd
              skip
              replace h2 : V 2 = (.bool true) := h2
              replace hb := hb.trans (hC.mono hb.size)
              replace hr := Row.ext hr hC
              exact Runs.does (r_move (congrArg some h2)) ⟨Below.refl _ _, rfl, nofr rfl⟩
            refine ⟨fun wu4 hC hd => ?_, ?_⟩
            · obtain ⟨h3, _⟩ := hd
              skip
              replace h3 : V 3 = (.bool true) := h3
              replace hb := hb.trans (hC.mono hb.size)
              replace hr := Row.ext hr hC
              refine ⟨true, true, congrArg some h3, fun hact => ?_, fun hact => ?_⟩
              · exact Runs.does (r_move rfl) ⟨Below.refl _ _, rfl, nofr rfl⟩
              · exfalso; simp at hact
            refine ⟨fun wu5 hC hd => ?_, ?_⟩
            · obtain ⟨h3, _⟩ := hd
              skip
              replace h3 : V 3 = (.bool true) := h3
              replace hb := hb.trans (hC.mono hb.size)
              replace hr := Row.ext hr hC
              refine ⟨true, true, congrArg some h3, fun hact => ?_, fun hact => ?_⟩
              · exact Runs.does (r_move rfl) ⟨Below.refl _ _, rfl, nofr rfl⟩
              · exfalso; simp at hact
            refine ⟨fun wu6 hC hd => ?_, ?_⟩
            · obtain ⟨h3, _⟩ := hd
              skip
              replace h3 : V 3 = (.bool true) := h3
              replace hb := hb.trans (hC.mono hb.size)
              replace hr := Row.ext hr hC
              refine ⟨true, true, congrArg some h3, fun hact => ?_, fun hact => ?_⟩
              · exact Runs.does (r_move rfl) ⟨Below.refl _ _, rfl, nofr rfl⟩
              · exfalso; simp at hact
            refine ⟨fun wu7 hC hd => ?_, ?_⟩
            · obtain ⟨h3, h5, h6, _⟩ := hd
              skip
              skip
              skip
              replace h3 : V 3 = (.bool true) := h3
              replace h5 : V 5 = (.slice (some ⟨b, 0, none⟩) l.length c) := h5
              replace h6 : V 6 = (.int .i64 ((j : Nat) : Int)) := h6
              replace hb := hb.trans (hC.mono hb.size)
              replace hr := Row.ext hr hC
              refine ⟨true, true, congrArg some h3, fun hact => ?_, fun hact => ?_⟩
              · exact Runs.does (r_ixa (sz := 1) (j := j) (congrArg some h5) (congrArg some h6) Try.underlying30 (by kernel_rfl) rfl (by omega) rfl) ⟨Below.refl _ _, rfl, nofr rfl⟩
              · exfalso; simp at hact
            refine ⟨fun wu8 hC hd => ?_, ?_⟩
            · obtain ⟨h3, h7, _⟩ := hd
              skip
              skip
              replace h3 : V 3 = (.bool true) := h3
              replace h7 : V 7 = (.pointer (some ⟨b, (0 + j * 1), none⟩)) := h7
              replace hb := hb.trans (hC.mono hb.size)
              replace hr := Row.ext hr hC
              refine ⟨true, true, congrArg some h3, fun hact => ?_, fun hact => ?_⟩
              · exact Runs.does (r_load (v := (.float .f64 (m2.getD j 0))) (congrArg some h7) Try.underlying22 rfl (cellsAt_cell (cellsAt_below hel1 hC hlr1) (i := 0) rfl rfl)) ⟨Below.refl _ _, rfl, nofr rfl⟩
              · exfalso; simp at hact
            refine ⟨fun wu9 hC hd => ?_, ?_⟩
            · obtain ⟨h3, _⟩ := hd
              skip
              replace h3 : V 3 = (.bool true) := h3
              replace hb := hb.trans (hC.mono hb.size)
              replace hr := Row.ext hr hC
              refine ⟨true, true, congrArg some h3, fun hact => ?_, fun hact => ?_⟩
              · exact Runs.does (r_move rfl) ⟨Below.refl _ _, rfl, nofr rfl⟩
              · exfalso; simp at hact
            refine ⟨fun wu10 hC hd => ?_, ?_⟩
            · obtain ⟨h3, _⟩ := hd
              skip
              replace h3 : V 3 = (.bool true) := h3
              replace hb := hb.trans (hC.mono hb.size)
              replace hr := Row.ext hr hC
              refine ⟨true, true, congrArg some h3, fun hact => ?_, fun hact => ?_⟩
              · exact Runs.does (r_move rfl) ⟨Below.refl _ _, rfl, nofr rfl⟩
              · exfalso; simp at hact
            refine ⟨fun wu11 hC hd => ?_, ?_⟩
            · obtain ⟨h3, h10, _⟩ := hd
              skip
              skip
              replace h3 : V 3 = (.bool true) := h3
              replace h10 : V 10 = (.int .i64 ((j : Nat) : Int)) := h10
              replace hb := hb.trans (hC.mono hb.size)
              replace hr := Row.ext hr hC
              refine ⟨true, true, congrArg some h3, fun hact => ?_, fun hact => ?_⟩
              · exact Runs.does (r_sub (C := (((j : Nat) : Int) - (1 : Int))) (congrArg some h10) rfl (by rw [IntKind.wrap_i64]; omega)) ⟨Below.refl _ _, rfl, nofr rfl⟩
              · exfalso; simp at hact
            refine ⟨fun wu12 hC hd => ?_, ?_⟩
            · obtain ⟨h3, h9, h11, _⟩ := hd
              skip
              skip
              skip
              replace h3 : V 3 = (.bool true) := h3
              replace h9 : V 9 = (.slice (some ⟨b, 0, none⟩) l.length c) := h9
              replace h11 : V 11 = (.int .i64 (((j : Nat) : Int) - (1 : Int))) := h11
              replace hb := hb.trans (hC.mono hb.size)
              replace hr := Row.ext hr hC
              refine ⟨true, true, congrArg some h3, fun hact => ?_, fun hact => ?_⟩
              · exact Runs.does (r_ixa (sz := 1) (j := (j - 1)) (congrArg some h9) (congrArg some h11) Try.underlying30 (by kernel_rfl) (by omega) (by omega) rfl) ⟨Below.refl _ _, rfl, nofr rfl⟩
              · exfalso; simp at hact
            refine ⟨fun wu13 hC hd => ?_, ?_⟩
            · obtain ⟨h3, h12, _⟩ := hd
              skip
              skip
              replace h3 : V 3 = (.bool true) := h3
              replace h12 : V 12 = (.pointer (some ⟨b, (0 + (j - 1) * 1), none⟩)) := h12
              replace hb := hb.trans (hC.mono hb.size)
              replace hr := Row.ext hr hC
              refine ⟨true, true, congrArg some h3, fun hact => ?_, fun hact => ?_⟩
              · exact Runs.does (r_load (v := (.float .f64 (m2.getD (j - 1) 0))) (congrArg some h12) Try.underlying22 rfl (cellsAt_cell (cellsAt_below hel2 hC hlr2) (i := 0) rfl rfl)) ⟨Below.refl _ _, rfl, nofr rfl⟩
              · exfalso; simp at hact
            refine ⟨fun wu14 hC hd => ?_, ?_⟩
            · obtain ⟨h3, h4, h8, h13, _⟩ := hd
              skip
              skip
              skip
              skip
              replace h3 : V 3 = (.bool true) := h3
              replace h4 : V 4 = (.func (.func 9) #[] #[]) := h4
              replace h8 : V 8 = (.float .f64 (m2.getD j 0)) := h8
              replace h13 : V 13 = (.float .f64 (m2.getD (j - 1) 0)) := h13
              replace hb := hb.trans (hC.mono hb.size)
              replace hr := Row.ext hr hC
              refine ⟨true, true, congrArg some h3, fun hact => ?_, fun hact => ?_⟩
              · refine Does.mono (d_callFB (vs := [(.float .f64 (m2.getD j 0)), (.float .f64 (m2.getD (j - 1) 0))]) (congrArg some h4) (show [some (V 8), some (V 13)] = [some (.float .f64 (m2.getD j 0)), some (.float .f64 (m2.getD (j - 1) 0))] from by rw [h8, h13]) (enters Try.func9 (by kernel_rfl) (by kernel_rfl)) (order_any (m2.getD j 0) (m2.getD (j - 1) 0) (allW_getD hw2 _) (allW_getD hw2 _) _)) (fun _ _ h => ⟨h.2, h.1, nofr rfl⟩)
              · exfalso; simp at hact
            refine ⟨fun wu15 hC hd => ?_, ?_⟩
            · obtain ⟨h3, h14, _⟩ := hd
              skip
              skip
              replace h3 : V 3 = (.bool true) := h3
              replace h14 : V 14 = (.int .i64 (ordN (m2.getD j 0) (m2.getD (j - 1) 0))) := h14
              replace hb := hb.trans (hC.mono hb.size)
              replace hr := Row.ext hr hC
              refine ⟨true, true, congrArg some h3, fun hact => ?_, fun hact => ?_⟩
              · exact Runs.does (r_lt (congrArg some h14) rfl) ⟨Below.refl _ _, rfl, nofr rfl⟩
              · exfalso; simp at hact
            refine ⟨fun wu16 hC hd => ?_, ?_⟩
            · obtain ⟨h3, h15, _⟩ := hd
              skip
              skip
              replace h3 : V 3 = (.bool true) := h3
              replace h15 : V 15 = (.bool (decide ((ordN (m2.getD j 0) (m2.getD (j - 1) 0)) < (0 : Int)))) := h15
              replace hb := hb.trans (hC.mono hb.size)
              replace hr := Row.ext hr hC
              exact Runs.does (r_pick (b := true) (congrArg some h3) (congrArg some h15) rfl rfl) ⟨Below.refl _ _, rfl, nofr rfl⟩
            trivial
          · skip
            clear hf fa; intro V w3 fa he1 hp hnb hf
            have hv0 : V 0 = (.int .i64 ((j : Nat) : Int)) := postsHold_at hp 0 rfl
            have hv1 : V 1 = (.int .i64 ((p : Nat) : Int)) := postsHold_at hp 1 rfl
            have hv2 : V 2 = (.bool true) := postsHold_at hp 2 rfl
            have hv3 : V 3 = (.bool true) := postsHold_at hp 3 rfl
            have hv4 : V 4 = (.func (.func 9) #[] #[]) := postsHold_at hp 4 rfl
            have hv5 : V 5 = (.slice (some ⟨b, 0, none⟩) l.length c) := postsHold_at hp 5 rfl
            have hv6 : V 6 = (.int .i64 ((j : Nat) : Int)) := postsHold_at hp 6 rfl
            have hv7 : V 7 = (.pointer (some ⟨b, (0 + j * 1), none⟩)) := postsHold_at hp 7 rfl
            have hv8 : V 8 = (.float .f64 (m2.getD j 0)) := postsHold_at hp 8 rfl
            have hv9 : V 9 = (.slice (some ⟨b, 0, none⟩) l.length c) := postsHold_at hp 9 rfl
            have hv10 : V 10 = (.int .i64 ((j : Nat) : Int)) := postsHold_at hp 10 rfl
            have hv11 : V 11 = (.int .i64 (((j : Nat) : Int) - (1 : Int))) := postsHold_at hp 11 rfl
            have hv12 : V 12 = (.pointer (some ⟨b, (0 + (j - 1) * 1), none⟩)) := postsHold_at hp 12 rfl
            have hv13 : V 13 = (.float .f64 (m2.getD (j - 1) 0)) := postsHold_at hp 13 rfl
            have hv14 : V 14 = (.int .i64 (ordN (m2.getD j 0) (m2.getD (j - 1) 0))) := postsHold_at hp 14 rfl
            have hv15 : V 15 = (.bool (decide ((ordN (m2.getD j 0) (m2.getD (j - 1) 0)) < (0 : Int)))) := postsHold_at hp 15 rfl
            have hv16 : V 16 = (.bool (decide ((ordN (m2.getD j 0) (m2.getD (j - 1) 0)) < (0 : Int)))) := postsHold_at hp 16 rfl
            simp only [List.take_succ_cons, List.take_zero, insAll, ins, hv0, hv1, hv2, hv3, hv4, hv5, hv6, hv7, hv8, hv9, hv10, hv11, hv12, hv13, hv14, hv15, hv16] at hf
            clear hp hnb hv0 hv1 hv2 hv3 hv4 hv5 hv6 hv7 hv8 hv9 hv10 hv11 hv12 hv13 hv14 hv15 hv16
            replace hr := Row.ext hr he1
            replace hb := hb.trans (Below.mono he1 hb.size)
            (try simp only [Exit.then, Exit.inBlock, ↓reduceIte, Nat.reduceEqDiff])
            refine hK7 _ _ ?_
            refine wp_cond_split (t := (decide ((ordN (m2.getD j 0) (m2.getD (j - 1) 0)) < (0 : Int)))) (hf.ev rfl) (fun hqt34_1 => ?_) (fun hqt34_1 => ?_)
            · have hqt34_1b := hqt34_1
              try simp only [decide_eq_true_eq, Bool.and_eq_true, Bool.or_eq_true, Bool.not_eq_true', decide_eq_false_iff_not, ne_eq, Bool.not_eq_true] at hqt34_1
              refine wp_skip ?_
              (try simp only [Exit.then, Exit.inBlock, ↓reduceIte, Nat.reduceEqDiff])
              refine hK6 _ _ ?_
              refine wp_seq_k (fun K8 hK8 => ?_)
              refine wp_block ?_
              have hy3 := getD_at (l := m2) (j := (j - 1)) 0 (by first | omega | (simp only [Sl.list_length, List.length_set, List.length_take, List.length_append, List.length_replicate, List.length_cons, List.length_nil, List.length_map, nums_len]; omega))
              have hel3 := RdS.at (Row.rd (by intros; rfl) hr) hy3
              obtain ⟨_, _, hab, hlr3, hel3⟩ := hel3
              cases hab
              have hy4 := getD_at (l := m2) (j := j) 0 (by first | omega | (simp only [Sl.list_length, List.length_set, List.length_take, List.length_append, List.length_replicate, List.length_cons, List.length_nil, List.length_map, nums_len]; omega))
              have hel4 := RdS.at (Row.rd (by intros; rfl) hr) hy4
              obtain ⟨_, _, hab, hlr4, hel4⟩ := hel4
              cases hab
              have hy5 := getD_at (l := m2) (j := j) 0 (by first | omega | (simp only [Sl.list_length, List.length_set, List.length_take, List.length_append, List.length_replicate, List.length_cons, List.length_nil, List.length_map, nums_len]; omega))
              have hel5 := RdS.at (Row.rd (by intros; rfl) hr) hy5
              obtain ⟨_, _, hab, hlr5, hel5⟩ := hel5
              cases hab
              refine wp_region_vnT 16 (fun S wq => w3.grownBy wq (some b) ∧ (¬ S 15 → Row 1 vFlt 22 w0.heap.size wq (.slice (some ⟨b, 0, none⟩) l.length c) m2) ∧ (S 15 → Row 1 vFlt 22 w0.heap.size wq (.slice (some ⟨b, 0, none⟩) l.length c) ((m2).set j (m2.getD (j - 1) 0))))
                (fun V S => [(fun x _ => x = (.slice (some ⟨b, 0, none⟩) l.length c)), (fun x _ => x = (.int .i64 ((j : Nat) : Int))), (fun x _ => x = (.slice (some ⟨b, 0, none⟩) l.length c)), (fun x _ => x = (.int .i64 ((j : Nat) : Int))), (fun x _ => x = (.int .i64 (((j : Nat) : Int) - (1 : Int)))), (fun x _ => x = (.slice (some ⟨b, 0, none⟩) l.length c)), (fun x _ => x = (.int .i64 ((j : Nat) : Int))), (fun x _ => x = (.int .i64 (((j : Nat) : Int) - (1 : Int)))), (fun x _ => x = (.pointer (some ⟨b, (0 + (j - 1) * 1), none⟩))), (fun x _ => x = (.float .f64 (m2.getD (j - 1) 0))), (fun x _ => x = (.slice (some ⟨b, 0, none⟩) l.length c)), (fun x _ => x = (.int .i64 ((j : Nat) : Int))), (fun x _ => x = (.pointer (some ⟨b, (0 + j * 1), none⟩))), (fun x _ => x = (.float .f64 (m2.getD j 0))), (fun x _ => x = (.pointer (some ⟨b, (0 + j * 1), none⟩))), (fun _ _ => True)])
                []
                [[], [], [], [], [3], [], [], [6], [5, 7], [8], [], [], [10, 11], [12], [0, 1, 5, 6, 7, 8, 9, 13], [0, 1, 5, 6, 7, 8, 9, 13, 14], [], []]
                hf (by kernel_rfl) (by kernel_rfl) (by kernel_rfl) (fun _ _ => rfl) (fun _ hS_ => ⟨below_grown (Below.refl _ _).drew, fun _ => Row.ext hr (Below.refl _ _).drew, fun h => absurd h (hS_ _)⟩) (fun _ _ _ _ _ _ => rfl) ?_ ?_
              · skip
                intro V
                have hKP : ∀ (iX : Nat) (S : Nat → Prop) (wk : World), ∀ jX vX wX, (((fun (S : Nat → Prop) => ([(fun x _ => x = (.slice (some ⟨b, 0, none⟩) l.length c)), (fun x _ => x = (.int .i64 ((j : Nat) : Int))), (fun x _ => x = (.slice (some ⟨b, 0, none⟩) l.length c)), (fun x _ => x = (.int .i64 ((j : Nat) : Int))), (fun x _ => x = (.int .i64 (((j : Nat) : Int) - (1 : Int)))), (fun x _ => x = (.slice (some ⟨b, 0, none⟩) l.length c)), (fun x _ => x = (.int .i64 ((j : Nat) : Int))), (fun x _ => x = (.int .i64 (((j : Nat) : Int) - (1 : Int)))), (fun x _ => x = (.pointer (some ⟨b, (0 + (j - 1) * 1), none⟩))), (fun x _ => x = (.float .f64 (m2.getD (j - 1) 0))), (fun x _ => x = (.slice (some ⟨b, 0, none⟩) l.length c)), (fun x _ => x = (.int .i64 ((j : Nat) : Int))), (fun x _ => x = (.pointer (some ⟨b, (0 + j * 1), none⟩))), (fun x _ => x = (.float .f64 (m2.getD j 0))), (fun x _ => x = (.pointer (some ⟨b, (0 + j * 1), none⟩))), (fun _ _ => True)] : List (Value → World → Prop))) S).getD jX (fun _ _ => True)) vX wk → Below wk.heap.size wk wX → (((fun (S : Nat → Prop) => ([(fun x _ => x = (.slice (some ⟨b, 0, none⟩) l.length c)), (fun x _ => x = (.int .i64 ((j : Nat) : Int))), (fun x _ => x = (.slice (some ⟨b, 0, none⟩) l.length c)), (fun x _ => x = (.int .i64 ((j : Nat) : Int))), (fun x _ => x = (.int .i64 (((j : Nat) : Int) - (1 : Int)))), (fun x _ => x = (.slice (some ⟨b, 0, none⟩) l.length c)), (fun x _ => x = (.int .i64 ((j : Nat) : Int))), (fun x _ => x = (.int .i64 (((j : Nat) : Int) - (1 : Int)))), (fun x _ => x = (.pointer (some ⟨b, (0 + (j - 1) * 1), none⟩))), (fun x _ => x = (.float .f64 (m2.getD (j - 1) 0))), (fun x _ => x = (.slice (some ⟨b, 0, none⟩) l.length c)), (fun x _ => x = (.int .i64 ((j : Nat) : Int))), (fun x _ => x = (.pointer (some ⟨b, (0 + j * 1), none⟩))), (fun x _ => x = (.float .f64 (m2.getD j 0))), (fun x _ => x = (.pointer (some ⟨b, (0 + j * 1), none⟩))), (fun _ _ => True)] : List (Value → World → Prop))) (ad iX S)).getD jX (fun _ _ => True)) vX wX := by
                  intro iX S wk jX vX wX h hB
                  match jX with
                  | 0 => exact h
                  | 1 => exact h
                  | 2 => exact h
                  | 3 => exact h
                  | 4 => exact h
                  | 5 => exact h
                  | 6 => exact h
                  | 7 => exact h
                  | 8 => exact h
                  | 9 => exact h
                  | 10 => exact h
                  | 11 => exact h
                  | 12 => exact h
                  | 13 => exact h
                  | 14 => exact h
                  | 15 => exact h
                  | _ + 16 => trivial
                refine ⟨fun S wu0 hC hS hd hi => ?_, ?_⟩
                · skip
                  replace hC := show w3.grownBy wu0 (some b) ∧ (¬ S 15 → Row 1 vFlt 22 w0.heap.size wu0 (.slice (some ⟨b, 0, none⟩) l.length c) m2) ∧ (S 15 → Row 1 vFlt 22 w0.heap.size wu0 (.slice (some ⟨b, 0, none⟩) l.length c) ((m2).set j (m2.getD (j - 1) 0))) from hC
                  refine uv_plain (C := (fun S wq => w3.grownBy wq (some b) ∧ (¬ S 15 → Row 1 vFlt 22 w0.heap.size wq (.slice (some ⟨b, 0, none⟩) l.length c) m2) ∧ (S 15 → Row 1 vFlt 22 w0.heap.size wq (.slice (some ⟨b, 0, none⟩) l.length c) ((m2).set j (m2.getD (j - 1) 0))))) (hKP 0 S wu0) (fun _ h1 h2 => ⟨grown_trans h1.1 (below_grown h2), fun hn => Row.ext (h1.2.1 (fun hs => hn (.inr hs))) h2, fun hs => Row.ext (h1.2.2 (by rcases hs with e | hs; exact absurd e (by decide); exact hs)) h2⟩) hC hS ?_
                  obtain ⟨hCg, hCa, hCb⟩ := hC
                  have hsz_ := hCg.size
                  exact Runs.does (r_move rfl) ⟨Below.refl _ _, rfl, nofr rfl⟩
                refine ⟨fun S wu1 hC hS hd hi => ?_, ?_⟩
                · skip
                  replace hC := show w3.grownBy wu1 (some b) ∧ (¬ S 15 → Row 1 vFlt 22 w0.heap.size wu1 (.slice (some ⟨b, 0, none⟩) l.length c) m2) ∧ (S 15 → Row 1 vFlt 22 w0.heap.size wu1 (.slice (some ⟨b, 0, none⟩) l.length c) ((m2).set j (m2.getD (j - 1) 0))) from hC
                  refine uv_plain (C := (fun S wq => w3.grownBy wq (some b) ∧ (¬ S 15 → Row 1 vFlt 22 w0.heap.size wq (.slice (some ⟨b, 0, none⟩) l.length c) m2) ∧ (S 15 → Row 1 vFlt 22 w0.heap.size wq (.slice (some ⟨b, 0, none⟩) l.length c) ((m2).set j (m2.getD (j - 1) 0))))) (hKP 1 S wu1) (fun _ h1 h2 => ⟨grown_trans h1.1 (below_grown h2), fun hn => Row.ext (h1.2.1 (fun hs => hn (.inr hs))) h2, fun hs => Row.ext (h1.2.2 (by rcases hs with e | hs; exact absurd e (by decide); exact hs)) h2⟩) hC hS ?_
                  obtain ⟨hCg, hCa, hCb⟩ := hC
                  have hsz_ := hCg.size
                  exact Runs.does (r_move rfl) ⟨Below.refl _ _, rfl, nofr rfl⟩
                refine ⟨fun S wu2 hC hS hd hi => ?_, ?_⟩
                · skip
                  replace hC := show w3.grownBy wu2 (some b) ∧ (¬ S 15 → Row 1 vFlt 22 w0.heap.size wu2 (.slice (some ⟨b, 0, none⟩) l.length c) m2) ∧ (S 15 → Row 1 vFlt 22 w0.heap.size wu2 (.slice (some ⟨b, 0, none⟩) l.length c) ((m2).set j (m2.getD (j - 1) 0))) from hC
                  refine uv_plain (C := (fun S wq => w3.grownBy wq (some b) ∧ (¬ S 15 → Row 1 vFlt 22 w0.heap.size wq (.slice (some ⟨b, 0, none⟩) l.length c) m2) ∧ (S 15 → Row 1 vFlt 22 w0.heap.size wq (.slice (some ⟨b, 0, none⟩) l.length c) ((m2).set j (m2.getD (j - 1) 0))))) (hKP 2 S wu2) (fun _ h1 h2 => ⟨grown_trans h1.1 (below_grown h2), fun hn => Row.ext (h1.2.1 (fun hs => hn (.inr hs))) h2, fun hs => Row.ext (h1.2.2 (by rcases hs with e | hs; exact absurd e (by decide); exact hs)) h2⟩) hC hS ?_
                  obtain ⟨hCg, hCa, hCb⟩ := hC
                  have hsz_ := hCg.size
                  exact Runs.does (r_move rfl) ⟨Below.refl _ _, rfl, nofr rfl⟩
                refine ⟨fun S wu3 hC hS hd hi => ?_, ?_⟩
                · skip
                  replace hC := show w3.grownBy wu3 (some b) ∧ (¬ S 15 → Row 1 vFlt 22 w0.heap.size wu3 (.slice (some ⟨b, 0, none⟩) l.length c) m2) ∧ (S 15 → Row 1 vFlt 22 w0.heap.size wu3 (.slice (some ⟨b, 0, none⟩) l.length c) ((m2).set j (m2.getD (j - 1) 0))) from hC
                  refine uv_plain (C := (fun S wq => w3.grownBy wq (some b) ∧ (¬ S 15 → Row 1 vFlt 22 w0.heap.size wq (.slice (some ⟨b, 0, none⟩) l.length c) m2) ∧ (S 15 → Row 1 vFlt 22 w0.heap.size wq (.slice (some ⟨b, 0, none⟩) l.length c) ((m2).set j (m2.getD (j - 1) 0))))) (hKP 3 S wu3) (fun _ h1 h2 => ⟨grown_trans h1.1 (below_grown h2), fun hn => Row.ext (h1.2.1 (fun hs => hn (.inr hs))) h2, fun hs => Row.ext (h1.2.2 (by rcases hs with e | hs; exact absurd e (by decide); exact hs)) h2⟩) hC hS ?_
                  obtain ⟨hCg, hCa, hCb⟩ := hC
                  have hsz_ := hCg.size
                  exact Runs.does (r_move rfl) ⟨Below.refl _ _, rfl, nofr rfl⟩
                refine ⟨fun S wu4 hC hS hd hi => ?_, ?_⟩
                · skip
                  replace hC := show w3.grownBy wu4 (some b) ∧ (¬ S 15 → Row 1 vFlt 22 w0.heap.size wu4 (.slice (some ⟨b, 0, none⟩) l.length c) m2) ∧ (S 15 → Row 1 vFlt 22 w0.heap.size wu4 (.slice (some ⟨b, 0, none⟩) l.length c) ((m2).set j (m2.getD (j - 1) 0))) from hC
                  refine uv_plain (C := (fun S wq => w3.grownBy wq (some b) ∧ (¬ S 15 → Row 1 vFlt 22 w0.heap.size wq (.slice (some ⟨b, 0, none⟩) l.length c) m2) ∧ (S 15 → Row 1 vFlt 22 w0.heap.size wq (.slice (some ⟨b, 0, none⟩) l.length c) ((m2).set j (m2.getD (j - 1) 0))))) (hKP 4 S wu4) (fun _ h1 h2 => ⟨grown_trans h1.1 (below_grown h2), fun hn => Row.ext (h1.2.1 (fun hs => hn (.inr hs))) h2, fun hs => Row.ext (h1.2.2 (by rcases hs with e | hs; exact absurd e (by decide); exact hs)) h2⟩) hC hS ?_
                  obtain ⟨hCg, hCa, hCb⟩ := hC
                  have h3 := hS.post 3 (hd 3 (by decide))
                  replace h3 : V 3 = (.int .i64 ((j : Nat) : Int)) := h3
                  have hsz_ := hCg.size
                  exact Runs.does (r_sub (C := (((j : Nat) : Int) - (1 : Int))) (congrArg some h3) rfl (by rw [IntKind.wrap_i64]; omega)) ⟨Below.refl _ _, rfl, nofr rfl⟩
                refine ⟨fun S wu5 hC hS hd hi => ?_, ?_⟩
                · skip
                  replace hC := show w3.grownBy wu5 (some b) ∧ (¬ S 15 → Row 1 vFlt 22 w0.heap.size wu5 (.slice (some ⟨b, 0, none⟩) l.length c) m2) ∧ (S 15 → Row 1 vFlt 22 w0.heap.size wu5 (.slice (some ⟨b, 0, none⟩) l.length c) ((m2).set j (m2.getD (j - 1) 0))) from hC
                  refine uv_plain (C := (fun S wq => w3.grownBy wq (some b) ∧ (¬ S 15 → Row 1 vFlt 22 w0.heap.size wq (.slice (some ⟨b, 0, none⟩) l.length c) m2) ∧ (S 15 → Row 1 vFlt 22 w0.heap.size wq (.slice (some ⟨b, 0, none⟩) l.length c) ((m2).set j (m2.getD (j - 1) 0))))) (hKP 5 S wu5) (fun _ h1 h2 => ⟨grown_trans h1.1 (below_grown h2), fun hn => Row.ext (h1.2.1 (fun hs => hn (.inr hs))) h2, fun hs => Row.ext (h1.2.2 (by rcases hs with e | hs; exact absurd e (by decide); exact hs)) h2⟩) hC hS ?_
                  obtain ⟨hCg, hCa, hCb⟩ := hC
                  have hsz_ := hCg.size
                  exact Runs.does (r_move rfl) ⟨Below.refl _ _, rfl, nofr rfl⟩
                refine ⟨fun S wu6 hC hS hd hi => ?_, ?_⟩
                · skip
                  replace hC := show w3.grownBy wu6 (some b) ∧ (¬ S 15 → Row 1 vFlt 22 w0.heap.size wu6 (.slice (some ⟨b, 0, none⟩) l.length c) m2) ∧ (S 15 → Row 1 vFlt 22 w0.heap.size wu6 (.slice (some ⟨b, 0, none⟩) l.length c) ((m2).set j (m2.getD (j - 1) 0))) from hC
                  refine uv_plain (C := (fun S wq => w3.grownBy wq (some b) ∧ (¬ S 15 → Row 1 vFlt 22 w0.heap.size wq (.slice (some ⟨b, 0, none⟩) l.length c) m2) ∧ (S 15 → Row 1 vFlt 22 w0.heap.size wq (.slice (some ⟨b, 0, none⟩) l.length c) ((m2).set j (m2.getD (j - 1) 0))))) (hKP 6 S wu6) (fun _ h1 h2 => ⟨grown_trans h1.1 (below_grown h2), fun hn => Row.ext (h1.2.1 (fun hs => hn (.inr hs))) h2, fun hs => Row.ext (h1.2.2 (by rcases hs with e | hs; exact absurd e (by decide); exact hs)) h2⟩) hC hS ?_
                  obtain ⟨hCg, hCa, hCb⟩ := hC
                  have hsz_ := hCg.size
                  exact Runs.does (r_move rfl) ⟨Below.refl _ _, rfl, nofr rfl⟩
                refine ⟨fun S wu7 hC hS hd hi => ?_, ?_⟩
                · skip
                  replace hC := show w3.grownBy wu7 (some b) ∧ (¬ S 15 → Row 1 vFlt 22 w0.heap.size wu7 (.slice (some ⟨b, 0, none⟩) l.length c) m2) ∧ (S 15 → Row 1 vFlt 22 w0.heap.size wu7 (.slice (some ⟨b, 0, none⟩) l.length c) ((m2).set j (m2.getD (j - 1) 0))) from hC
                  refine uv_plain (C := (fun S wq => w3.grownBy wq (some b) ∧ (¬ S 15 → Row 1 vFlt 22 w0.heap.size wq (.slice (some ⟨b, 0, none⟩) l.length c) m2) ∧ (S 15 → Row 1 vFlt 22 w0.heap.size wq (.slice (some ⟨b, 0, none⟩) l.length c) ((m2).set j (m2.getD (j - 1) 0))))) (hKP 7 S wu7) (fun _ h1 h2 => ⟨grown_trans h1.1 (below_grown h2), fun hn => Row.ext (h1.2.1 (fun hs => hn (.inr hs))) h2, fun hs => Row.ext (h1.2.2 (by rcases hs with e | hs; exact absurd e (by decide); exact hs)) h2⟩) hC hS ?_
                  obtain ⟨hCg, hCa, hCb⟩ := hC
                  have h6 := hS.post 6 (hd 6 (by decide))
                  replace h6 : V 6 = (.int .i64 ((j : Nat) : Int)) := h6
                  have hsz_ := hCg.size
                  exact Runs.does (r_sub (C := (((j : Nat) : Int) - (1 : Int))) (congrArg some h6) rfl (by rw [IntKind.wrap_i64]; omega)) ⟨Below.refl _ _, rfl, nofr rfl⟩
                refine ⟨fun S wu8 hC hS hd hi => ?_, ?_⟩
                · skip
                  replace hC := show w3.grownBy wu8 (some b) ∧ (¬ S 15 → Row 1 vFlt 22 w0.heap.size wu8 (.slice (some ⟨b, 0, none⟩) l.length c) m2) ∧ (S 15 → Row 1 vFlt 22 w0.heap.size wu8 (.slice (some ⟨b, 0, none⟩) l.length c) ((m2).set j (m2.getD (j - 1) 0))) from hC
                  refine uv_plain (C := (fun S wq => w3.grownBy wq (some b) ∧ (¬ S 15 → Row 1 vFlt 22 w0.heap.size wq (.slice (some ⟨b, 0, none⟩) l.length c) m2) ∧ (S 15 → Row 1 vFlt 22 w0.heap.size wq (.slice (some ⟨b, 0, none⟩) l.length c) ((m2).set j (m2.getD (j - 1) 0))))) (hKP 8 S wu8) (fun _ h1 h2 => ⟨grown_trans h1.1 (below_grown h2), fun hn => Row.ext (h1.2.1 (fun hs => hn (.inr hs))) h2, fun hs => Row.ext (h1.2.2 (by rcases hs with e | hs; exact absurd e (by decide); exact hs)) h2⟩) hC hS ?_
                  obtain ⟨hCg, hCa, hCb⟩ := hC
                  have h5 := hS.post 5 (hd 5 (by decide))
                  replace h5 : V 5 = (.slice (some ⟨b, 0, none⟩) l.length c) := h5
                  have h7 := hS.post 7 (hd 7 (by decide))
                  replace h7 : V 7 = (.int .i64 (((j : Nat) : Int) - (1 : Int))) := h7
                  have hsz_ := hCg.size
                  exact Runs.does (r_ixa (sz := 1) (j := (j - 1)) (congrArg some h5) (congrArg some h7) Try.underlying30 (by kernel_rfl) (by omega) (by omega) rfl) ⟨Below.refl _ _, rfl, nofr rfl⟩
                refine ⟨fun S wu9 hC hS hd hi => ?_, ?_⟩
                · skip
                  replace hC := show w3.grownBy wu9 (some b) ∧ (¬ S 15 → Row 1 vFlt 22 w0.heap.size wu9 (.slice (some ⟨b, 0, none⟩) l.length c) m2) ∧ (S 15 → Row 1 vFlt 22 w0.heap.size wu9 (.slice (some ⟨b, 0, none⟩) l.length c) ((m2).set j (m2.getD (j - 1) 0))) from hC
                  refine uv_plain (C := (fun S wq => w3.grownBy wq (some b) ∧ (¬ S 15 → Row 1 vFlt 22 w0.heap.size wq (.slice (some ⟨b, 0, none⟩) l.length c) m2) ∧ (S 15 → Row 1 vFlt 22 w0.heap.size wq (.slice (some ⟨b, 0, none⟩) l.length c) ((m2).set j (m2.getD (j - 1) 0))))) (hKP 9 S wu9) (fun _ h1 h2 => ⟨grown_trans h1.1 (below_grown h2), fun hn => Row.ext (h1.2.1 (fun hs => hn (.inr hs))) h2, fun hs => Row.ext (h1.2.2 (by rcases hs with e | hs; exact absurd e (by decide); exact hs)) h2⟩) hC hS ?_
                  obtain ⟨hCg, hCa, hCb⟩ := hC
                  have h8 := hS.post 8 (hd 8 (by decide))
                  replace h8 : V 8 = (.pointer (some ⟨b, (0 + (j - 1) * 1), none⟩)) := h8
                  have hCr := hCa (fun h => hi (hS.down 15 h 9 (by decide)))
                  have hsz_ := hCg.size
                  obtain ⟨_, _, hab2, hlr2, hel2⟩ := RdS.at (Row.rd (by intros; rfl) hCr) hy3
                  cases hab2
                  exact Runs.does (r_load (v := (.float .f64 (m2.getD (j - 1) 0))) (congrArg some h8) Try.underlying22 rfl (cellsAt_cell hel2 (i := 0) rfl rfl)) ⟨Below.refl _ _, rfl, nofr rfl⟩
                refine ⟨fun S wu10 hC hS hd hi => ?_, ?_⟩
                · skip
                  replace hC := show w3.grownBy wu10 (some b) ∧ (¬ S 15 → Row 1 vFlt 22 w0.heap.size wu10 (.slice (some ⟨b, 0, none⟩) l.length c) m2) ∧ (S 15 → Row 1 vFlt 22 w0.heap.size wu10 (.slice (some ⟨b, 0, none⟩) l.length c) ((m2).set j (m2.getD (j - 1) 0))) from hC
                  refine uv_plain (C := (fun S wq => w3.grownBy wq (some b) ∧ (¬ S 15 → Row 1 vFlt 22 w0.heap.size wq (.slice (some ⟨b, 0, none⟩) l.length c) m2) ∧ (S 15 → Row 1 vFlt 22 w0.heap.size wq (.slice (some ⟨b, 0, none⟩) l.length c) ((m2).set j (m2.getD (j - 1) 0))))) (hKP 10 S wu10) (fun _ h1 h2 => ⟨grown_trans h1.1 (below_grown h2), fun hn => Row.ext (h1.2.1 (fun hs => hn (.inr hs))) h2, fun hs => Row.ext (h1.2.2 (by rcases hs with e | hs; exact absurd e (by decide); exact hs)) h2⟩) hC hS ?_
                  obtain ⟨hCg, hCa, hCb⟩ := hC
                  have hsz_ := hCg.size
                  exact Runs.does (r_move rfl) ⟨Below.refl _ _, rfl, nofr rfl⟩
                refine ⟨fun S wu11 hC hS hd hi => ?_, ?_⟩
                · skip
                  replace hC := show w3.grownBy wu11 (some b) ∧ (¬ S 15 → Row 1 vFlt 22 w0.heap.size wu11 (.slice (some ⟨b, 0, none⟩) l.length c) m2) ∧ (S 15 → Row 1 vFlt 22 w0.heap.size wu11 (.slice (some ⟨b, 0, none⟩) l.length c) ((m2).set j (m2.getD (j - 1) 0))) from hC
                  refine uv_plain (C := (fun S wq => w3.grownBy wq (some b) ∧ (¬ S 15 → Row 1 vFlt 22 w0.heap.size wq (.slice (some ⟨b, 0, none⟩) l.length c) m2) ∧ (S 15 → Row 1 vFlt 22 w0.heap.size wq (.slice (some ⟨b, 0, none⟩) l.length c) ((m2).set j (m2.getD (j - 1) 0))))) (hKP 11 S wu11) (fun _ h1 h2 => ⟨grown_trans h1.1 (below_grown h2), fun hn => Row.ext (h1.2.1 (fun hs => hn (.inr hs))) h2, fun hs => Row.ext (h1.2.2 (by rcases hs with e | hs; exact absurd e (by decide); exact hs)) h2⟩) hC hS ?_
                  obtain ⟨hCg, hCa, hCb⟩ := hC
                  have hsz_ := hCg.size
                  exact Runs.does (r_move rfl) ⟨Below.refl _ _, rfl, nofr rfl⟩
                refine ⟨fun S wu12 hC hS hd hi => ?_, ?_⟩
                · skip
                  replace hC := show w3.grownBy wu12 (some b) ∧ (¬ S 15 → Row 1 vFlt 22 w0.heap.size wu12 (.slice (some ⟨b, 0, none⟩) l.length c) m2) ∧ (S 15 → Row 1 vFlt 22 w0.heap.size wu12 (.slice (some ⟨b, 0, none⟩) l.length c) ((m2).set j (m2.getD (j - 1) 0))) from hC
                  refine uv_plain (C := (fun S wq => w3.grownBy wq (some b) ∧ (¬ S 15 → Row 1 vFlt 22 w0.heap.size wq (.slice (some ⟨b, 0, none⟩) l.length c) m2) ∧ (S 15 → Row 1 vFlt 22 w0.heap.size wq (.slice (some ⟨b, 0, none⟩) l.length c) ((m2).set j (m2.getD (j - 1) 0))))) (hKP 12 S wu12) (fun _ h1 h2 => ⟨grown_trans h1.1 (below_grown h2), fun hn => Row.ext (h1.2.1 (fun hs => hn (.inr hs))) h2, fun hs => Row.ext (h1.2.2 (by rcases hs with e | hs; exact absurd e (by decide); exact hs)) h2⟩) hC hS ?_
                  obtain ⟨hCg, hCa, hCb⟩ := hC
                  have h10 := hS.post 10 (hd 10 (by decide))
                  replace h10 : V 10 = (.slice (some ⟨b, 0, none⟩) l.length c) := h10
                  have h11 := hS.post 11 (hd 11 (by decide))
                  replace h11 : V 11 = (.int .i64 ((j : Nat) : Int)) := h11
                  have hsz_ := hCg.size
                  exact Runs.does (r_ixa (sz := 1) (j := j) (congrArg some h10) (congrArg some h11) Try.underlying30 (by kernel_rfl) rfl (by omega) rfl) ⟨Below.refl _ _, rfl, nofr rfl⟩
                refine ⟨fun S wu13 hC hS hd hi => ?_, ?_⟩
                · skip
                  replace hC := show w3.grownBy wu13 (some b) ∧ (¬ S 15 → Row 1 vFlt 22 w0.heap.size wu13 (.slice (some ⟨b, 0, none⟩) l.length c) m2) ∧ (S 15 → Row 1 vFlt 22 w0.heap.size wu13 (.slice (some ⟨b, 0, none⟩) l.length c) ((m2).set j (m2.getD (j - 1) 0))) from hC
                  refine uv_plain (C := (fun S wq => w3.grownBy wq (some b) ∧ (¬ S 15 → Row 1 vFlt 22 w0.heap.size wq (.slice (some ⟨b, 0, none⟩) l.length c) m2) ∧ (S 15 → Row 1 vFlt 22 w0.heap.size wq (.slice (some ⟨b, 0, none⟩) l.length c) ((m2).set j (m2.getD (j - 1) 0))))) (hKP 13 S wu13) (fun _ h1 h2 => ⟨grown_trans h1.1 (below_grown h2), fun hn => Row.ext (h1.2.1 (fun hs => hn (.inr hs))) h2, fun hs => Row.ext (h1.2.2 (by rcases hs with e | hs; exact absurd e (by decide); exact hs)) h2⟩) hC hS ?_
                  obtain ⟨hCg, hCa, hCb⟩ := hC
                  have h12 := hS.post 12 (hd 12 (by decide))
                  replace h12 : V 12 = (.pointer (some ⟨b, (0 + j * 1), none⟩)) := h12
                  have hCr := hCa (fun h => hi (hS.down 15 h 13 (by decide)))
                  have hsz_ := hCg.size
                  obtain ⟨_, _, hab2, hlr2, hel2⟩ := RdS.at (Row.rd (by intros; rfl) hCr) hy4
                  cases hab2
                  exact Runs.does (r_load (v := (.float .f64 (m2.getD j 0))) (congrArg some h12) Try.underlying22 rfl (cellsAt_cell hel2 (i := 0) rfl rfl)) ⟨Below.refl _ _, rfl, nofr rfl⟩
                refine ⟨fun S wu14 hC hS hd hi => ?_, ?_⟩
                · skip
                  replace hC := show w3.grownBy wu14 (some b) ∧ (¬ S 15 → Row 1 vFlt 22 w0.heap.size wu14 (.slice (some ⟨b, 0, none⟩) l.length c) m2) ∧ (S 15 → Row 1 vFlt 22 w0.heap.size wu14 (.slice (some ⟨b, 0, none⟩) l.length c) ((m2).set j (m2.getD (j - 1) 0))) from hC
                  refine uv_plain (C := (fun S wq => w3.grownBy wq (some b) ∧ (¬ S 15 → Row 1 vFlt 22 w0.heap.size wq (.slice (some ⟨b, 0, none⟩) l.length c) m2) ∧ (S 15 → Row 1 vFlt 22 w0.heap.size wq (.slice (some ⟨b, 0, none⟩) l.length c) ((m2).set j (m2.getD (j - 1) 0))))) (hKP 14 S wu14) (fun _ h1 h2 => ⟨grown_trans h1.1 (below_grown h2), fun hn => Row.ext (h1.2.1 (fun hs => hn (.inr hs))) h2, fun hs => Row.ext (h1.2.2 (by rcases hs with e | hs; exact absurd e (by decide); exact hs)) h2⟩) hC hS ?_
                  obtain ⟨hCg, hCa, hCb⟩ := hC
                  have h0 := hS.post 0 (hd 0 (by decide))
                  replace h0 : V 0 = (.slice (some ⟨b, 0, none⟩) l.length c) := h0
                  have h1 := hS.post 1 (hd 1 (by decide))
                  replace h1 : V 1 = (.int .i64 ((j : Nat) : Int)) := h1
                  have h5 := hS.post 5 (hd 5 (by decide))
                  replace h5 : V 5 = (.slice (some ⟨b, 0, none⟩) l.length c) := h5
                  have h6 := hS.post 6 (hd 6 (by decide))
                  replace h6 : V 6 = (.int .i64 ((j : Nat) : Int)) := h6
                  have h7 := hS.post 7 (hd 7 (by decide))
                  replace h7 : V 7 = (.int .i64 (((j : Nat) : Int) - (1 : Int))) := h7
                  have h8 := hS.post 8 (hd 8 (by decide))
                  replace h8 : V 8 = (.pointer (some ⟨b, (0 + (j - 1) * 1), none⟩)) := h8
                  have h9 := hS.post 9 (hd 9 (by decide))
                  replace h9 : V 9 = (.float .f64 (m2.getD (j - 1) 0)) := h9
                  have h13 := hS.post 13 (hd 13 (by decide))
                  replace h13 : V 13 = (.float .f64 (m2.getD j 0)) := h13
                  have hsz_ := hCg.size
                  exact Runs.does (r_ixa (sz := 1) (j := j) (congrArg some h0) (congrArg some h1) Try.underlying30 (by kernel_rfl) rfl (by omega) rfl) ⟨Below.refl _ _, rfl, nofr rfl⟩
                refine ⟨fun S wu15 hC hS hd hi => ?_, ?_⟩
                · skip
                  replace hC := show w3.grownBy wu15 (some b) ∧ (¬ S 15 → Row 1 vFlt 22 w0.heap.size wu15 (.slice (some ⟨b, 0, none⟩) l.length c) m2) ∧ (S 15 → Row 1 vFlt 22 w0.heap.size wu15 (.slice (some ⟨b, 0, none⟩) l.length c) ((m2).set j (m2.getD (j - 1) 0))) from hC
                  obtain ⟨hCg, hCa, hCb⟩ := hC
                  have h0 := hS.post 0 (hd 0 (by decide))
                  replace h0 : V 0 = (.slice (some ⟨b, 0, none⟩) l.length c) := h0
                  have h1 := hS.post 1 (hd 1 (by decide))
                  replace h1 : V 1 = (.int .i64 ((j : Nat) : Int)) := h1
                  have h5 := hS.post 5 (hd 5 (by decide))
                  replace h5 : V 5 = (.slice (some ⟨b, 0, none⟩) l.length c) := h5
                  have h6 := hS.post 6 (hd 6 (by decide))
                  replace h6 : V 6 = (.int .i64 ((j : Nat) : Int)) := h6
                  have h7 := hS.post 7 (hd 7 (by decide))
                  replace h7 : V 7 = (.int .i64 (((j : Nat) : Int) - (1 : Int))) := h7
                  have h8 := hS.post 8 (hd 8 (by decide))
                  replace h8 : V 8 = (.pointer (some ⟨b, (0 + (j - 1) * 1), none⟩)) := h8
                  have h9 := hS.post 9 (hd 9 (by decide))
                  replace h9 : V 9 = (.float .f64 (m2.getD (j - 1) 0)) := h9
                  have h13 := hS.post 13 (hd 13 (by decide))
                  replace h13 : V 13 = (.float .f64 (m2.getD j 0)) := h13
                  have h14 := hS.post 14 (hd 14 (by decide))
                  replace h14 : V 14 = (.pointer (some ⟨b, (0 + j * 1), none⟩)) := h14
                  refine Does.mono (d_rowset (u := (m2.getD (j - 1) 0)) (j := j) (by intros; rfl) (by exact oneFlt) (congrArg some h14) (congrArg some h9) (by first | rfl | (simp; done) | (simp; omega)) (by kernel_rfl) (hCa hi) (by first | omega | (simp only [Sl.list_length, List.length_set, List.length_take, List.length_append, List.length_replicate, List.length_cons, List.length_nil, List.length_map, nums_len]; omega)) (by omega)) ?_
                  rintro _ wz ⟨hY, hgY⟩
                  refine ⟨⟨⟨grown_trans hCg hgY, fun hn => absurd (.inl rfl) hn, fun _ => hY⟩, fun jX hj => ?_, hgY.size⟩, trivial, nofr rfl⟩
                  match jX with
                  | 0 => exact hS.post 0 hj
                  | 1 => exact hS.post 1 hj
                  | 2 => exact hS.post 2 hj
                  | 3 => exact hS.post 3 hj
                  | 4 => exact hS.post 4 hj
                  | 5 => exact hS.post 5 hj
                  | 6 => exact hS.post 6 hj
                  | 7 => exact hS.post 7 hj
                  | 8 => exact hS.post 8 hj
                  | 9 => exact hS.post 9 hj
                  | 10 => exact hS.post 10 hj
                  | 11 => exact hS.post 11 hj
                  | 12 => exact hS.post 12 hj
                  | 13 => exact hS.post 13 hj
                  | 14 => exact hS.post 14 hj
                  | 15 => trivial
                  | _ + 16 => trivial
                trivial
              · skip
                clear hf fa; intro V S w4 fa hall he2 hp hnb hf
                have hg1 := he2.1
                have hv0 : V 0 = (.slice (some ⟨b, 0, none⟩) l.length c) := postsHold_at hp 0 rfl
                have hv1 : V 1 = (.int .i64 ((j : Nat) : Int)) := postsHold_at hp 1 rfl
                have hv2 : V 2 = (.slice (some ⟨b, 0, none⟩) l.length c) := postsHold_at hp 2 rfl
                have hv3 : V 3 = (.int .i64 ((j : Nat) : Int)) := postsHold_at hp 3 rfl
                have hv4 : V 4 = (.int .i64 (((j : Nat) : Int) - (1 : Int))) := postsHold_at hp 4 rfl
                have hv5 : V 5 = (.slice (some ⟨b, 0, none⟩) l.length c) := postsHold_at hp 5 rfl
                have hv6 : V 6 = (.int .i64 ((j : Nat) : Int)) := postsHold_at hp 6 rfl
                have hv7 : V 7 = (.int .i64 (((j : Nat) : Int) - (1 : Int))) := postsHold_at hp 7 rfl
                have hv8 : V 8 = (.pointer (some ⟨b, (0 + (j - 1) * 1), none⟩)) := postsHold_at hp 8 rfl
                have hv9 : V 9 = (.float .f64 (m2.getD (j - 1) 0)) := postsHold_at hp 9 rfl
                have hv10 : V 10 = (.slice (some ⟨b, 0, none⟩) l.length c) := postsHold_at hp 10 rfl
                have hv11 : V 11 = (.int .i64 ((j : Nat) : Int)) := postsHold_at hp 11 rfl
                have hv12 : V 12 = (.pointer (some ⟨b, (0 + j * 1), none⟩)) := postsHold_at hp 12 rfl
                have hv13 : V 13 = (.float .f64 (m2.getD j 0)) := postsHold_at hp 13 rfl
                have hv14 : V 14 = (.pointer (some ⟨b, (0 + j * 1), none⟩)) := postsHold_at hp 14 rfl
                have hr1 := he2.2.2 (hall 15 (show 15 < 16 by decide))
                simp only [List.take_succ_cons, List.take_zero, insAll, ins, hv0, hv1, hv2, hv3, hv4, hv5, hv6, hv7, hv8, hv9, hv10, hv11, hv12, hv13, hv14] at hf
                clear hp hnb hv0 hv1 hv2 hv3 hv4 hv5 hv6 hv7 hv8 hv9 hv10 hv11 hv12 hv13 hv14
                replace hb := hb.trans (grown_below hg1 hb.size (by first | omega | (have := Row.lt hr _ rfl; omega) | exact (Row.lt hr _ rfl).1))
                replace hr1 : Row 1 vFlt 22 w0.heap.size w4 (.slice (some ⟨b, 0, none⟩) l.length c) ((m2).set j (m2.getD (j - 1) 0)) := hr1
                simp only [List.drop_succ_cons, List.drop_zero]
                have hy6 := getD_at (l := ((m2).set j (m2.getD (j - 1) 0))) (j := (j - 1)) 0 (by first | omega | (simp only [Sl.list_length, List.length_set, List.length_take, List.length_append, List.length_replicate, List.length_cons, List.length_nil, List.length_map, nums_len]; omega))
                have hel6 := RdS.at (Row.rd (by intros; rfl) hr1) hy6
                obtain ⟨_, _, hab, hlr6, hel6⟩ := hel6
                cases hab
                refine sqv hf (r_ixa (sz := 1) (j := (j - 1)) rfl rfl Try.underlying30 (by kernel_rfl) (by omega) (by omega) rfl) rfl rfl rfl ?_; clear hf fa; intro fa hf
                refine sqn hf (d_rowset (u := (m2.getD j 0)) (j := (j - 1)) (by intros; rfl) (by exact oneFlt) rfl rfl (by first | rfl | (simp; done) | (simp; omega)) (by kernel_rfl) hr1 (by first | omega | (simp only [Sl.list_length, List.length_set, List.length_take, List.length_append, List.length_replicate, List.length_cons, List.length_nil, List.length_map, nums_len]; omega)) (by omega)) rfl rfl ?_; clear hf fa; rintro fa _ w5 ⟨hr2, hg2⟩ hf
                replace hb := hb.trans (grown_below hg2 hb.size (by first | omega | (have := Row.lt hr1 _ rfl; omega) | exact (Row.lt hr1 _ rfl).1))
                apply wpList_nil
                (try simp only [Exit.then, Exit.inBlock, ↓reduceIte, Nat.reduceEqDiff])
                refine hK8 _ _ ?_
                refine wp_region_lit ?_
                refine sqv hf (r_move rfl) rfl rfl rfl ?_; clear hf fa; intro fa hf
                refine sqv hf (r_sub (C := (((j : Nat) : Int) - (1 : Int))) rfl rfl (by rw [IntKind.wrap_i64]; omega)) rfl rfl rfl ?_; clear hf fa; intro fa hf
                refine sqv hf (r_assign rfl) rfl rfl rfl ?_; clear hf fa; intro fa hf
                apply wpList_nil
                (try simp only [Exit.then, Exit.inBlock, ↓reduceIte, Nat.reduceEqDiff])
                refine hKL2 _ _ _ (by omega) ⟨(j - 1), ((((m2).set j (m2.getD (j - 1) 0))).set (j - 1) (m2.getD j 0)), rfl, hf.sub ⟨rfl, rfl, rfl, rfl, rfl, (some_int (by first | rfl | omega)), trivial⟩, hb, hr2, (by omega), (by simp only [List.length_set]; exact hm2), (allW_set (allW_set hw2 (allW_getD hw2 _)) (allW_getD hw2 _)), (by rw [← hs2]; exact (insL_go (by omega) (by omega)).symm)⟩
            · have hqt34_1b := hqt34_1
              replace hqt34_1 := Bool.eq_false_iff.1 hqt34_1
              try simp only [ne_eq, decide_eq_true_eq, Bool.and_eq_true, Bool.or_eq_true, Bool.not_eq_true', decide_eq_false_iff_not] at hqt34_1
              refine wp_exit ?_
              (try simp only [Exit.then, Exit.inBlock, ↓reduceIte, Nat.reduceEqDiff])
              refine hK4 _ _ ?_
              refine wp_region_lit ?_
              refine sqv hf (r_move rfl) rfl rfl rfl ?_; clear hf fa; intro fa hf
              refine sqv hf (r_add (C := (((i : Nat) : Int) + (1 : Int))) rfl rfl (by rw [IntKind.wrap_i64]; omega)) rfl rfl rfl ?_; clear hf fa; intro fa hf
              refine sqv hf (r_assign rfl) rfl rfl rfl ?_; clear hf fa; intro fa hf
              apply wpList_nil
              (try simp only [Exit.then, Exit.inBlock, ↓reduceIte, Nat.reduceEqDiff])
              have hse : insL p i m = m2 := by rw [← hs2]; exact insL_end (by intro hh; omega)
              refine hKL1 _ _ _ (by omega) ⟨(i + 1), (insL p i m), rfl, hf.sub ⟨rfl, rfl, rfl, rfl, (some_int (by first | rfl | omega)), trivial⟩, hb, (by rw [hse]; exact hr), (by omega), (by rw [insL_len]; exact hm), (allW_insL _ _ _ hw), (by rw [← hs, show q - i = (q - (i + 1)) + 1 by omega]; rfl)⟩
        · have hsp1b : decide (p < j) = false := decide_eq_false hsp1
          refine wp_region_un (fun wq => Below w2.heap.size w2 wq) (fun w w' => Below w.heap.size w w')
            (fun V => [(fun x _ => x = (.int .i64 ((j : Nat) : Int))), (fun x _ => x = (.int .i64 ((p : Nat) : Int))), (fun x _ => x = (.bool false)), (fun x _ => x = (.bool false)), (fun x _ => x = gb false (.bool false)), (fun x _ => x = gb false (.bool false)), (fun x _ => x = gb false (.bool false)), (fun x _ => x = gb false (.bool false)), (fun x _ => x = gb false (.bool false)), (fun x _ => x = gb false (.bool false)), (fun x _ => x = gb false (.bool false)), (fun x _ => x = gb false (.bool false)), (fun x _ => x = gb false (.bool false)), (fun x _ => x = gb false (.bool false)), (fun x _ => x = gb false (.bool false)), (fun x _ => x = gb false (.bool false)), (fun x _ => x = (.bool false))])
            []
            [[], [], [0, 1], [2], [3], [3], [3], [3, 5, 6], [3, 7], [3], [3], [3, 10], [3, 9, 11], [3, 12], [3, 4, 8, 13], [3, 14], [3, 15]]
            hf (by kernel_rfl) (by kernel_rfl) (fun _ => rfl) ((Below.refl _ _).drew) (fun a b h1 h2 => h1.trans (h2.mono h1.size)) (fun _ _ h => h.size) (fun V => ⟨kept_eq, kept_eq, kept_eq, kept_eq, kept_eq, kept_eq, kept_eq, kept_eq, kept_eq, kept_eq, kept_eq, kept_eq, kept_eq, kept_eq, kept_eq, kept_eq, kept_eq, trivial⟩) (fun _ _ _ _ _ => rfl) ?_ ?_
          · skip
            intro V
            refine ⟨fun wu0 hC hd => ?_, ?_⟩
            · clear hd
              replace hb := hb.trans (hC.mono hb.size)
              replace hr := Row.ext hr hC
              exact Runs.does (r_move rfl) ⟨Below.refl _ _, rfl, nofr rfl⟩
            refine ⟨fun wu1 hC hd => ?_, ?_⟩
            · clear hd
              replace hb := hb.trans (hC.mono hb.size)
              replace hr := Row.ext hr hC
              exact Runs.does (r_move rfl) ⟨Below.refl _ _, rfl, nofr rfl⟩
            refine ⟨fun wu2 hC hd => ?_, ?_⟩
            · obtain ⟨h0, h1, _⟩ := hd
              skip
              skip
              replace h0 : V 0 = (.int .i64 ((j : Nat) : Int)) := h0
              replace h1 : V 1 = (.int .i64 ((p : Nat) : Int)) := h1
              replace hb := hb.trans (hC.mono hb.size)
              replace hr := Row.ext hr hC
              exact Runs.does (Runs.veq (r_gt (congrArg some h0) (congrArg some h1)) (congrArg Value.bool (show _ = false from (decide_eq_false (by omega))))) ⟨Below.refl _ _, rfl, nofr rfl⟩
            refine ⟨fun wu3 hC hd => ?_, ?_⟩
            · obtain ⟨h2, _⟩ := hd
              skip
              replace h2 : V 2 = (.bool false) := h2
              replace hb := hb.trans (hC.mono hb.size)
              replace hr := Row.ext hr hC
              exact Runs.does (r_move (congrArg some h2)) ⟨Below.refl _ _, rfl, nofr rfl⟩
            refine ⟨fun wu4 hC hd => ?_, ?_⟩
            · obtain ⟨h3, _⟩ := hd
              skip
              replace h3 : V 3 = (.bool false) := h3
              replace hb := hb.trans (hC.mono hb.size)
              replace hr := Row.ext hr hC
              refine ⟨true, false, congrArg some h3, fun hact => ?_, fun hact => ?_⟩
              · exfalso; simp at hact
              · exact ⟨Below.refl _ _, rfl, nofr rfl⟩
            refine ⟨fun wu5 hC hd => ?_, ?_⟩
            · obtain ⟨h3, _⟩ := hd
              skip
              replace h3 : V 3 = (.bool false) := h3
              replace hb := hb.trans (hC.mono hb.size)
              replace hr := Row.ext hr hC
              refine ⟨true, false, congrArg some h3, fun hact => ?_, fun hact => ?_⟩
              · exfalso; simp at hact
              · exact ⟨Below.refl _ _, rfl, nofr rfl⟩
            refine ⟨fun wu6 hC hd => ?_, ?_⟩
            · obtain ⟨h3, _⟩ := hd
              skip
              replace h3 : V 3 = (.bool false) := h3
              replace hb := hb.trans (hC.mono hb.size)
              replace hr := Row.ext hr hC
              refine ⟨true, false, congrArg some h3, fun hact => ?_, fun hact => ?_⟩
              · exfalso; simp at hact
              · exact ⟨Below.refl _ _, rfl, nofr rfl⟩
            refine ⟨fun wu7 hC hd => ?_, ?_⟩
            · obtain ⟨h3, h5, h6, _⟩ := hd
              skip
              skip
              skip
              replace h3 : V 3 = (.bool false) := h3
              replace h5 : V 5 = gb false (.bool false) := h5
              replace h6 : V 6 = gb false (.bool false) := h6
              replace hb := hb.trans (hC.mono hb.size)
              replace hr := Row.ext hr hC
              refine ⟨true, false, congrArg some h3, fun hact => ?_, fun hact => ?_⟩
              · exfalso; simp at hact
              · exact ⟨Below.refl _ _, rfl, nofr rfl⟩
            refine ⟨fun wu8 hC hd => ?_, ?_⟩
            · obtain ⟨h3, h7, _⟩ := hd
              skip
              skip
              replace h3 : V 3 = (.bool false) := h3
              replace h7 : V 7 = gb false (.bool false) := h7
              replace hb := hb.trans (hC.mono hb.size)
              replace hr := Row.ext hr hC
              refine ⟨true, false, congrArg some h3, fun hact => ?_, fun hact => ?_⟩
              · exfalso; simp at hact
              · exact ⟨Below.refl _ _, rfl, nofr rfl⟩
            refine ⟨fun wu9 hC hd => ?_, ?_⟩
            · obtain ⟨h3, _⟩ := hd
              skip
              replace h3 : V 3 = (.bool false) := h3
              replace hb := hb.trans (hC.mono hb.size)
              replace hr := Row.ext hr hC
              refine ⟨true, false, congrArg some h3, fun hact => ?_, fun hact => ?_⟩
              · exfalso; simp at hact
              · exact ⟨Below.refl _ _, rfl, nofr rfl⟩
            refine ⟨fun wu10 hC hd => ?_, ?_⟩
            · obtain ⟨h3, _⟩ := hd
              skip
              replace h3 : V 3 = (.bool false) := h3
              replace hb := hb.trans (hC.mono hb.size)
              replace hr := Row.ext hr hC
              refine ⟨true, false, congrArg some h3, fun hact => ?_, fun hact => ?_⟩
              · exfalso; simp at hact
              · exact ⟨Below.refl _ _, rfl, nofr rfl⟩
            refine ⟨fun wu11 hC hd => ?_, ?_⟩
            · obtain ⟨h3, h10, _⟩ := hd
              skip
              skip
              replace h3 : V 3 = (.bool false) := h3
              replace h10 : V 10 = gb false (.bool false) := h10
              replace hb := hb.trans (hC.mono hb.size)
              replace hr := Row.ext hr hC
              refine ⟨true, false, congrArg some h3, fun hact => ?_, fun hact => ?_⟩
              · exfalso; simp at hact
              · exact ⟨Below.refl _ _, rfl, nofr rfl⟩
            refine ⟨fun wu12 hC hd => ?_, ?_⟩
            · obtain ⟨h3, h9, h11, _⟩ := hd
              skip
              skip
              skip
              replace h3 : V 3 = (.bool false) := h3
              replace h9 : V 9 = gb false (.bool false) := h9
              replace h11 : V 11 = gb false (.bool false) := h11
              replace hb := hb.trans (hC.mono hb.size)
              replace hr := Row.ext hr hC
              refine ⟨true, false, congrArg some h3, fun hact => ?_, fun hact => ?_⟩
              · exfalso; simp at hact
              · exact ⟨Below.refl _ _, rfl, nofr rfl⟩
            refine ⟨fun wu13 hC hd => ?_, ?_⟩
            · obtain ⟨h3, h12, _⟩ := hd
              skip
              skip
              replace h3 : V 3 = (.bool false) := h3
              replace h12 : V 12 = gb false (.bool false) := h12
              replace hb := hb.trans (hC.mono hb.size)
              replace hr := Row.ext hr hC
              refine ⟨true, false, congrArg some h3, fun hact => ?_, fun hact => ?_⟩
              · exfalso; simp at hact
              · exact ⟨Below.refl _ _, rfl, nofr rfl⟩
            refine ⟨fun wu14 hC hd => ?_, ?_⟩
            · obtain ⟨h3, h4, h8, h13, _⟩ := hd
              skip
              skip
              skip
              skip
              replace h3 : V 3 = (.bool false) := h3
              replace h4 : V 4 = gb false (.bool false) := h4
              replace h8 : V 8 = gb false (.bool false) := h8
              replace h13 : V 13 = gb false (.bool false) := h13
              replace hb := hb.trans (hC.mono hb.size)
              replace hr := Row.ext hr hC
              refine ⟨true, false, congrArg some h3, fun hact => ?_, fun hact => ?_⟩
              · exfalso; simp at hact
              · exact ⟨Below.refl _ _, rfl, nofr rfl⟩
            refine ⟨fun wu15 hC hd => ?_, ?_⟩
            · obtain ⟨h3, h14, _⟩ := hd
              skip
              skip
              replace h3 : V 3 = (.bool false) := h3
              replace h14 : V 14 = gb false (.bool false) := h14
              replace hb := hb.trans (hC.mono hb.size)
              replace hr := Row.ext hr hC
              refine ⟨true, false, congrArg some h3, fun hact => ?_, fun hact => ?_⟩
              · exfalso; simp at hact
              · exact ⟨Below.refl _ _, rfl, nofr rfl⟩
            refine ⟨fun wu16 hC hd => ?_, ?_⟩
            · obtain ⟨h3, h15, _⟩ := hd
              skip
              skip
              replace h3 : V 3 = (.bool false) := h3
              replace h15 : V 15 = gb false (.bool false) := h15
              replace hb := hb.trans (hC.mono hb.size)
              replace hr := Row.ext hr hC
              exact Runs.does (r_pick (b := false) (congrArg some h3) (congrArg some h15) rfl rfl) ⟨Below.refl _ _, rfl, nofr rfl⟩
            trivial
          · skip
            clear hf fa; intro V w6 fa he3 hp hnb hf
            have hv0 : V 0 = (.int .i64 ((j : Nat) : Int)) := postsHold_at hp 0 rfl
            have hv1 : V 1 = (.int .i64 ((p : Nat) : Int)) := postsHold_at hp 1 rfl
            have hv2 : V 2 = (.bool false) := postsHold_at hp 2 rfl
            have hv3 : V 3 = (.bool false) := postsHold_at hp 3 rfl
            have hv4 : V 4 = gb false (.bool false) := postsHold_at hp 4 rfl
            have hv5 : V 5 = gb false (.bool false) := postsHold_at hp 5 rfl
            have hv6 : V 6 = gb false (.bool false) := postsHold_at hp 6 rfl
            have hv7 : V 7 = gb false (.bool false) := postsHold_at hp 7 rfl
            have hv8 : V 8 = gb false (.bool false) := postsHold_at hp 8 rfl
            have hv9 : V 9 = gb false (.bool false) := postsHold_at hp 9 rfl
            have hv10 : V 10 = gb false (.bool false) := postsHold_at hp 10 rfl
            have hv11 : V 11 = gb false (.bool false) := postsHold_at hp 11 rfl
            have hv12 : V 12 = gb false (.bool false) := postsHold_at hp 12 rfl
            have hv13 : V 13 = gb false (.bool false) := postsHold_at hp 13 rfl
            have hv14 : V 14 = gb false (.bool false) := postsHold_at hp 14 rfl
            have hv15 : V 15 = gb false (.bool false) := postsHold_at hp 15 rfl
            have hv16 : V 16 = (.bool false) := postsHold_at hp 16 rfl
            simp only [List.take_succ_cons, List.take_zero, insAll, ins, hv0, hv1, hv2, hv3, hv4, hv5, hv6, hv7, hv8, hv9, hv10, hv11, hv12, hv13, hv14, hv15, hv16] at hf
            clear hp hnb hv0 hv1 hv2 hv3 hv4 hv5 hv6 hv7 hv8 hv9 hv10 hv11 hv12 hv13 hv14 hv15 hv16
            replace hr := Row.ext hr he3
            replace hb := hb.trans (Below.mono he3 hb.size)
            (try simp only [Exit.then, Exit.inBlock, ↓reduceIte, Nat.reduceEqDiff])
            refine hK7 _ _ ?_
            refine wp_cond_false (hf.ev rfl) ?_
            refine wp_exit ?_
            (try simp only [Exit.then, Exit.inBlock, ↓reduceIte, Nat.reduceEqDiff])
            refine hK4 _ _ ?_
            refine wp_region_lit ?_
            refine sqv hf (r_move rfl) rfl rfl rfl ?_; clear hf fa; intro fa hf
            refine sqv hf (r_add (C := (((i : Nat) : Int) + (1 : Int))) rfl rfl (by rw [IntKind.wrap_i64]; omega)) rfl rfl rfl ?_; clear hf fa; intro fa hf
            refine sqv hf (r_assign rfl) rfl rfl rfl ?_; clear hf fa; intro fa hf
            apply wpList_nil
            (try simp only [Exit.then, Exit.inBlock, ↓reduceIte, Nat.reduceEqDiff])
            have hse : insL p i m = m2 := by rw [← hs2]; exact insL_end (by intro hh; omega)
            refine hKL1 _ _ _ (by omega) ⟨(i + 1), (insL p i m), rfl, hf.sub ⟨rfl, rfl, rfl, rfl, (some_int (by first | rfl | omega)), trivial⟩, hb, (by rw [hse]; exact hr), (by omega), (by rw [insL_len]; exact hm), (allW_insL _ _ _ hw), (by rw [← hs, show q - i = (q - (i + 1)) + 1 by omega]; rfl)⟩
    · have hqt14_1b := hqt14_1
      replace hqt14_1 := Bool.eq_false_iff.1 hqt14_1
      try simp only [ne_eq, decide_eq_true_eq, Bool.and_eq_true, Bool.or_eq_true, Bool.not_eq_true', decide_eq_false_iff_not] at hqt14_1
      refine wp_exit ?_
      (try simp only [Exit.then, Exit.inBlock, ↓reduceIte, Nat.reduceEqDiff])
      refine end0 hf rfl ?_
      exact ⟨rfl, by rw [← hs, show q - i = 0 by omega]; exact hr, hb⟩
end Go.Proofs.Ytbllifhcfgjdlaa
