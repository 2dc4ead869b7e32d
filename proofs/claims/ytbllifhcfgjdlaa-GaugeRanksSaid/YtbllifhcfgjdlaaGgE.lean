/- What is proved here: the reference's lists of floats. -/
import Derived.Test.YtbllifhcfgjdlaaGgT
import Derived.Test.YtbllifhcfgjdlaaGgC
namespace Go.Proofs.Ytbllifhcfgjdlaa
open Go.RowKit
set_option linter.unusedVariables false
set_option linter.unusedSimpArgs false
set_option maxHeartbeats 1000000 in
set_option maxRecDepth 100000 in
theorem rsorted_any (a : Option Addr) (c : Nat) (l : List Nat) (w : World) (hl : RdS 1 vFlt w a l) (hlen : l.length ≤ 100) (hW : allW l) : Calls Try.prog 35 #[(.slice a l.length c)] w fun e w' => ∃ v, e = .returned v ∧ Row 1 vFlt 22 w.heap.size w' v (sortP l) ∧ Below w.heap.size w w' := by
  refine sx_enter (L := [(0, (.slice a l.length c))]) Try.func35 rfl rfl rfl rfl (fun fa hf => ?_)
  have hb : Below w.heap.size w w := Below.refl _ _
  refine wp_seq_k (fun K1 hK1 => ?_)
  refine wp_region_lit ?_
  refine sqv hf (r_assign rfl) rfl rfl rfl ?_; clear hf fa; intro fa hf
  apply wpList_nil
  (try simp only [Exit.then, Exit.inBlock, ↓reduceIte, Nat.reduceEqDiff])
  refine hK1 _ _ ?_
  refine wp_seq_k (fun K2 hK2 => ?_)
  refine wp_region_lit ?_
  refine sqv hf (r_assign rfl) rfl rfl rfl ?_; clear hf fa; intro fa hf
  apply wpList_nil
  (try simp only [Exit.then, Exit.inBlock, ↓reduceIte, Nat.reduceEqDiff])
  refine hK2 _ _ ?_
  refine wp_seq_k (fun K3 hK3 => ?_)
  refine wp_seq_k (fun K4 hK4 => ?_)
  refine wp_region_lit ?_
  refine sqv hf (r_assign rfl) rfl rfl rfl ?_; clear hf fa; intro fa hf
  apply wpList_nil
  (try simp only [Exit.then, Exit.inBlock, ↓reduceIte, Nat.reduceEqDiff])
  refine hK4 _ _ ?_
  refine wp_block ?_
  refine wp_loop_k (fun mq fa wr => ∃ (i : Nat) (roa : Option Addr) (roc : Nat), mq = l.length - i ∧ Fr 50 fa [(0, (.slice a l.length c)), (4, (.int .i64 ((i : Nat) : Int))), (3, (.slice roa (((sortP (l.take i))).length) roc))] ∧ Below w.heap.size w wr ∧ Row 1 vFlt 22 (w.heap.size) wr (.slice roa (((sortP (l.take i))).length) roc) (sortP (l.take i)) ∧ (i ≤ l.length)) ?_ ?_
  · skip
    exact ⟨_, 0, none, 0, rfl, hf.sub ⟨rfl, (some_int (by first | rfl | omega)), (some_sl (by first | omega | rfl | (simp only [List.length_append, List.length_cons, List.length_nil]; omega) | (simp <;> omega)) rfl), trivial⟩, hb, Row.nil, (by omega)⟩
  · skip
    clear hf fa; intro mq1 fa w1 hI KL1 hKL1
    clear hb
    obtain ⟨i, roa, roc, hmq1, hf, hb, hro, hi⟩ := hI
    have hcro := Row.caps hro
    refine wp_seq_k (fun K5 hK5 => ?_)
    refine wp_seq_k (fun K6 hK6 => ?_)
    refine wp_region_lit ?_
    refine sqv hf (r_move rfl) rfl rfl rfl ?_; clear hf fa; intro fa hf
    refine sqv hf (r_move rfl) rfl rfl rfl ?_; clear hf fa; intro fa hf
    refine sqv hf (r_lensl rfl Try.underlying30) rfl rfl rfl ?_; clear hf fa; intro fa hf
    refine sqv hf (r_lt rfl rfl) rfl rfl rfl ?_; clear hf fa; intro fa hf
    apply wpList_nil
    (try simp only [Exit.then, Exit.inBlock, ↓reduceIte, Nat.reduceEqDiff])
    refine hK6 _ _ ?_
    refine wp_cond_split (t := (decide (((i : Nat) : Int) < ((l.length : Nat) : Int)))) (hf.ev rfl) (fun hqt10_1 => ?_) (fun hqt10_1 => ?_)
    · have hqt10_1b := hqt10_1
      try simp only [decide_eq_true_eq, Bool.and_eq_true, Bool.or_eq_true, Bool.not_eq_true', decide_eq_false_iff_not, ne_eq, Bool.not_eq_true] at hqt10_1
      refine wp_skip ?_
      (try simp only [Exit.then, Exit.inBlock, ↓reduceIte, Nat.reduceEqDiff])
      refine hK5 _ _ ?_
      refine wp_seq_k (fun K7 hK7 => ?_)
      refine wp_block ?_
      refine wp_seq_k (fun K8 hK8 => ?_)
      obtain ⟨y, hy⟩ : ∃ x, l[i]? = some x := ⟨_, List.getElem?_eq_getElem (by omega)⟩
      have hyw := hW y (List.mem_of_getElem? hy)
      have hRl : (sortP (l.take i)).length = i := by rw [sortP_len, List.length_take]; omega
      have hws : allW (sortP (l.take i)) := allW_sortP (allW_take hW i)
      refine wp_region_lit ?_
      refine sqv hf (r_move rfl) rfl rfl rfl ?_; clear hf fa; intro fa hf
      refine sqv hf (r_lensl rfl Try.underlying30) rfl rfl rfl ?_; clear hf fa; intro fa hf
      refine sqv hf (r_assign rfl) rfl rfl rfl ?_; clear hf fa; intro fa hf
      apply wpList_nil
      (try simp only [Exit.then, Exit.inBlock, ↓reduceIte, Nat.reduceEqDiff])
      refine hK8 _ _ ?_
      refine wp_seq_k (fun K9 hK9 => ?_)
      refine wp_block ?_
      refine wp_loop_k (fun mq fa wr => ∃ (q : Nat) (roa : Option Addr) (roc : Nat), mq = q ∧ Fr 50 fa [(0, (.slice a l.length c)), (4, (.int .i64 ((i : Nat) : Int))), (5, (.int .i64 ((q : Nat) : Int))), (3, (.slice roa (((sortP (l.take i))).length) roc))] ∧ Below w.heap.size w wr ∧ Row 1 vFlt 22 (w.heap.size) wr (.slice roa (((sortP (l.take i))).length) roc) (sortP (l.take i)) ∧ (q ≤ i) ∧ (atN (sortP (l.take i)) y q = atN (sortP (l.take i)) y (sortP (l.take i)).length)) ?_ ?_
      · skip
        exact ⟨_, (sortP (l.take i)).length, roa, roc, rfl, hf.sub ⟨rfl, rfl, (some_int (by first | rfl | omega)), rfl, trivial⟩, hb, (Row.relen hro), (by omega), rfl⟩
      · skip
        clear hf fa; intro mq2 fa w2 hI KL2 hKL2
        clear hb
        clear hro
        obtain ⟨q, roa, roc, hmq2, hf, hb, hro, hq, hq2⟩ := hI
        have hcro := Row.caps hro
        skip
        refine wp_seq_k (fun K10 hK10 => ?_)
        refine wp_seq_k (fun K11 hK11 => ?_)
        by_cases hsp1 : 0 < q
        · have hsp1b : decide (0 < q) = true := decide_eq_true hsp1
          obtain ⟨rb1, rfl, hbbrb1, hlbrb1⟩ := Row.some hro (by first | omega | (simp only [Sl.list_length, List.length_set, List.length_take, List.length_append, List.length_replicate, List.length_cons, List.length_nil, List.length_map, nums_len]; omega))
          have hy1 := getD_at (l := (sortP (l.take i))) (j := (q - 1)) 0 (by first | omega | (simp only [Sl.list_length, List.length_set, List.length_take, List.length_append, List.length_replicate, List.length_cons, List.length_nil, List.length_map, nums_len]; omega))
          have hel1 := RdS.at (Row.rd (by intros; rfl) hro) hy1
          obtain ⟨_, _, hab, hlr1, hel1⟩ := hel1
          cases hab
          have hy2 : (l)[i]? = some y := hy
          obtain ⟨ab1, aoff1, hat1, hlb1, hel2⟩ := RdS.at hl hy2
          refine wp_region_un (fun wq => Below w2.heap.size w2 wq) (fun w w' => Below w.heap.size w w')
            (fun V => [(fun x _ => x = (.int .i64 ((q : Nat) : Int))), (fun x _ => x = (.bool true)), (fun x _ => x = (.bool true)), (fun x _ => x = (.slice (some ⟨rb1, 0, none⟩) (((sortP (l.take i))).length) roc)), (fun x _ => x = (.int .i64 ((q : Nat) : Int))), (fun x _ => x = (.int .i64 (((q : Nat) : Int) - (1 : Int)))), (fun x _ => x = (.pointer (some ⟨rb1, (0 + (q - 1) * 1), none⟩))), (fun x _ => x = (.float .f64 ((sortP (l.take i)).getD (q - 1) 0))), (fun x _ => x = (.slice a l.length c)), (fun x _ => x = (.int .i64 ((i : Nat) : Int))), (fun x _ => x = (.pointer (some ⟨ab1, (aoff1 + i * 1), none⟩))), (fun x _ => x = (.float .f64 y)), (fun x _ => x = (.int .i64 (ordN ((sortP (l.take i)).getD (q - 1) 0) y))), (fun x _ => x = (.bool (decide ((0 : Int) < (ordN ((sortP (l.take i)).getD (q - 1) 0) y))))), (fun x _ => x = (.bool (decide ((0 : Int) < (ordN ((sortP (l.take i)).getD (q - 1) 0) y)))))])
            []
            [[], [0], [1], [2], [2], [2, 4], [2, 3, 5], [2, 6], [2], [2], [2, 8, 9], [2, 10], [2, 7, 11], [2, 12], [2, 13]]
            hf (by kernel_rfl) (by kernel_rfl) (fun _ => rfl) ((Below.refl _ _).drew) (fun a b h1 h2 => h1.trans (h2.mono h1.size)) (fun _ _ h => h.size) (fun V => ⟨kept_eq, kept_eq, kept_eq, kept_eq, kept_eq, kept_eq, kept_eq, kept_eq, kept_eq, kept_eq, kept_eq, kept_eq, kept_eq, kept_eq, kept_eq, trivial⟩) (fun _ _ _ _ _ => rfl) ?_ ?_
          · skip
            intro V
            refine ⟨fun wu0 hC hd => ?_, ?_⟩
            · clear hd
              replace hb := hb.trans (hC.mono hb.size)
              replace hro := Row.ext hro hC
              exact Runs.does (r_move rfl) ⟨Below.refl _ _, rfl, nofr rfl⟩
            refine ⟨fun wu1 hC hd => ?_, ?_⟩
            · obtain ⟨h0, _⟩ := hd
              skip
              replace h0 : V 0 = (.int .i64 ((q : Nat) : Int)) := h0
              replace hb := hb.trans (hC.mono hb.size)
              replace hro := Row.ext hro hC
              exact Runs.does (Runs.veq (r_gt (congrArg some h0) rfl) (congrArg Value.bool (show _ = true from (decide_eq_true (by omega))))) ⟨Below.refl _ _, rfl, nofr rfl⟩
            refine ⟨fun wu2 hC hd => ?_, ?_⟩
            · obtain ⟨h1, _⟩ := hd
              skip
              replace h1 : V 1 = (.bool true) := h1
              replace hb := hb.trans (hC.mono hb.size)
              replace hro := Row.ext hro hC
              exact Runs.does (r_move (congrArg some h1)) ⟨Below.refl _ _, rfl, nofr rfl⟩
            refine ⟨fun wu3 hC hd => ?_, ?_⟩
            · obtain ⟨h2, _⟩ := hd
              skip
              replace h2 : V 2 = (.bool true) := h2
              replace hb := hb.trans (hC.mono hb.size)
              replace hro := Row.ext hro hC
              refine ⟨true, true, congrArg some h2, fun hact => ?_, fun hact => ?_⟩
              · exact Runs.does (r_move rfl) ⟨Below.refl _ _, rfl, nofr rfl⟩
              · exfalso; simp at hact
            refine ⟨fun wu4 hC hd => ?_, ?_⟩
            · obtain ⟨h2, _⟩ := hd
              skip
              replace h2 : V 2 = (.bool true) := h2
              replace hb := hb.trans (hC.mono hb.size)
              replace hro := Row.ext hro hC
              refine ⟨true, true, congrArg some h2, fun hact => ?_, fun hact => ?_⟩
              · exact Runs.does (r_move rfl) ⟨Below.refl _ _, rfl, nofr rfl⟩
              · exfalso; simp at hact
            refine ⟨fun wu5 hC hd => ?_, ?_⟩
            · obtain ⟨h2, h4, _⟩ := hd
              skip
              skip
              replace h2 : V 2 = (.bool true) := h2
              replace h4 : V 4 = (.int .i64 ((q : Nat) : Int)) := h4
              replace hb := hb.trans (hC.mono hb.size)
              replace hro := Row.ext hro hC
              refine ⟨true, true, congrArg some h2, fun hact => ?_, fun hact => ?_⟩
              · exact Runs.does (r_sub (C := (((q : Nat) : Int) - (1 : Int))) (congrArg some h4) rfl (by rw [IntKind.wrap_i64]; omega)) ⟨Below.refl _ _, rfl, nofr rfl⟩
              · exfalso; simp at hact
            refine ⟨fun wu6 hC hd => ?_, ?_⟩
            · obtain ⟨h2, h3, h5, _⟩ := hd
              skip
              skip
              skip
              replace h2 : V 2 = (.bool true) := h2
              replace h3 : V 3 = (.slice (some ⟨rb1, 0, none⟩) (((sortP (l.take i))).length) roc) := h3
              replace h5 : V 5 = (.int .i64 (((q : Nat) : Int) - (1 : Int))) := h5
              replace hb := hb.trans (hC.mono hb.size)
              replace hro := Row.ext hro hC
              refine ⟨true, true, congrArg some h2, fun hact => ?_, fun hact => ?_⟩
              · exact Runs.does (r_ixa (sz := 1) (j := (q - 1)) (congrArg some h3) (congrArg some h5) Try.underlying30 (by kernel_rfl) (by omega) (by omega) rfl) ⟨Below.refl _ _, rfl, nofr rfl⟩
              · exfalso; simp at hact
            refine ⟨fun wu7 hC hd => ?_, ?_⟩
            · obtain ⟨h2, h6, _⟩ := hd
              skip
              skip
              replace h2 : V 2 = (.bool true) := h2
              replace h6 : V 6 = (.pointer (some ⟨rb1, (0 + (q - 1) * 1), none⟩)) := h6
              replace hb := hb.trans (hC.mono hb.size)
              replace hro := Row.ext hro hC
              refine ⟨true, true, congrArg some h2, fun hact => ?_, fun hact => ?_⟩
              · exact Runs.does (r_load (v := (.float .f64 ((sortP (l.take i)).getD (q - 1) 0))) (congrArg some h6) Try.underlying22 rfl (cellsAt_cell (cellsAt_below hel1 hC hlr1) (i := 0) rfl rfl)) ⟨Below.refl _ _, rfl, nofr rfl⟩
              · exfalso; simp at hact
            refine ⟨fun wu8 hC hd => ?_, ?_⟩
            · obtain ⟨h2, _⟩ := hd
              skip
              replace h2 : V 2 = (.bool true) := h2
              replace hb := hb.trans (hC.mono hb.size)
              replace hro := Row.ext hro hC
              refine ⟨true, true, congrArg some h2, fun hact => ?_, fun hact => ?_⟩
              · exact Runs.does (r_move rfl) ⟨Below.refl _ _, rfl, nofr rfl⟩
              · exfalso; simp at hact
            refine ⟨fun wu9 hC hd => ?_, ?_⟩
            · obtain ⟨h2, _⟩ := hd
              skip
              replace h2 : V 2 = (.bool true) := h2
              replace hb := hb.trans (hC.mono hb.size)
              replace hro := Row.ext hro hC
              refine ⟨true, true, congrArg some h2, fun hact => ?_, fun hact => ?_⟩
              · exact Runs.does (r_move rfl) ⟨Below.refl _ _, rfl, nofr rfl⟩
              · exfalso; simp at hact
            refine ⟨fun wu10 hC hd => ?_, ?_⟩
            · obtain ⟨h2, h8, h9, _⟩ := hd
              skip
              skip
              skip
              replace h2 : V 2 = (.bool true) := h2
              replace h8 : V 8 = (.slice a l.length c) := h8
              replace h9 : V 9 = (.int .i64 ((i : Nat) : Int)) := h9
              replace hb := hb.trans (hC.mono hb.size)
              replace hro := Row.ext hro hC
              refine ⟨true, true, congrArg some h2, fun hact => ?_, fun hact => ?_⟩
              · exact Runs.does (r_ixa (sz := 1) (j := i) (evAt (congrArg some h8) hat1) (congrArg some h9) Try.underlying30 (by kernel_rfl) rfl (by omega) rfl) ⟨Below.refl _ _, rfl, nofr rfl⟩
              · exfalso; simp at hact
            refine ⟨fun wu11 hC hd => ?_, ?_⟩
            · obtain ⟨h2, h10, _⟩ := hd
              skip
              skip
              replace h2 : V 2 = (.bool true) := h2
              replace h10 : V 10 = (.pointer (some ⟨ab1, (aoff1 + i * 1), none⟩)) := h10
              replace hb := hb.trans (hC.mono hb.size)
              replace hro := Row.ext hro hC
              refine ⟨true, true, congrArg some h2, fun hact => ?_, fun hact => ?_⟩
              · exact Runs.does (r_load (v := (.float .f64 y)) (congrArg some h10) Try.underlying22 rfl (cellsAt_cell (cellsAt_below hel2 hb hlb1) (i := 0) rfl rfl)) ⟨Below.refl _ _, rfl, nofr rfl⟩
              · exfalso; simp at hact
            refine ⟨fun wu12 hC hd => ?_, ?_⟩
            · obtain ⟨h2, h7, h11, _⟩ := hd
              skip
              skip
              skip
              replace h2 : V 2 = (.bool true) := h2
              replace h7 : V 7 = (.float .f64 ((sortP (l.take i)).getD (q - 1) 0)) := h7
              replace h11 : V 11 = (.float .f64 y) := h11
              replace hb := hb.trans (hC.mono hb.size)
              replace hro := Row.ext hro hC
              refine ⟨true, true, congrArg some h2, fun hact => ?_, fun hact => ?_⟩
              · refine Does.mono (d_callB (vs := [(.float .f64 ((sortP (l.take i)).getD (q - 1) 0)), (.float .f64 y)]) (show [some (V 7), some (V 11)] = [some (.float .f64 ((sortP (l.take i)).getD (q - 1) 0)), some (.float .f64 y)] from by rw [h7, h11]) Try.func10 (by kernel_rfl) (by kernel_rfl) (rorder_any ((sortP (l.take i)).getD (q - 1) 0) y (allW_getD hws _) hyw _)) (fun _ _ h => ⟨h.2, h.1, nofr rfl⟩)
              · exfalso; simp at hact
            refine ⟨fun wu13 hC hd => ?_, ?_⟩
            · obtain ⟨h2, h12, _⟩ := hd
              skip
              skip
              replace h2 : V 2 = (.bool true) := h2
              replace h12 : V 12 = (.int .i64 (ordN ((sortP (l.take i)).getD (q - 1) 0) y)) := h12
              replace hb := hb.trans (hC.mono hb.size)
              replace hro := Row.ext hro hC
              refine ⟨true, true, congrArg some h2, fun hact => ?_, fun hact => ?_⟩
              · exact Runs.does (r_gt (congrArg some h12) rfl) ⟨Below.refl _ _, rfl, nofr rfl⟩
              · exfalso; simp at hact
            refine ⟨fun wu14 hC hd => ?_, ?_⟩
            · obtain ⟨h2, h13, _⟩ := hd
              skip
              skip
              replace h2 : V 2 = (.bool true) := h2
              replace h13 : V 13 = (.bool (decide ((0 : Int) < (ordN ((sortP (l.take i)).getD (q - 1) 0) y)))) := h13
              replace hb := hb.trans (hC.mono hb.size)
              replace hro := Row.ext hro hC
              exact Runs.does (r_pick (b := true) (congrArg some h2) (congrArg some h13) rfl rfl) ⟨Below.refl _ _, rfl, nofr rfl⟩
            trivial
          · skip
            clear hf fa; intro V w3 fa he1 hp hnb hf
            have hv0 : V 0 = (.int .i64 ((q : Nat) : Int)) := postsHold_at hp 0 rfl
            have hv1 : V 1 = (.bool true) := postsHold_at hp 1 rfl
            have hv2 : V 2 = (.bool true) := postsHold_at hp 2 rfl
            have hv3 : V 3 = (.slice (some ⟨rb1, 0, none⟩) (((sortP (l.take i))).length) roc) := postsHold_at hp 3 rfl
            have hv4 : V 4 = (.int .i64 ((q : Nat) : Int)) := postsHold_at hp 4 rfl
            have hv5 : V 5 = (.int .i64 (((q : Nat) : Int) - (1 : Int))) := postsHold_at hp 5 rfl
            have hv6 : V 6 = (.pointer (some ⟨rb1, (0 + (q - 1) * 1), none⟩)) := postsHold_at hp 6 rfl
            have hv7 : V 7 = (.float .f64 ((sortP (l.take i)).getD (q - 1) 0)) := postsHold_at hp 7 rfl
            have hv8 : V 8 = (.slice a l.length c) := postsHold_at hp 8 rfl
            have hv9 : V 9 = (.int .i64 ((i : Nat) : Int)) := postsHold_at hp 9 rfl
            have hv10 : V 10 = (.pointer (some ⟨ab1, (aoff1 + i * 1), none⟩)) := postsHold_at hp 10 rfl
            have hv11 : V 11 = (.float .f64 y) := postsHold_at hp 11 rfl
            have hv12 : V 12 = (.int .i64 (ordN ((sortP (l.take i)).getD (q - 1) 0) y)) := postsHold_at hp 12 rfl
            have hv13 : V 13 = (.bool (decide ((0 : Int) < (ordN ((sortP (l.take i)).getD (q - 1) 0) y)))) := postsHold_at hp 13 rfl
            have hv14 : V 14 = (.bool (decide ((0 : Int) < (ordN ((sortP (l.take i)).getD (q - 1) 0) y)))) := postsHold_at hp 14 rfl
            simp only [List.take_succ_cons, List.take_zero, insAll, ins, hv0, hv1, hv2, hv3, hv4, hv5, hv6, hv7, hv8, hv9, hv10, hv11, hv12, hv13, hv14] at hf
            clear hp hnb hv0 hv1 hv2 hv3 hv4 hv5 hv6 hv7 hv8 hv9 hv10 hv11 hv12 hv13 hv14
            replace hro := Row.ext hro he1
            replace hb := hb.trans (Below.mono he1 hb.size)
            (try simp only [Exit.then, Exit.inBlock, ↓reduceIte, Nat.reduceEqDiff])
            refine hK11 _ _ ?_
            refine wp_cond_split (t := (decide ((0 : Int) < (ordN ((sortP (l.take i)).getD (q - 1) 0) y)))) (hf.ev rfl) (fun hqt29_1 => ?_) (fun hqt29_1 => ?_)
            · have hqt29_1b := hqt29_1
              try simp only [decide_eq_true_eq, Bool.and_eq_true, Bool.or_eq_true, Bool.not_eq_true', decide_eq_false_iff_not, ne_eq, Bool.not_eq_true] at hqt29_1
              refine wp_skip ?_
              (try simp only [Exit.then, Exit.inBlock, ↓reduceIte, Nat.reduceEqDiff])
              refine hK10 _ _ ?_
              refine wp_block ?_
              refine wp_region_lit ?_
              refine sqv hf (r_move rfl) rfl rfl rfl ?_; clear hf fa; intro fa hf
              refine sqv hf (r_sub (C := (((q : Nat) : Int) - (1 : Int))) rfl rfl (by rw [IntKind.wrap_i64]; omega)) rfl rfl rfl ?_; clear hf fa; intro fa hf
              refine sqv hf (r_assign rfl) rfl rfl rfl ?_; clear hf fa; intro fa hf
              apply wpList_nil
              (try simp only [Exit.then, Exit.inBlock, ↓reduceIte, Nat.reduceEqDiff])
              refine hKL2 _ _ _ (by omega) ⟨(q - 1), (some ⟨rb1, 0, none⟩), roc, rfl, hf.sub ⟨rfl, rfl, (some_int (by first | rfl | omega)), rfl, trivial⟩, hb, (Row.relen hro), (by omega), (by rw [← hq2]; exact (atN_go (by omega) (by omega)).symm)⟩
            · have hqt29_1b := hqt29_1
              replace hqt29_1 := Bool.eq_false_iff.1 hqt29_1
              try simp only [ne_eq, decide_eq_true_eq, Bool.and_eq_true, Bool.or_eq_true, Bool.not_eq_true', decide_eq_false_iff_not] at hqt29_1
              refine wp_exit ?_
              (try simp only [Exit.then, Exit.inBlock, ↓reduceIte, Nat.reduceEqDiff])
              refine hK9 _ _ ?_
              refine wp_seq_k (fun K12 hK12 => ?_)
              have hqe : atN (sortP (l.take i)) y (sortP (l.take i)).length = q := by rw [← hq2]; exact atN_end (by intro hh; omega)
              have hse : sortP (l.take (i + 1)) = (sortP (l.take i)).take q ++ [y] ++ (sortP (l.take i)).drop q := by rw [sortP_step hy, insS, hqe]
              have hdl : ((sortP (l.take i)).drop q).length = (sortP (l.take i)).length - q := List.length_drop
              have htl : ((sortP (l.take i)).take q).length = q := by rw [List.length_take]; omega
              refine wp_region_lit ?_
              refine sqdt hf (d_bslice0 (sz := 1) Try.underlying30 (by kernel_rfl)) rfl rfl rfl ?_; clear hf fa; rintro fa _ w4 ⟨b1, rfl, hle1, hk1, he2⟩ hf
              have hBb1 : w.heap.size ≤ b1 := Nat.le_trans hb.size hle1
              have : rb1 < b1 := Nat.lt_of_lt_of_le (Row.lt hro _ rfl).2 hle1
              replace hro := Row.ext hro he2
              replace hb := hb.trans (Below.mono he2 hb.size)
              refine sqv hf (r_move rfl) rfl rfl rfl ?_; clear hf fa; intro fa hf
              refine sqv hf (r_move rfl) rfl rfl rfl ?_; clear hf fa; intro fa hf
              refine sqv hf (r_slfrom (l := q) (sz := 1) rfl rfl Try.underlying30 (by kernel_rfl) rfl (by omega)) rfl rfl rfl ?_; clear hf fa; intro fa hf
              have hr1 := Row.of_new (k := 1) (V := vFlt) (l := []) hk1 (Nat.le_refl _) rfl rfl (Nat.le_of_ble_eq_true rfl)
              refine sqdt hf (d_append (V := vFlt) (k := 1) (e := 22) (bytes := 8) (z := (.float .f64 0)) (news := ((sortP (l.take i)).drop q)) (base := b1) (by intros; rfl) (by exact oneFlt) rfl rfl Try.underlying30 (by kernel_rfl) rfl rfl rfl hr1 (slAt_rd (X := ((sortP (l.take i)).drop q)) (by intros; rfl) hro List.take_length (by rw [List.length_drop]; omega)) (by rw [List.length_drop]) (slAt_nocap (fun h => Row.nocap hro h)) (by first | omega | (simp only [List.length_cons, List.length_nil, List.length_append, nums_len]; omega)) (by first | (have := hb.size; have : rb1 < w4.heap.size := (Row.lt hro _ rfl).2; have : b1 < w4.heap.size := (Row.lt hr1 _ rfl).2; omega) | (have := Row.base_le hr1 (by first | omega | (simp only [Sl.list_length, List.length_set, List.length_take, List.length_append, List.length_replicate, List.length_cons, List.length_nil, List.length_map, nums_len]; omega)); omega))) rfl rfl rfl ?_; clear hf fa; rintro fa v w5 ⟨hr2, hg1⟩ hf; obtain ⟨ra1, rc1, rfl, hcrc1, hmrc1⟩ := Row.slice hr2
              replace hro := Row.grown' hro hg1 (fun q h1 h2 => by cases h1; exact Row.ne_base hr1 (show rb1 < b1 by omega) h2)
              replace hb := hb.trans (row_below hr1 hg1 hb.size (by have := hb.size; omega))
              simp only [List.nil_append] at hr2
              refine sqv hf (r_assign rfl) rfl rfl rfl ?_; clear hf fa; intro fa hf
              apply wpList_nil
              (try simp only [Exit.then, Exit.inBlock, ↓reduceIte, Nat.reduceEqDiff])
              refine hK12 _ _ ?_
              refine wp_region_unT 11 (fun wq => Below w5.heap.size w5 wq) (fun w w' => Below w.heap.size w w')
                (fun V => [(fun x _ => x = (.slice (some ⟨rb1, 0, none⟩) (((sortP (l.take i))).length) roc)), (fun x _ => x = (.int .i64 ((q : Nat) : Int))), (fun x _ => x = (.int .i64 ((q : Nat) : Int))), (fun x _ => x = (.slice (some ⟨rb1, 0, none⟩) q q)), (fun x _ => x = (.slice a l.length c)), (fun x _ => x = (.int .i64 ((i : Nat) : Int))), (fun x _ => x = (.pointer (some ⟨ab1, (aoff1 + i * 1), none⟩))), (fun x _ => x = (.float .f64 y)), (fun x wq => ∃ b, x = .slice (some ⟨b, 0, none⟩) 1 1 ∧ w5.heap.size ≤ b ∧ wq.heap[b]? = some (.cells #[(.float .f64 y)] 22 (0, 0))), (fun x wq => ∃ b, (∃ c, x = .slice (some ⟨b, 0, none⟩) (((sortP (l.take i)).take q ++ [y]).length) c) ∧ w5.heap.size ≤ b ∧ Row 1 vFlt 22 w5.heap.size wq x ((sortP (l.take i)).take q ++ [y])), (fun x _ => x = (.slice ra1 ((((sortP (l.take i)).drop q)).length) rc1))])
                [8, 9]
                [[], [], [], [0, 1, 2], [], [], [4, 5], [6], [7], [3, 8], [], [], []]
                hf (by kernel_rfl) (by kernel_rfl) (by kernel_rfl) (fun _ => rfl) ((Below.refl _ _).drew) (fun a b h1 h2 => h1.trans (h2.mono h1.size)) (fun _ _ h => h.size) (fun V => ⟨kept_eq, kept_eq, kept_eq, kept_eq, kept_eq, kept_eq, kept_eq, kept_eq, keptB, keptX, kept_eq, trivial⟩) (fun _ _ _ _ _ => rfl) ?_ ?_
              · skip
                intro V
                refine ⟨fun wu0 hC hd => ?_, ?_⟩
                · clear hd
                  replace hb := hb.trans (hC.mono hb.size)
                  replace hro := Row.ext hro hC
                  replace hr2 := Row.ext hr2 hC
                  exact Runs.does (r_move rfl) ⟨Below.refl _ _, rfl, nofr rfl⟩
                refine ⟨fun wu1 hC hd => ?_, ?_⟩
                · clear hd
                  replace hb := hb.trans (hC.mono hb.size)
                  replace hro := Row.ext hro hC
                  replace hr2 := Row.ext hr2 hC
                  exact Runs.does (r_move rfl) ⟨Below.refl _ _, rfl, nofr rfl⟩
                refine ⟨fun wu2 hC hd => ?_, ?_⟩
                · clear hd
                  replace hb := hb.trans (hC.mono hb.size)
                  replace hro := Row.ext hro hC
                  replace hr2 := Row.ext hr2 hC
                  exact Runs.does (r_move rfl) ⟨Below.refl _ _, rfl, nofr rfl⟩
                refine ⟨fun wu3 hC hd => ?_, ?_⟩
                · obtain ⟨h0, h1, h2, _⟩ := hd
                  skip
                  skip
                  skip
                  replace h0 : V 0 = (.slice (some ⟨rb1, 0, none⟩) (((sortP (l.take i))).length) roc) := h0
                  replace h1 : V 1 = (.int .i64 ((q : Nat) : Int)) := h1
                  replace h2 : V 2 = (.int .i64 ((q : Nat) : Int)) := h2
                  replace hb := hb.trans (hC.mono hb.size)
                  replace hro := Row.ext hro hC
                  replace hr2 := Row.ext hr2 hC
                  exact Runs.does (r_slto3 (m := q) (congrArg some h0) (congrArg some h1) (congrArg some h2) Try.underlying30 (by kernel_rfl) rfl rfl (by omega)) ⟨Below.refl _ _, rfl, nofr rfl⟩
                refine ⟨fun wu4 hC hd => ?_, ?_⟩
                · clear hd
                  replace hb := hb.trans (hC.mono hb.size)
                  replace hro := Row.ext hro hC
                  replace hr2 := Row.ext hr2 hC
                  exact Runs.does (r_move rfl) ⟨Below.refl _ _, rfl, nofr rfl⟩
                refine ⟨fun wu5 hC hd => ?_, ?_⟩
                · clear hd
                  replace hb := hb.trans (hC.mono hb.size)
                  replace hro := Row.ext hro hC
                  replace hr2 := Row.ext hr2 hC
                  exact Runs.does (r_move rfl) ⟨Below.refl _ _, rfl, nofr rfl⟩
                refine ⟨fun wu6 hC hd => ?_, ?_⟩
                · obtain ⟨h4, h5, _⟩ := hd
                  skip
                  skip
                  replace h4 : V 4 = (.slice a l.length c) := h4
                  replace h5 : V 5 = (.int .i64 ((i : Nat) : Int)) := h5
                  replace hb := hb.trans (hC.mono hb.size)
                  replace hro := Row.ext hro hC
                  replace hr2 := Row.ext hr2 hC
                  exact Runs.does (r_ixa (sz := 1) (j := i) (evAt (congrArg some h4) hat1) (congrArg some h5) Try.underlying30 (by kernel_rfl) rfl (by omega) rfl) ⟨Below.refl _ _, rfl, nofr rfl⟩
                refine ⟨fun wu7 hC hd => ?_, ?_⟩
                · obtain ⟨h6, _⟩ := hd
                  skip
                  replace h6 : V 6 = (.pointer (some ⟨ab1, (aoff1 + i * 1), none⟩)) := h6
                  replace hb := hb.trans (hC.mono hb.size)
                  replace hro := Row.ext hro hC
                  replace hr2 := Row.ext hr2 hC
                  exact Runs.does (r_load (v := (.float .f64 y)) (congrArg some h6) Try.underlying22 rfl (cellsAt_cell (cellsAt_below hel2 hb hlb1) (i := 0) rfl rfl)) ⟨Below.refl _ _, rfl, nofr rfl⟩
                refine ⟨fun wu8 hC hd => ?_, ?_⟩
                · obtain ⟨h7, _⟩ := hd
                  skip
                  replace h7 : V 7 = (.float .f64 y) := h7
                  replace hb := hb.trans (hC.mono hb.size)
                  replace hro := Row.ext hro hC
                  replace hr2 := Row.ext hr2 hC
                  refine Does.mono (d_bslice (z := (.float .f64 0)) (sz := 1) (vs := [(0, (.float .f64 y))]) (cs := #[(.float .f64 y)]) (show [(0, some (V 7))] = [(0, some (.float .f64 y))] from by rw [h7]) Try.underlying30 (by kernel_rfl) rfl (by kernel_rfl)) ?_
                  rintro _ w' ⟨b, rfl, hF⟩
                  exact ⟨hF.2.2, ⟨b, rfl, Nat.le_trans hC.size hF.1, hF.2.1⟩, isfr rfl hF.1 (blk_lt hF.2.1)⟩
                refine ⟨fun wu9 hC hd => ?_, ?_⟩
                · obtain ⟨h3, h8, _⟩ := hd
                  skip
                  skip
                  replace h3 : V 3 = (.slice (some ⟨rb1, 0, none⟩) q q) := h3
                  obtain ⟨b2, h8, hle2, hk2⟩ := h8
                  replace hb := hb.trans (hC.mono hb.size)
                  replace hro := Row.ext hro hC
                  replace hr2 := Row.ext hr2 hC
                  refine Does.mono (d_appendFull (V := vFlt) (k := 1) (e := 22) (bytes := 8) (z := (.float .f64 0)) (olds := (sortP (l.take i)).take q) (news := [y]) (by intros; rfl) (by exact oneFlt) (congrArg some h3) (congrArg some h8) Try.underlying30 (by kernel_rfl) rfl rfl rfl (RdS.take q (Row.rd (by intros; rfl) hro)) (by rw [List.length_take]; omega) (fun h => by have h1 := Row.nocap hro h; have h2 := Row.caps hro; omega) (row_off hro) (Row.rd (by intros; rfl) (Row.of_new (k := 1) (V := vFlt) (l := [y]) hk2 (Nat.le_refl _) rfl rfl (Nat.le_of_ble_eq_true rfl))) rfl (by decide) (by rw [List.length_take]; simp only [List.length_cons, List.length_nil]; omega)) ?_
                  rintro _ w' ⟨⟨b, ⟨c, rfl⟩, hF, hF4⟩, hF3⟩
                  exact ⟨hF3, ⟨b, ⟨c, rfl⟩, Nat.le_trans hC.size hF, hF4.rebase hC.size⟩, isfr rfl hF (Row.lt hF4 _ rfl).2⟩
                refine ⟨fun wu10 hC hd => ?_, ?_⟩
                · clear hd
                  replace hb := hb.trans (hC.mono hb.size)
                  replace hro := Row.ext hro hC
                  replace hr2 := Row.ext hr2 hC
                  exact Runs.does (r_move rfl) ⟨Below.refl _ _, rfl, nofr rfl⟩
                trivial
              · skip
                clear hf fa; intro V w6 fa he3 hp hnb hf
                have hv0 : V 0 = (.slice (some ⟨rb1, 0, none⟩) (((sortP (l.take i))).length) roc) := postsHold_at hp 0 rfl
                have hv1 : V 1 = (.int .i64 ((q : Nat) : Int)) := postsHold_at hp 1 rfl
                have hv2 : V 2 = (.int .i64 ((q : Nat) : Int)) := postsHold_at hp 2 rfl
                have hv3 : V 3 = (.slice (some ⟨rb1, 0, none⟩) q q) := postsHold_at hp 3 rfl
                have hv4 : V 4 = (.slice a l.length c) := postsHold_at hp 4 rfl
                have hv5 : V 5 = (.int .i64 ((i : Nat) : Int)) := postsHold_at hp 5 rfl
                have hv6 : V 6 = (.pointer (some ⟨ab1, (aoff1 + i * 1), none⟩)) := postsHold_at hp 6 rfl
                have hv7 : V 7 = (.float .f64 y) := postsHold_at hp 7 rfl
                have hv8 := postsHold_at hp 8 rfl
                obtain ⟨b2, hv8, hle2, hk2⟩ := hv8
                have hBb2 : w.heap.size ≤ b2 := Nat.le_trans hb.size hle2
                have hv9 := postsHold_at hp 9 rfl
                obtain ⟨mb1, ⟨mc1, hv9⟩, hle3, hr3⟩ := hv9
                rw [hv9] at hr3
                replace hr3 := Row.rebase hr3 hb.size
                have hcmc1 := Row.caps hr3
                have hBmb1 : w.heap.size ≤ mb1 := Nat.le_trans hb.size hle3
                have hv10 : V 10 = (.slice ra1 ((((sortP (l.take i)).drop q)).length) rc1) := postsHold_at hp 10 rfl
                simp only [List.take_succ_cons, List.take_zero, insAll, ins, hv0, hv1, hv2, hv3, hv4, hv5, hv6, hv7, hv8, hv9, hv10] at hf
                have : b2 ≠ mb1 := two_blk (i := 8) (j := 9) hnb rfl rfl rfl rfl rfl (by rw [hv8]; rfl) (by rw [hv9]; rfl)
                have hnr1 : (Value.slice ra1 (((((sortP (l.take i)).drop q)).length)) rc1).ownBlock ≠ some b2 := fun hq => by have := (Row.lt hr2 _ hq).2; have := hle2; omega
                have hnr2 : (Value.slice ra1 (((((sortP (l.take i)).drop q)).length)) rc1).ownBlock ≠ some mb1 := fun hq => by have := (Row.lt hr2 _ hq).2; have := hle3; omega
                clear hp hnb hv0 hv1 hv2 hv3 hv4 hv5 hv6 hv7 hv8 hv9 hv10
                replace hro := Row.ext hro he3
                replace hr2 := Row.ext hr2 he3
                replace hb := hb.trans (Below.mono he3 hb.size)
                simp only [List.drop_succ_cons, List.drop_zero]
                refine sqdt hf (d_append (V := vFlt) (k := 1) (e := 22) (bytes := 8) (z := (.float .f64 0)) (news := ((sortP (l.take i)).drop q)) (base := w.heap.size) (by intros; rfl) (by exact oneFlt) rfl rfl Try.underlying30 (by kernel_rfl) rfl rfl rfl hr3 (Row.rd (by intros; rfl) hr2) rfl (fun h => Row.nocap hr2 h) (by first | omega | (simp only [List.length_cons, List.length_nil, List.length_append, nums_len]; omega)) (by have := hb.size; omega)) rfl rfl rfl ?_; clear hf fa; rintro fa v w7 ⟨hr4, hg2⟩ hf; obtain ⟨ra2, rc2, rfl, hcrc2, hmrc2⟩ := Row.slice hr4
                replace hb := hb.trans (row_below hr3 hg2 hb.size (by have := hb.size; omega))
                refine sqv hf (r_assign rfl) rfl rfl rfl ?_; clear hf fa; intro fa hf
                apply wpList_nil
                (try simp only [Exit.then, Exit.inBlock, ↓reduceIte, Nat.reduceEqDiff])
                refine hK7 _ _ ?_
                refine wp_region_lit ?_
                refine sqv hf (r_move rfl) rfl rfl rfl ?_; clear hf fa; intro fa hf
                refine sqv hf (r_add (C := (((i : Nat) : Int) + (1 : Int))) rfl rfl (by rw [IntKind.wrap_i64]; omega)) rfl rfl rfl ?_; clear hf fa; intro fa hf
                refine sqv hf (r_assign rfl) rfl rfl rfl ?_; clear hf fa; intro fa hf
                apply wpList_nil
                (try simp only [Exit.then, Exit.inBlock, ↓reduceIte, Nat.reduceEqDiff])
                have hsl9 : (sortP (l.take (i + 1))).length = i + 1 := by rw [sortP_len, List.length_take]; omega
                refine hKL1 _ _ _ (by omega) ⟨(i + 1), ra2, rc2, rfl, hf.sub ⟨rfl, (some_int (by first | rfl | omega)), (some_sl (by first | omega | rfl | (simp only [List.length_append, List.length_cons, List.length_nil]; omega) | (simp <;> omega)) rfl), trivial⟩, hb, (by rw [hse]; exact Row.relen (Row.rebase hr4 (by omega))), (by omega)⟩
        · have hsp1b : decide (0 < q) = false := decide_eq_false hsp1
          refine wp_region_un (fun wq => Below w2.heap.size w2 wq) (fun w w' => Below w.heap.size w w')
            (fun V => [(fun x _ => x = (.int .i64 ((q : Nat) : Int))), (fun x _ => x = (.bool false)), (fun x _ => x = (.bool false)), (fun x _ => x = gb false (.bool false)), (fun x _ => x = gb false (.bool false)), (fun x _ => x = gb false (.bool false)), (fun x _ => x = gb false (.bool false)), (fun x _ => x = gb false (.bool false)), (fun x _ => x = gb false (.bool false)), (fun x _ => x = gb false (.bool false)), (fun x _ => x = gb false (.bool false)), (fun x _ => x = gb false (.bool false)), (fun x _ => x = gb false (.bool false)), (fun x _ => x = gb false (.bool false)), (fun x _ => x = (.bool false))])
            []
            [[], [0], [1], [2], [2], [2, 4], [2, 3, 5], [2, 6], [2], [2], [2, 8, 9], [2, 10], [2, 7, 11], [2, 12], [2, 13]]
            hf (by kernel_rfl) (by kernel_rfl) (fun _ => rfl) ((Below.refl _ _).drew) (fun a b h1 h2 => h1.trans (h2.mono h1.size)) (fun _ _ h => h.size) (fun V => ⟨kept_eq, kept_eq, kept_eq, kept_eq, kept_eq, kept_eq, kept_eq, kept_eq, kept_eq, kept_eq, kept_eq, kept_eq, kept_eq, kept_eq, kept_eq, trivial⟩) (fun _ _ _ _ _ => rfl) ?_ ?_
          · skip
            intro V
            refine ⟨fun wu0 hC hd => ?_, ?_⟩
            · clear hd
              replace hb := hb.trans (hC.mono hb.size)
              replace hro := Row.ext hro hC
              exact Runs.does (r_move rfl) ⟨Below.refl _ _, rfl, nofr rfl⟩
            refine ⟨fun wu1 hC hd => ?_, ?_⟩
            · obtain ⟨h0, _⟩ := hd
              skip
              replace h0 : V 0 = (.int .i64 ((q : Nat) : Int)) := h0
              replace hb := hb.trans (hC.mono hb.size)
              replace hro := Row.ext hro hC
              exact Runs.does (Runs.veq (r_gt (congrArg some h0) rfl) (congrArg Value.bool (show _ = false from (decide_eq_false (by omega))))) ⟨Below.refl _ _, rfl, nofr rfl⟩
            refine ⟨fun wu2 hC hd => ?_, ?_⟩
            · obtain ⟨h1, _⟩ := hd
              skip
              replace h1 : V 1 = (.bool false) := h1
              replace hb := hb.trans (hC.mono hb.size)
              replace hro := Row.ext hro hC
              exact Runs.does (r_move (congrArg some h1)) ⟨Below.refl _ _, rfl, nofr rfl⟩
            refine ⟨fun wu3 hC hd => ?_, ?_⟩
            · obtain ⟨h2, _⟩ := hd
              skip
              replace h2 : V 2 = (.bool false) := h2
              replace hb := hb.trans (hC.mono hb.size)
              replace hro := Row.ext hro hC
              refine ⟨true, false, congrArg some h2, fun hact => ?_, fun hact => ?_⟩
              · exfalso; simp at hact
              · exact ⟨Below.refl _ _, rfl, nofr rfl⟩
            refine ⟨fun wu4 hC hd => ?_, ?_⟩
            · obtain ⟨h2, _⟩ := hd
              skip
              replace h2 : V 2 = (.bool false) := h2
              replace hb := hb.trans (hC.mono hb.size)
              replace hro := Row.ext hro hC
              refine ⟨true, false, congrArg some h2, fun hact => ?_, fun hact => ?_⟩
              · exfalso; simp at hact
              · exact ⟨Below.refl _ _, rfl, nofr rfl⟩
            refine ⟨fun wu5 hC hd => ?_, ?_⟩
            · obtain ⟨h2, h4, _⟩ := hd
              skip
              skip
              replace h2 : V 2 = (.bool false) := h2
              replace h4 : V 4 = gb false (.bool false) := h4
              replace hb := hb.trans (hC.mono hb.size)
              replace hro := Row.ext hro hC
              refine ⟨true, false, congrArg some h2, fun hact => ?_, fun hact => ?_⟩
              · exfalso; simp at hact
              · exact ⟨Below.refl _ _, rfl, nofr rfl⟩
            refine ⟨fun wu6 hC hd => ?_, ?_⟩
            · obtain ⟨h2, h3, h5, _⟩ := hd
              skip
              skip
              skip
              replace h2 : V 2 = (.bool false) := h2
              replace h3 : V 3 = gb false (.bool false) := h3
              replace h5 : V 5 = gb false (.bool false) := h5
              replace hb := hb.trans (hC.mono hb.size)
              replace hro := Row.ext hro hC
              refine ⟨true, false, congrArg some h2, fun hact => ?_, fun hact => ?_⟩
              · exfalso; simp at hact
              · exact ⟨Below.refl _ _, rfl, nofr rfl⟩
            refine ⟨fun wu7 hC hd => ?_, ?_⟩
            · obtain ⟨h2, h6, _⟩ := hd
              skip
              skip
              replace h2 : V 2 = (.bool false) := h2
              replace h6 : V 6 = gb false (.bool false) := h6
              replace hb := hb.trans (hC.mono hb.size)
              replace hro := Row.ext hro hC
              refine ⟨true, false, congrArg some h2, fun hact => ?_, fun hact => ?_⟩
              · exfalso; simp at hact
              · exact ⟨Below.refl _ _, rfl, nofr rfl⟩
            refine ⟨fun wu8 hC hd => ?_, ?_⟩
            · obtain ⟨h2, _⟩ := hd
              skip
              replace h2 : V 2 = (.bool false) := h2
              replace hb := hb.trans (hC.mono hb.size)
              replace hro := Row.ext hro hC
              refine ⟨true, false, congrArg some h2, fun hact => ?_, fun hact => ?_⟩
              · exfalso; simp at hact
              · exact ⟨Below.refl _ _, rfl, nofr rfl⟩
            refine ⟨fun wu9 hC hd => ?_, ?_⟩
            · obtain ⟨h2, _⟩ := hd
              skip
              replace h2 : V 2 = (.bool false) := h2
              replace hb := hb.trans (hC.mono hb.size)
              replace hro := Row.ext hro hC
              refine ⟨true, false, congrArg some h2, fun hact => ?_, fun hact => ?_⟩
              · exfalso; simp at hact
              · exact ⟨Below.refl _ _, rfl, nofr rfl⟩
            refine ⟨fun wu10 hC hd => ?_, ?_⟩
            · obtain ⟨h2, h8, h9, _⟩ := hd
              skip
              skip
              skip
              replace h2 : V 2 = (.bool false) := h2
              replace h8 : V 8 = gb false (.bool false) := h8
              replace h9 : V 9 = gb false (.bool false) := h9
              replace hb := hb.trans (hC.mono hb.size)
              replace hro := Row.ext hro hC
              refine ⟨true, false, congrArg some h2, fun hact => ?_, fun hact => ?_⟩
              · exfalso; simp at hact
              · exact ⟨Below.refl _ _, rfl, nofr rfl⟩
            refine ⟨fun wu11 hC hd => ?_, ?_⟩
            · obtain ⟨h2, h10, _⟩ := hd
              skip
              skip
              replace h2 : V 2 = (.bool false) := h2
              replace h10 : V 10 = gb false (.bool false) := h10
              replace hb := hb.trans (hC.mono hb.size)
              replace hro := Row.ext hro hC
              refine ⟨true, false, congrArg some h2, fun hact => ?_, fun hact => ?_⟩
              · exfalso; simp at hact
              · exact ⟨Below.refl _ _, rfl, nofr rfl⟩
            refine ⟨fun wu12 hC hd => ?_, ?_⟩
            · obtain ⟨h2, h7, h11, _⟩ := hd
              skip
              skip
              skip
              replace h2 : V 2 = (.bool false) := h2
              replace h7 : V 7 = gb false (.bool false) := h7
              replace h11 : V 11 = gb false (.bool false) := h11
              replace hb := hb.trans (hC.mono hb.size)
              replace hro := Row.ext hro hC
              refine ⟨true, false, congrArg some h2, fun hact => ?_, fun hact => ?_⟩
              · exfalso; simp at hact
              · exact ⟨Below.refl _ _, rfl, nofr rfl⟩
            refine ⟨fun wu13 hC hd => ?_, ?_⟩
            · obtain ⟨h2, h12, _⟩ := hd
              skip
              skip
              replace h2 : V 2 = (.bool false) := h2
              replace h12 : V 12 = gb false (.bool false) := h12
              replace hb := hb.trans (hC.mono hb.size)
              replace hro := Row.ext hro hC
              refine ⟨true, false, congrArg some h2, fun hact => ?_, fun hact => ?_⟩
              · exfalso; simp at hact
              · exact ⟨Below.refl _ _, rfl, nofr rfl⟩
            refine ⟨fun wu14 hC hd => ?_, ?_⟩
            · obtain ⟨h2, h13, _⟩ := hd
              skip
              skip
              replace h2 : V 2 = (.bool false) := h2
              replace h13 : V 13 = gb false (.bool false) := h13
              replace hb := hb.trans (hC.mono hb.size)
              replace hro := Row.ext hro hC
              exact Runs.does (r_pick (b := false) (congrArg some h2) (congrArg some h13) rfl rfl) ⟨Below.refl _ _, rfl, nofr rfl⟩
            trivial
          · skip
            clear hf fa; intro V w8 fa he4 hp hnb hf
            have hv0 : V 0 = (.int .i64 ((q : Nat) : Int)) := postsHold_at hp 0 rfl
            have hv1 : V 1 = (.bool false) := postsHold_at hp 1 rfl
            have hv2 : V 2 = (.bool false) := postsHold_at hp 2 rfl
            have hv3 : V 3 = gb false (.bool false) := postsHold_at hp 3 rfl
            have hv4 : V 4 = gb false (.bool false) := postsHold_at hp 4 rfl
            have hv5 : V 5 = gb false (.bool false) := postsHold_at hp 5 rfl
            have hv6 : V 6 = gb false (.bool false) := postsHold_at hp 6 rfl
            have hv7 : V 7 = gb false (.bool false) := postsHold_at hp 7 rfl
            have hv8 : V 8 = gb false (.bool false) := postsHold_at hp 8 rfl
            have hv9 : V 9 = gb false (.bool false) := postsHold_at hp 9 rfl
            have hv10 : V 10 = gb false (.bool false) := postsHold_at hp 10 rfl
            have hv11 : V 11 = gb false (.bool false) := postsHold_at hp 11 rfl
            have hv12 : V 12 = gb false (.bool false) := postsHold_at hp 12 rfl
            have hv13 : V 13 = gb false (.bool false) := postsHold_at hp 13 rfl
            have hv14 : V 14 = (.bool false) := postsHold_at hp 14 rfl
            simp only [List.take_succ_cons, List.take_zero, insAll, ins, hv0, hv1, hv2, hv3, hv4, hv5, hv6, hv7, hv8, hv9, hv10, hv11, hv12, hv13, hv14] at hf
            clear hp hnb hv0 hv1 hv2 hv3 hv4 hv5 hv6 hv7 hv8 hv9 hv10 hv11 hv12 hv13 hv14
            replace hro := Row.ext hro he4
            replace hb := hb.trans (Below.mono he4 hb.size)
            (try simp only [Exit.then, Exit.inBlock, ↓reduceIte, Nat.reduceEqDiff])
            refine hK11 _ _ ?_
            refine wp_cond_false (hf.ev rfl) ?_
            refine wp_exit ?_
            (try simp only [Exit.then, Exit.inBlock, ↓reduceIte, Nat.reduceEqDiff])
            refine hK9 _ _ ?_
            refine wp_seq_k (fun K13 hK13 => ?_)
            have hqe : atN (sortP (l.take i)) y (sortP (l.take i)).length = q := by rw [← hq2]; exact atN_end (by intro hh; omega)
            have hse : sortP (l.take (i + 1)) = (sortP (l.take i)).take q ++ [y] ++ (sortP (l.take i)).drop q := by rw [sortP_step hy, insS, hqe]
            have hdl : ((sortP (l.take i)).drop q).length = (sortP (l.take i)).length - q := List.length_drop
            have htl : ((sortP (l.take i)).take q).length = q := by rw [List.length_take]; omega
            refine wp_region_lit ?_
            refine sqdt hf (d_bslice0 (sz := 1) Try.underlying30 (by kernel_rfl)) rfl rfl rfl ?_; clear hf fa; rintro fa _ w9 ⟨b3, rfl, hle4, hk3, he5⟩ hf
            have hBb3 : w.heap.size ≤ b3 := Nat.le_trans hb.size hle4
            have hnr3 : (Value.slice roa ((((sortP (l.take i))).length)) roc).ownBlock ≠ some b3 := fun hq => by have := (Row.lt hro _ hq).2; omega
            have hnl1 : ∀ q, (Value.slice roa ((((sortP (l.take i))).length)) roc).ownBlock = some q → q < b3 := fun q hq => Nat.lt_of_lt_of_le (Row.lt hro q hq).2 hle4
            replace hro := Row.ext hro he5
            replace hb := hb.trans (Below.mono he5 hb.size)
            refine sqv hf (r_move rfl) rfl rfl rfl ?_; clear hf fa; intro fa hf
            refine sqv hf (r_move rfl) rfl rfl rfl ?_; clear hf fa; intro fa hf
            refine sqv hf (r_slfrom (l := q) (sz := 1) rfl rfl Try.underlying30 (by kernel_rfl) rfl (by omega)) rfl rfl rfl ?_; clear hf fa; intro fa hf
            have hr5 := Row.of_new (k := 1) (V := vFlt) (l := []) hk3 (Nat.le_refl _) rfl rfl (Nat.le_of_ble_eq_true rfl)
            refine sqdt hf (d_append (V := vFlt) (k := 1) (e := 22) (bytes := 8) (z := (.float .f64 0)) (news := ((sortP (l.take i)).drop q)) (base := b3) (by intros; rfl) (by exact oneFlt) rfl rfl Try.underlying30 (by kernel_rfl) rfl rfl rfl hr5 (slAt_rd (X := ((sortP (l.take i)).drop q)) (by intros; rfl) hro List.take_length (by rw [List.length_drop]; omega)) (by rw [List.length_drop]) (slAt_nocap (fun h => Row.nocap hro h)) (by first | omega | (simp only [List.length_cons, List.length_nil, List.length_append, nums_len]; omega)) (by first | (have := hb.size; have : b3 < w9.heap.size := (Row.lt hr5 _ rfl).2; omega) | (have := Row.base_le hr5 (by first | omega | (simp only [Sl.list_length, List.length_set, List.length_take, List.length_append, List.length_replicate, List.length_cons, List.length_nil, List.length_map, nums_len]; omega)); omega))) rfl rfl rfl ?_; clear hf fa; rintro fa v w10 ⟨hr6, hg3⟩ hf; obtain ⟨ra3, rc3, rfl, hcrc3, hmrc3⟩ := Row.slice hr6
            replace hro := Row.grown' hro hg3 (fun q h1 h2 => Row.ne_base hr5 (hnl1 q h1) h2)
            replace hb := hb.trans (row_below hr5 hg3 hb.size (by have := hb.size; omega))
            simp only [List.nil_append] at hr6
            refine sqv hf (r_assign rfl) rfl rfl rfl ?_; clear hf fa; intro fa hf
            apply wpList_nil
            (try simp only [Exit.then, Exit.inBlock, ↓reduceIte, Nat.reduceEqDiff])
            refine hK13 _ _ ?_
            have hy3 : (l)[i]? = some y := hy
            obtain ⟨ab2, aoff2, hat2, hlb2, hel3⟩ := RdS.at hl hy3
            refine wp_region_unT 11 (fun wq => Below w10.heap.size w10 wq) (fun w w' => Below w.heap.size w w')
              (fun V => [(fun x _ => x = (.slice roa (((sortP (l.take i))).length) roc)), (fun x _ => x = (.int .i64 ((q : Nat) : Int))), (fun x _ => x = (.int .i64 ((q : Nat) : Int))), (fun x _ => x = (.slice roa q q)), (fun x _ => x = (.slice a l.length c)), (fun x _ => x = (.int .i64 ((i : Nat) : Int))), (fun x _ => x = (.pointer (some ⟨ab2, (aoff2 + i * 1), none⟩))), (fun x _ => x = (.float .f64 y)), (fun x wq => ∃ b, x = .slice (some ⟨b, 0, none⟩) 1 1 ∧ w10.heap.size ≤ b ∧ wq.heap[b]? = some (.cells #[(.float .f64 y)] 22 (0, 0))), (fun x wq => ∃ b, (∃ c, x = .slice (some ⟨b, 0, none⟩) (((sortP (l.take i)).take q ++ [y]).length) c) ∧ w10.heap.size ≤ b ∧ Row 1 vFlt 22 w10.heap.size wq x ((sortP (l.take i)).take q ++ [y])), (fun x _ => x = (.slice ra3 ((((sortP (l.take i)).drop q)).length) rc3))])
              [8, 9]
              [[], [], [], [0, 1, 2], [], [], [4, 5], [6], [7], [3, 8], [], [], []]
              hf (by kernel_rfl) (by kernel_rfl) (by kernel_rfl) (fun _ => rfl) ((Below.refl _ _).drew) (fun a b h1 h2 => h1.trans (h2.mono h1.size)) (fun _ _ h => h.size) (fun V => ⟨kept_eq, kept_eq, kept_eq, kept_eq, kept_eq, kept_eq, kept_eq, kept_eq, keptB, keptX, kept_eq, trivial⟩) (fun _ _ _ _ _ => rfl) ?_ ?_
            · skip
              intro V
              refine ⟨fun wu0 hC hd => ?_, ?_⟩
              · clear hd
                replace hb := hb.trans (hC.mono hb.size)
                replace hro := Row.ext hro hC
                replace hr6 := Row.ext hr6 hC
                exact Runs.does (r_move rfl) ⟨Below.refl _ _, rfl, nofr rfl⟩
              refine ⟨fun wu1 hC hd => ?_, ?_⟩
              · clear hd
                replace hb := hb.trans (hC.mono hb.size)
                replace hro := Row.ext hro hC
                replace hr6 := Row.ext hr6 hC
                exact Runs.does (r_move rfl) ⟨Below.refl _ _, rfl, nofr rfl⟩
              refine ⟨fun wu2 hC hd => ?_, ?_⟩
              · clear hd
                replace hb := hb.trans (hC.mono hb.size)
                replace hro := Row.ext hro hC
                replace hr6 := Row.ext hr6 hC
                exact Runs.does (r_move rfl) ⟨Below.refl _ _, rfl, nofr rfl⟩
              refine ⟨fun wu3 hC hd => ?_, ?_⟩
              · obtain ⟨h0, h1, h2, _⟩ := hd
                skip
                skip
                skip
                replace h0 : V 0 = (.slice roa (((sortP (l.take i))).length) roc) := h0
                replace h1 : V 1 = (.int .i64 ((q : Nat) : Int)) := h1
                replace h2 : V 2 = (.int .i64 ((q : Nat) : Int)) := h2
                replace hb := hb.trans (hC.mono hb.size)
                replace hro := Row.ext hro hC
                replace hr6 := Row.ext hr6 hC
                exact Runs.does (r_slto3 (m := q) (congrArg some h0) (congrArg some h1) (congrArg some h2) Try.underlying30 (by kernel_rfl) rfl rfl (by omega)) ⟨Below.refl _ _, rfl, nofr rfl⟩
              refine ⟨fun wu4 hC hd => ?_, ?_⟩
              · clear hd
                replace hb := hb.trans (hC.mono hb.size)
                replace hro := Row.ext hro hC
                replace hr6 := Row.ext hr6 hC
                exact Runs.does (r_move rfl) ⟨Below.refl _ _, rfl, nofr rfl⟩
              refine ⟨fun wu5 hC hd => ?_, ?_⟩
              · clear hd
                replace hb := hb.trans (hC.mono hb.size)
                replace hro := Row.ext hro hC
                replace hr6 := Row.ext hr6 hC
                exact Runs.does (r_move rfl) ⟨Below.refl _ _, rfl, nofr rfl⟩
              refine ⟨fun wu6 hC hd => ?_, ?_⟩
              · obtain ⟨h4, h5, _⟩ := hd
                skip
                skip
                replace h4 : V 4 = (.slice a l.length c) := h4
                replace h5 : V 5 = (.int .i64 ((i : Nat) : Int)) := h5
                replace hb := hb.trans (hC.mono hb.size)
                replace hro := Row.ext hro hC
                replace hr6 := Row.ext hr6 hC
                exact Runs.does (r_ixa (sz := 1) (j := i) (evAt (congrArg some h4) hat2) (congrArg some h5) Try.underlying30 (by kernel_rfl) rfl (by omega) rfl) ⟨Below.refl _ _, rfl, nofr rfl⟩
              refine ⟨fun wu7 hC hd => ?_, ?_⟩
              · obtain ⟨h6, _⟩ := hd
                skip
                replace h6 : V 6 = (.pointer (some ⟨ab2, (aoff2 + i * 1), none⟩)) := h6
                replace hb := hb.trans (hC.mono hb.size)
                replace hro := Row.ext hro hC
                replace hr6 := Row.ext hr6 hC
                exact Runs.does (r_load (v := (.float .f64 y)) (congrArg some h6) Try.underlying22 rfl (cellsAt_cell (cellsAt_below hel3 hb hlb2) (i := 0) rfl rfl)) ⟨Below.refl _ _, rfl, nofr rfl⟩
              refine ⟨fun wu8 hC hd => ?_, ?_⟩
              · obtain ⟨h7, _⟩ := hd
                skip
                replace h7 : V 7 = (.float .f64 y) := h7
                replace hb := hb.trans (hC.mono hb.size)
                replace hro := Row.ext hro hC
                replace hr6 := Row.ext hr6 hC
                refine Does.mono (d_bslice (z := (.float .f64 0)) (sz := 1) (vs := [(0, (.float .f64 y))]) (cs := #[(.float .f64 y)]) (show [(0, some (V 7))] = [(0, some (.float .f64 y))] from by rw [h7]) Try.underlying30 (by kernel_rfl) rfl (by kernel_rfl)) ?_
                rintro _ w' ⟨b, rfl, hF⟩
                exact ⟨hF.2.2, ⟨b, rfl, Nat.le_trans hC.size hF.1, hF.2.1⟩, isfr rfl hF.1 (blk_lt hF.2.1)⟩
              refine ⟨fun wu9 hC hd => ?_, ?_⟩
              · obtain ⟨h3, h8, _⟩ := hd
                skip
                skip
                replace h3 : V 3 = (.slice roa q q) := h3
                obtain ⟨b4, h8, hle5, hk4⟩ := h8
                replace hb := hb.trans (hC.mono hb.size)
                replace hro := Row.ext hro hC
                replace hr6 := Row.ext hr6 hC
                refine Does.mono (d_appendFull (V := vFlt) (k := 1) (e := 22) (bytes := 8) (z := (.float .f64 0)) (olds := (sortP (l.take i)).take q) (news := [y]) (by intros; rfl) (by exact oneFlt) (congrArg some h3) (congrArg some h8) Try.underlying30 (by kernel_rfl) rfl rfl rfl (RdS.take q (Row.rd (by intros; rfl) hro)) (by rw [List.length_take]; omega) (fun h => by have h1 := Row.nocap hro h; have h2 := Row.caps hro; omega) (row_off hro) (Row.rd (by intros; rfl) (Row.of_new (k := 1) (V := vFlt) (l := [y]) hk4 (Nat.le_refl _) rfl rfl (Nat.le_of_ble_eq_true rfl))) rfl (by decide) (by rw [List.length_take]; simp only [List.length_cons, List.length_nil]; omega)) ?_
                rintro _ w' ⟨⟨b, ⟨c, rfl⟩, hF, hF4⟩, hF3⟩
                exact ⟨hF3, ⟨b, ⟨c, rfl⟩, Nat.le_trans hC.size hF, hF4.rebase hC.size⟩, isfr rfl hF (Row.lt hF4 _ rfl).2⟩
              refine ⟨fun wu10 hC hd => ?_, ?_⟩
              · clear hd
                replace hb := hb.trans (hC.mono hb.size)
                replace hro := Row.ext hro hC
                replace hr6 := Row.ext hr6 hC
                exact Runs.does (r_move rfl) ⟨Below.refl _ _, rfl, nofr rfl⟩
              trivial
            · skip
              clear hf fa; intro V w11 fa he6 hp hnb hf
              have hv0 : V 0 = (.slice roa (((sortP (l.take i))).length) roc) := postsHold_at hp 0 rfl
              have hv1 : V 1 = (.int .i64 ((q : Nat) : Int)) := postsHold_at hp 1 rfl
              have hv2 : V 2 = (.int .i64 ((q : Nat) : Int)) := postsHold_at hp 2 rfl
              have hv3 : V 3 = (.slice roa q q) := postsHold_at hp 3 rfl
              have hv4 : V 4 = (.slice a l.length c) := postsHold_at hp 4 rfl
              have hv5 : V 5 = (.int .i64 ((i : Nat) : Int)) := postsHold_at hp 5 rfl
              have hv6 : V 6 = (.pointer (some ⟨ab2, (aoff2 + i * 1), none⟩)) := postsHold_at hp 6 rfl
              have hv7 : V 7 = (.float .f64 y) := postsHold_at hp 7 rfl
              have hv8 := postsHold_at hp 8 rfl
              obtain ⟨b4, hv8, hle5, hk4⟩ := hv8
              have hBb4 : w.heap.size ≤ b4 := Nat.le_trans hb.size hle5
              have hv9 := postsHold_at hp 9 rfl
              obtain ⟨mb2, ⟨mc2, hv9⟩, hle6, hr7⟩ := hv9
              rw [hv9] at hr7
              replace hr7 := Row.rebase hr7 hb.size
              have hcmc2 := Row.caps hr7
              have hBmb2 : w.heap.size ≤ mb2 := Nat.le_trans hb.size hle6
              have hv10 : V 10 = (.slice ra3 ((((sortP (l.take i)).drop q)).length) rc3) := postsHold_at hp 10 rfl
              simp only [List.take_succ_cons, List.take_zero, insAll, ins, hv0, hv1, hv2, hv3, hv4, hv5, hv6, hv7, hv8, hv9, hv10] at hf
              have : b4 ≠ mb2 := two_blk (i := 8) (j := 9) hnb rfl rfl rfl rfl rfl (by rw [hv8]; rfl) (by rw [hv9]; rfl)
              have hnr4 : (Value.slice roa ((((sortP (l.take i))).length)) roc).ownBlock ≠ some b4 := fun hq => by have := (Row.lt hro _ hq).2; have := hle5; omega
              have hnr5 : (Value.slice roa ((((sortP (l.take i))).length)) roc).ownBlock ≠ some mb2 := fun hq => by have := (Row.lt hro _ hq).2; have := hle6; omega
              have hnr6 : (Value.slice ra3 (((((sortP (l.take i)).drop q)).length)) rc3).ownBlock ≠ some b4 := fun hq => by have := (Row.lt hr6 _ hq).2; have := hle5; omega
              have hnr7 : (Value.slice ra3 (((((sortP (l.take i)).drop q)).length)) rc3).ownBlock ≠ some mb2 := fun hq => by have := (Row.lt hr6 _ hq).2; have := hle6; omega
              clear hp hnb hv0 hv1 hv2 hv3 hv4 hv5 hv6 hv7 hv8 hv9 hv10
              replace hro := Row.ext hro he6
              replace hr6 := Row.ext hr6 he6
              replace hb := hb.trans (Below.mono he6 hb.size)
              simp only [List.drop_succ_cons, List.drop_zero]
              refine sqdt hf (d_append (V := vFlt) (k := 1) (e := 22) (bytes := 8) (z := (.float .f64 0)) (news := ((sortP (l.take i)).drop q)) (base := w.heap.size) (by intros; rfl) (by exact oneFlt) rfl rfl Try.underlying30 (by kernel_rfl) rfl rfl rfl hr7 (Row.rd (by intros; rfl) hr6) rfl (fun h => Row.nocap hr6 h) (by first | omega | (simp only [List.length_cons, List.length_nil, List.length_append, nums_len]; omega)) (by have := hb.size; omega)) rfl rfl rfl ?_; clear hf fa; rintro fa v w12 ⟨hr8, hg4⟩ hf; obtain ⟨ra4, rc4, rfl, hcrc4, hmrc4⟩ := Row.slice hr8
              replace hb := hb.trans (row_below hr7 hg4 hb.size (by have := hb.size; omega))
              refine sqv hf (r_assign rfl) rfl rfl rfl ?_; clear hf fa; intro fa hf
              apply wpList_nil
              (try simp only [Exit.then, Exit.inBlock, ↓reduceIte, Nat.reduceEqDiff])
              refine hK7 _ _ ?_
              refine wp_region_lit ?_
              refine sqv hf (r_move rfl) rfl rfl rfl ?_; clear hf fa; intro fa hf
              refine sqv hf (r_add (C := (((i : Nat) : Int) + (1 : Int))) rfl rfl (by rw [IntKind.wrap_i64]; omega)) rfl rfl rfl ?_; clear hf fa; intro fa hf
              refine sqv hf (r_assign rfl) rfl rfl rfl ?_; clear hf fa; intro fa hf
              apply wpList_nil
              (try simp only [Exit.then, Exit.inBlock, ↓reduceIte, Nat.reduceEqDiff])
              have hsl9 : (sortP (l.take (i + 1))).length = i + 1 := by rw [sortP_len, List.length_take]; omega
              refine hKL1 _ _ _ (by omega) ⟨(i + 1), ra4, rc4, rfl, hf.sub ⟨rfl, (some_int (by first | rfl | omega)), (some_sl (by first | omega | rfl | (simp only [List.length_append, List.length_cons, List.length_nil]; omega) | (simp <;> omega)) rfl), trivial⟩, hb, (by rw [hse]; exact Row.relen (Row.rebase hr8 (by omega))), (by omega)⟩
    · have hqt10_1b := hqt10_1
      replace hqt10_1 := Bool.eq_false_iff.1 hqt10_1
      try simp only [ne_eq, decide_eq_true_eq, Bool.and_eq_true, Bool.or_eq_true, Bool.not_eq_true', decide_eq_false_iff_not] at hqt10_1
      refine wp_exit ?_
      (try simp only [Exit.then, Exit.inBlock, ↓reduceIte, Nat.reduceEqDiff])
      refine hK3 _ _ ?_
      refine wp_seq_k (fun K14 hK14 => ?_)
      refine wp_region_lit ?_
      refine sqv hf (r_move rfl) rfl rfl rfl ?_; clear hf fa; intro fa hf
      refine sqv hf (r_assign rfl) rfl rfl rfl ?_; clear hf fa; intro fa hf
      apply wpList_nil
      (try simp only [Exit.then, Exit.inBlock, ↓reduceIte, Nat.reduceEqDiff])
      refine hK14 _ _ ?_
      refine wp_ret ?_
      (try simp only [Exit.then, Exit.inBlock])
      refine ret1 hf rfl rfl ?_
      refine ⟨_, rfl, ?_, hb⟩
      have h := hro
      have hi9 : i = l.length := by omega
      rw [hi9, List.take_length] at h ⊢
      exact h

set_option maxHeartbeats 1000000 in
set_option maxRecDepth 100000 in
theorem numbers_any (a : Option Addr) (c : Nat) (l : List Nat) (w : World) (hl : RdS 1 vFlt w a l) (hlen : l.length ≤ 100) (hW : allW l) : Calls Try.prog 14 #[(.slice a l.length c)] w fun e w' => ∃ v, e = .returned v ∧ Row 1 vFlt 22 w.heap.size w' v (numsL l) ∧ Below w.heap.size w w' := by
  refine sx_enter (L := [(0, (.slice a l.length c))]) Try.func14 rfl rfl rfl rfl (fun fa hf => ?_)
  have hb : Below w.heap.size w w := Below.refl _ _
  refine wp_seq_k (fun K1 hK1 => ?_)
  refine wp_region_lit ?_
  refine sqv hf (r_assign rfl) rfl rfl rfl ?_; clear hf fa; intro fa hf
  apply wpList_nil
  (try simp only [Exit.then, Exit.inBlock, ↓reduceIte, Nat.reduceEqDiff])
  refine hK1 _ _ ?_
  refine wp_seq_k (fun K2 hK2 => ?_)
  refine wp_region_lit ?_
  refine sqv hf (r_assign rfl) rfl rfl rfl ?_; clear hf fa; intro fa hf
  apply wpList_nil
  (try simp only [Exit.then, Exit.inBlock, ↓reduceIte, Nat.reduceEqDiff])
  refine hK2 _ _ ?_
  refine wp_seq_k (fun K3 hK3 => ?_)
  refine wp_seq_k (fun K4 hK4 => ?_)
  refine wp_region_lit ?_
  refine sqv hf (r_assign rfl) rfl rfl rfl ?_; clear hf fa; intro fa hf
  apply wpList_nil
  (try simp only [Exit.then, Exit.inBlock, ↓reduceIte, Nat.reduceEqDiff])
  refine hK4 _ _ ?_
  refine wp_block ?_
  refine wp_loop_k (fun mq fa wr => ∃ (i : Nat) (roa : Option Addr) (roc : Nat), mq = l.length - i ∧ Fr 25 fa [(0, (.slice a l.length c)), (4, (.int .i64 ((i : Nat) : Int))), (3, (.slice roa (((numsL (l.take i))).length) roc))] ∧ Below w.heap.size w wr ∧ Row 1 vFlt 22 (w.heap.size) wr (.slice roa (((numsL (l.take i))).length) roc) (numsL (l.take i)) ∧ (i ≤ l.length)) ?_ ?_
  · skip
    exact ⟨_, 0, none, 0, rfl, hf.sub ⟨rfl, (some_int (by first | rfl | omega)), (some_sl (by first | omega | rfl | (simp only [List.length_append, List.length_cons, List.length_nil]; omega) | (simp <;> omega)) rfl), trivial⟩, hb, Row.nil, (by omega)⟩
  · skip
    clear hf fa; intro mq1 fa w1 hI KL1 hKL1
    clear hb
    obtain ⟨i, roa, roc, hmq1, hf, hb, hro, hi⟩ := hI
    have hcro := Row.caps hro
    have hNl : (numsL (l.take i)).length ≤ i := Nat.le_trans (numsL_len _) (by rw [List.length_take]; omega)
    refine wp_seq_k (fun K5 hK5 => ?_)
    refine wp_seq_k (fun K6 hK6 => ?_)
    refine wp_region_lit ?_
    refine sqv hf (r_move rfl) rfl rfl rfl ?_; clear hf fa; intro fa hf
    refine sqv hf (r_move rfl) rfl rfl rfl ?_; clear hf fa; intro fa hf
    refine sqv hf (r_lensl rfl Try.underlying30) rfl rfl rfl ?_; clear hf fa; intro fa hf
    refine sqv hf (r_lt rfl rfl) rfl rfl rfl ?_; clear hf fa; intro fa hf
    apply wpList_nil
    (try simp only [Exit.then, Exit.inBlock, ↓reduceIte, Nat.reduceEqDiff])
    refine hK6 _ _ ?_
    refine wp_cond_split (t := (decide (((i : Nat) : Int) < ((l.length : Nat) : Int)))) (hf.ev rfl) (fun hqt8_1 => ?_) (fun hqt8_1 => ?_)
    · have hqt8_1b := hqt8_1
      try simp only [decide_eq_true_eq, Bool.and_eq_true, Bool.or_eq_true, Bool.not_eq_true', decide_eq_false_iff_not, ne_eq, Bool.not_eq_true] at hqt8_1
      refine wp_skip ?_
      (try simp only [Exit.then, Exit.inBlock, ↓reduceIte, Nat.reduceEqDiff])
      refine hK5 _ _ ?_
      refine wp_seq_k (fun K7 hK7 => ?_)
      refine wp_block ?_
      refine wp_seq_k (fun K8 hK8 => ?_)
      obtain ⟨y, hy⟩ : ∃ x, l[i]? = some x := ⟨_, List.getElem?_eq_getElem (by omega)⟩
      have hyw := hW y (List.mem_of_getElem? hy)
      refine wp_region_lit ?_
      refine sqv hf (r_move rfl) rfl rfl rfl ?_; clear hf fa; intro fa hf
      refine sqv hf (r_move rfl) rfl rfl rfl ?_; clear hf fa; intro fa hf
      have hy1 : (l)[i]? = some y := hy
      obtain ⟨ab1, aoff1, hat1, hlb1, hel1⟩ := RdS.at hl hy1
      refine sqv hf (r_ixa (sz := 1) (j := i) (evAt rfl hat1) rfl Try.underlying30 (by kernel_rfl) rfl (by omega) rfl) rfl rfl rfl ?_; clear hf fa; intro fa hf
      refine sqv hf (r_load (v := (.float .f64 y)) rfl Try.underlying22 rfl (cellsAt_cell (cellsAt_below hel1 hb hlb1) (i := 0) rfl rfl)) rfl rfl rfl ?_; clear hf fa; intro fa hf
      refine sqdt hf (d_callB (vs := [(.float .f64 y)]) rfl Try.func8 (by kernel_rfl) (by kernel_rfl) (rkind_any y (by first | assumption | omega) _)) rfl rfl rfl ?_; clear hf fa; rintro fa _ w2 ⟨rfl, he1⟩ hf
      replace hro := Row.ext hro he1
      replace hb := hb.trans (Below.mono he1 hb.size)
      refine sqv hf (r_ne rfl rfl) rfl rfl rfl ?_; clear hf fa; intro fa hf
      apply wpList_nil
      (try simp only [Exit.then, Exit.inBlock, ↓reduceIte, Nat.reduceEqDiff])
      refine hK8 _ _ ?_
      refine wp_cond_split (t := (decide ((kindN y) ≠ (0 : Int)))) (hf.ev rfl) (fun hqt16_1 => ?_) (fun hqt16_1 => ?_)
      · have hqt16_1b := hqt16_1
        try simp only [decide_eq_true_eq, Bool.and_eq_true, Bool.or_eq_true, Bool.not_eq_true', decide_eq_false_iff_not, ne_eq, Bool.not_eq_true] at hqt16_1
        refine wp_region_lit ?_
        refine sqv hf (r_move rfl) rfl rfl rfl ?_; clear hf fa; intro fa hf
        refine sqv hf (r_move rfl) rfl rfl rfl ?_; clear hf fa; intro fa hf
        refine sqv hf (r_move rfl) rfl rfl rfl ?_; clear hf fa; intro fa hf
        refine sqv hf (r_ixa (sz := 1) (j := i) (evAt rfl hat1) rfl Try.underlying30 (by kernel_rfl) rfl (by omega) rfl) rfl rfl rfl ?_; clear hf fa; intro fa hf
        refine sqv hf (r_load (v := (.float .f64 y)) rfl Try.underlying22 rfl (cellsAt_cell (cellsAt_below hel1 hb hlb1) (i := 0) rfl rfl)) rfl rfl rfl ?_; clear hf fa; intro fa hf
        refine sqdt hf (d_bslice (z := (.float .f64 0)) (sz := 1) (vs := [(0, (.float .f64 y))]) (cs := #[(.float .f64 y)]) rfl Try.underlying30 (by kernel_rfl) rfl (by kernel_rfl)) rfl rfl rfl ?_; clear hf fa; rintro fa _ w3 ⟨b1, rfl, hle1, hk1, he2⟩ hf
        have hBb1 : w.heap.size ≤ b1 := Nat.le_trans hb.size hle1
        have hnr1 : (Value.slice roa ((((numsL (l.take i))).length)) roc).ownBlock ≠ some b1 := fun hq => by have := (Row.lt hro _ hq).2; omega
        have hnl1 : ∀ q, (Value.slice roa ((((numsL (l.take i))).length)) roc).ownBlock = some q → q < b1 := fun q hq => Nat.lt_of_lt_of_le (Row.lt hro q hq).2 hle1
        replace hro := Row.ext hro he2
        replace hb := hb.trans (Below.mono he2 hb.size)
        have hs1 := Row.rd (by intros; rfl) (Row.of_new (k := 1) (V := vFlt) (l := [y]) hk1 (Nat.le_refl _) rfl rfl (Nat.le_of_ble_eq_true rfl))
        refine sqdt hf (d_append (V := vFlt) (k := 1) (e := 22) (bytes := 8) (z := (.float .f64 0)) (news := [y]) (base := w.heap.size) (by intros; rfl) (by exact oneFlt) rfl rfl Try.underlying30 (by kernel_rfl) rfl rfl rfl hro hs1 rfl (fun h => by cases h) (by first | omega | (simp only [List.length_cons, List.length_nil, List.length_append, nums_len]; omega)) (by have := hb.size; omega)) rfl rfl rfl ?_; clear hf fa; rintro fa v w4 ⟨hr1, hg1⟩ hf; obtain ⟨ra1, rc1, rfl, hcrc1, hmrc1⟩ := Row.slice hr1
        replace hb := hb.trans (row_below hro hg1 hb.size (by have := hb.size; omega))
        refine sqv hf (r_assign rfl) rfl rfl rfl ?_; clear hf fa; intro fa hf
        apply wpList_nil
        (try simp only [Exit.then, Exit.inBlock, ↓reduceIte, Nat.reduceEqDiff])
        refine hK7 _ _ ?_
        refine wp_region_lit ?_
        refine sqv hf (r_move rfl) rfl rfl rfl ?_; clear hf fa; intro fa hf
        refine sqv hf (r_add (C := (((i : Nat) : Int) + (1 : Int))) rfl rfl (by rw [IntKind.wrap_i64]; omega)) rfl rfl rfl ?_; clear hf fa; intro fa hf
        refine sqv hf (r_assign rfl) rfl rfl rfl ?_; clear hf fa; intro fa hf
        apply wpList_nil
        (try simp only [Exit.then, Exit.inBlock, ↓reduceIte, Nat.reduceEqDiff])
        have hnz := numsL_step hy
        rw [if_pos (by omega)] at hnz
        have hnz9 := congrArg List.length hnz
        refine hKL1 _ _ _ (by omega) ⟨(i + 1), ra1, rc1, rfl, hf.sub ⟨rfl, (some_int (by first | rfl | omega)), (some_sl (by first | omega | rfl | (simp only [List.length_append, List.length_cons, List.length_nil]; omega) | (simp <;> omega)) rfl), trivial⟩, hb, (by rw [hnz]; exact Row.relen hr1), (by omega)⟩
      · have hqt16_1b := hqt16_1
        replace hqt16_1 := Bool.eq_false_iff.1 hqt16_1
        try simp only [ne_eq, decide_eq_true_eq, Bool.and_eq_true, Bool.or_eq_true, Bool.not_eq_true', decide_eq_false_iff_not] at hqt16_1
        refine wp_skip ?_
        (try simp only [Exit.then, Exit.inBlock, ↓reduceIte, Nat.reduceEqDiff])
        refine hK7 _ _ ?_
        refine wp_region_lit ?_
        refine sqv hf (r_move rfl) rfl rfl rfl ?_; clear hf fa; intro fa hf
        refine sqv hf (r_add (C := (((i : Nat) : Int) + (1 : Int))) rfl rfl (by rw [IntKind.wrap_i64]; omega)) rfl rfl rfl ?_; clear hf fa; intro fa hf
        refine sqv hf (r_assign rfl) rfl rfl rfl ?_; clear hf fa; intro fa hf
        apply wpList_nil
        (try simp only [Exit.then, Exit.inBlock, ↓reduceIte, Nat.reduceEqDiff])
        have hnz := numsL_step hy
        rw [if_neg (by omega)] at hnz
        have hnz9 := congrArg List.length hnz
        refine hKL1 _ _ _ (by omega) ⟨(i + 1), roa, roc, rfl, hf.sub ⟨rfl, (some_int (by first | rfl | omega)), (some_sl (by first | omega | rfl | (simp only [List.length_append, List.length_cons, List.length_nil]; omega) | (simp <;> omega)) rfl), trivial⟩, hb, (by rw [hnz]; exact Row.relen hro), (by omega)⟩
    · have hqt8_1b := hqt8_1
      replace hqt8_1 := Bool.eq_false_iff.1 hqt8_1
      try simp only [ne_eq, decide_eq_true_eq, Bool.and_eq_true, Bool.or_eq_true, Bool.not_eq_true', decide_eq_false_iff_not] at hqt8_1
      refine wp_exit ?_
      (try simp only [Exit.then, Exit.inBlock, ↓reduceIte, Nat.reduceEqDiff])
      refine hK3 _ _ ?_
      refine wp_seq_k (fun K9 hK9 => ?_)
      refine wp_region_lit ?_
      refine sqv hf (r_move rfl) rfl rfl rfl ?_; clear hf fa; intro fa hf
      refine sqv hf (r_assign rfl) rfl rfl rfl ?_; clear hf fa; intro fa hf
      apply wpList_nil
      (try simp only [Exit.then, Exit.inBlock, ↓reduceIte, Nat.reduceEqDiff])
      refine hK9 _ _ ?_
      refine wp_ret ?_
      (try simp only [Exit.then, Exit.inBlock])
      refine ret1 hf rfl rfl ?_
      refine ⟨_, rfl, ?_, hb⟩
      have h := hro
      have hi9 : i = l.length := by omega
      rw [hi9, List.take_length] at h ⊢
      exact h

set_option maxHeartbeats 1000000 in
set_option maxRecDepth 100000 in
theorem endL_any (a : Option Addr) (c : Nat) (l : List Nat) (w : World) (hl : RdS 1 vFlt w a l) (hlen : l.length ≤ 100) (hW : allW l) : Calls Try.prog 20 #[(.slice a l.length c), (.bool false)] w fun e w' => e = .returned (.float .f64 (if (numsL l).length = 0 then 9221120237041090561 else ((sortP (numsL l)).getD 0 0))) ∧ Below w.heap.size w w' := by
  refine sx_enter (L := [(0, (.slice a l.length c)), (1, (.bool false))]) Try.func20 rfl rfl rfl rfl (fun fa hf => ?_)
  have hb : Below w.heap.size w w := Below.refl _ _
  refine wp_seq_k (fun K1 hK1 => ?_)
  refine wp_region_lit ?_
  refine sqv hf (r_assign rfl) rfl rfl rfl ?_; clear hf fa; intro fa hf
  apply wpList_nil
  (try simp only [Exit.then, Exit.inBlock, ↓reduceIte, Nat.reduceEqDiff])
  refine hK1 _ _ ?_
  refine wp_seq_k (fun K2 hK2 => ?_)
  refine wp_region_lit ?_
  refine sqv hf (r_move rfl) rfl rfl rfl ?_; clear hf fa; intro fa hf
  refine sqdt hf (d_callX (vs := [(.slice a l.length c)]) rfl Try.func14 (by kernel_rfl) (by kernel_rfl) (numbers_any a c l _ (RdS.ext hl hb) hlen hW)) rfl rfl rfl ?_; clear hf fa; rintro fa v w1 ⟨hr1, he1⟩ hf; obtain ⟨ra1, rc1, rfl, hcrc1, hmrc1⟩ := Row.slice hr1
  replace hr1 := Row.rebase hr1 hb.size
  replace hb := hb.trans (Below.mono he1 hb.size)
  refine sqdt hf (d_callX (vs := [(.slice ra1 (((numsL l)).length) rc1)]) rfl Try.func35 (by kernel_rfl) (by kernel_rfl) (rsorted_any _ _ (numsL l) _ (Row.rd (by intros; rfl) hr1) (by have := numsL_len l; omega) (allW_nums hW))) rfl rfl rfl ?_; clear hf fa; rintro fa v w2 ⟨hr2, he2⟩ hf; obtain ⟨ra2, rc2, rfl, hcrc2, hmrc2⟩ := Row.slice hr2
  replace hr2 := Row.rebase hr2 hb.size
  replace hr1 := Row.ext hr1 he2
  replace hb := hb.trans (Below.mono he2 hb.size)
  refine sqv hf (r_assign rfl) rfl rfl rfl ?_; clear hf fa; intro fa hf
  apply wpList_nil
  (try simp only [Exit.then, Exit.inBlock, ↓reduceIte, Nat.reduceEqDiff])
  refine hK2 _ _ ?_
  refine wp_seq_k (fun K3 hK3 => ?_)
  refine wp_seq_k (fun K4 hK4 => ?_)
  refine wp_region_lit ?_
  refine sqv hf (r_move rfl) rfl rfl rfl ?_; clear hf fa; intro fa hf
  refine sqv hf (r_lensl rfl Try.underlying30) rfl rfl rfl ?_; clear hf fa; intro fa hf
  refine sqv hf (r_eq rfl rfl) rfl rfl rfl ?_; clear hf fa; intro fa hf
  apply wpList_nil
  (try simp only [Exit.then, Exit.inBlock, ↓reduceIte, Nat.reduceEqDiff])
  refine hK4 _ _ ?_
  refine wp_cond_split (t := (decide (((((sortP (numsL l))).length : Nat) : Int) = (0 : Int)))) (hf.ev rfl) (fun hqt11_1 => ?_) (fun hqt11_1 => ?_)
  · have hqt11_1b := hqt11_1
    try simp only [decide_eq_true_eq, Bool.and_eq_true, Bool.or_eq_true, Bool.not_eq_true', decide_eq_false_iff_not, ne_eq, Bool.not_eq_true] at hqt11_1
    refine wp_seq_k (fun K5 hK5 => ?_)
    refine wp_region_lit ?_
    refine sqdt hf (d_callB (vs := []) rfl Try.func34 (by kernel_rfl) (by kernel_rfl) (rnone_any _)) rfl rfl rfl ?_; clear hf fa; rintro fa _ w3 ⟨rfl, he3⟩ hf
    replace hr1 := Row.ext hr1 he3
    replace hr2 := Row.ext hr2 he3
    replace hb := hb.trans (Below.mono he3 hb.size)
    refine sqv hf (r_assign rfl) rfl rfl rfl ?_; clear hf fa; intro fa hf
    apply wpList_nil
    (try simp only [Exit.then, Exit.inBlock, ↓reduceIte, Nat.reduceEqDiff])
    refine hK5 _ _ ?_
    refine wp_ret ?_
    (try simp only [Exit.then, Exit.inBlock])
    refine ret1 hf rfl rfl ?_
    exact ⟨by rw [if_pos (by have := sortP_len (numsL l); omega)], hb⟩
  · have hqt11_1b := hqt11_1
    replace hqt11_1 := Bool.eq_false_iff.1 hqt11_1
    try simp only [ne_eq, decide_eq_true_eq, Bool.and_eq_true, Bool.or_eq_true, Bool.not_eq_true', decide_eq_false_iff_not] at hqt11_1
    refine wp_skip ?_
    (try simp only [Exit.then, Exit.inBlock, ↓reduceIte, Nat.reduceEqDiff])
    refine hK3 _ _ ?_
    refine wp_seq_k (fun K6 hK6 => ?_)
    refine wp_seq_k (fun K7 hK7 => ?_)
    refine wp_region_lit ?_
    refine sqv hf (r_move rfl) rfl rfl rfl ?_; clear hf fa; intro fa hf
    apply wpList_nil
    (try simp only [Exit.then, Exit.inBlock, ↓reduceIte, Nat.reduceEqDiff])
    refine hK7 _ _ ?_
    refine wp_cond_false (hf.ev rfl) ?_
    refine wp_skip ?_
    (try simp only [Exit.then, Exit.inBlock, ↓reduceIte, Nat.reduceEqDiff])
    refine hK6 _ _ ?_
    refine wp_seq_k (fun K8 hK8 => ?_)
    refine wp_region_lit ?_
    refine sqv hf (r_move rfl) rfl rfl rfl ?_; clear hf fa; intro fa hf
    obtain ⟨rb1, rfl, hbbrb1, hlbrb1⟩ := Row.some hr2 (by first | omega | (simp only [Sl.list_length, List.length_set, List.length_take, List.length_append, List.length_replicate, List.length_cons, List.length_nil, List.length_map, nums_len]; omega))
    have hy1 := getD_at (l := (sortP (numsL l))) (j := 0) 0 (by first | omega | (simp only [Sl.list_length, List.length_set, List.length_take, List.length_append, List.length_replicate, List.length_cons, List.length_nil, List.length_map, nums_len]; omega))
    have hel1 := RdS.at (Row.rd (by intros; rfl) hr2) hy1
    obtain ⟨_, _, hab, hlr1, hel1⟩ := hel1
    cases hab
    refine sqv hf (r_ixa (sz := 1) (j := 0) rfl rfl Try.underlying30 (by kernel_rfl) rfl (by omega) rfl) rfl rfl rfl ?_; clear hf fa; intro fa hf
    refine sqv hf (r_load (v := (.float .f64 ((sortP (numsL l)).getD 0 0))) rfl Try.underlying22 rfl (cellsAt_cell hel1 (i := 0) rfl rfl)) rfl rfl rfl ?_; clear hf fa; intro fa hf
    refine sqv hf (r_assign rfl) rfl rfl rfl ?_; clear hf fa; intro fa hf
    apply wpList_nil
    (try simp only [Exit.then, Exit.inBlock, ↓reduceIte, Nat.reduceEqDiff])
    refine hK8 _ _ ?_
    refine wp_ret ?_
    (try simp only [Exit.then, Exit.inBlock])
    refine ret1 hf rfl rfl ?_
    exact ⟨by rw [if_neg (by have := sortP_len (numsL l); omega)], hb⟩

set_option maxHeartbeats 1000000 in
set_option maxRecDepth 100000 in
theorem endM_any (a : Option Addr) (c : Nat) (l : List Nat) (w : World) (hl : RdS 1 vFlt w a l) (hlen : l.length ≤ 100) (hW : allW l) : Calls Try.prog 20 #[(.slice a l.length c), (.bool true)] w fun e w' => e = .returned (.float .f64 (if (numsL l).length = 0 then 9221120237041090561 else ((sortP (numsL l)).getD ((sortP (numsL l)).length - 1) 0))) ∧ Below w.heap.size w w' := by
  refine sx_enter (L := [(0, (.slice a l.length c)), (1, (.bool true))]) Try.func20 rfl rfl rfl rfl (fun fa hf => ?_)
  have hb : Below w.heap.size w w := Below.refl _ _
  refine wp_seq_k (fun K1 hK1 => ?_)
  refine wp_region_lit ?_
  refine sqv hf (r_assign rfl) rfl rfl rfl ?_; clear hf fa; intro fa hf
  apply wpList_nil
  (try simp only [Exit.then, Exit.inBlock, ↓reduceIte, Nat.reduceEqDiff])
  refine hK1 _ _ ?_
  refine wp_seq_k (fun K2 hK2 => ?_)
  refine wp_region_lit ?_
  refine sqv hf (r_move rfl) rfl rfl rfl ?_; clear hf fa; intro fa hf
  refine sqdt hf (d_callX (vs := [(.slice a l.length c)]) rfl Try.func14 (by kernel_rfl) (by kernel_rfl) (numbers_any a c l _ (RdS.ext hl hb) hlen hW)) rfl rfl rfl ?_; clear hf fa; rintro fa v w1 ⟨hr1, he1⟩ hf; obtain ⟨ra1, rc1, rfl, hcrc1, hmrc1⟩ := Row.slice hr1
  replace hr1 := Row.rebase hr1 hb.size
  replace hb := hb.trans (Below.mono he1 hb.size)
  refine sqdt hf (d_callX (vs := [(.slice ra1 (((numsL l)).length) rc1)]) rfl Try.func35 (by kernel_rfl) (by kernel_rfl) (rsorted_any _ _ (numsL l) _ (Row.rd (by intros; rfl) hr1) (by have := numsL_len l; omega) (allW_nums hW))) rfl rfl rfl ?_; clear hf fa; rintro fa v w2 ⟨hr2, he2⟩ hf; obtain ⟨ra2, rc2, rfl, hcrc2, hmrc2⟩ := Row.slice hr2
  replace hr2 := Row.rebase hr2 hb.size
  replace hr1 := Row.ext hr1 he2
  replace hb := hb.trans (Below.mono he2 hb.size)
  refine sqv hf (r_assign rfl) rfl rfl rfl ?_; clear hf fa; intro fa hf
  apply wpList_nil
  (try simp only [Exit.then, Exit.inBlock, ↓reduceIte, Nat.reduceEqDiff])
  refine hK2 _ _ ?_
  refine wp_seq_k (fun K3 hK3 => ?_)
  refine wp_seq_k (fun K4 hK4 => ?_)
  refine wp_region_lit ?_
  refine sqv hf (r_move rfl) rfl rfl rfl ?_; clear hf fa; intro fa hf
  refine sqv hf (r_lensl rfl Try.underlying30) rfl rfl rfl ?_; clear hf fa; intro fa hf
  refine sqv hf (r_eq rfl rfl) rfl rfl rfl ?_; clear hf fa; intro fa hf
  apply wpList_nil
  (try simp only [Exit.then, Exit.inBlock, ↓reduceIte, Nat.reduceEqDiff])
  refine hK4 _ _ ?_
  refine wp_cond_split (t := (decide (((((sortP (numsL l))).length : Nat) : Int) = (0 : Int)))) (hf.ev rfl) (fun hqt11_1 => ?_) (fun hqt11_1 => ?_)
  · have hqt11_1b := hqt11_1
    try simp only [decide_eq_true_eq, Bool.and_eq_true, Bool.or_eq_true, Bool.not_eq_true', decide_eq_false_iff_not, ne_eq, Bool.not_eq_true] at hqt11_1
    refine wp_seq_k (fun K5 hK5 => ?_)
    refine wp_region_lit ?_
    refine sqdt hf (d_callB (vs := []) rfl Try.func34 (by kernel_rfl) (by kernel_rfl) (rnone_any _)) rfl rfl rfl ?_; clear hf fa; rintro fa _ w3 ⟨rfl, he3⟩ hf
    replace hr1 := Row.ext hr1 he3
    replace hr2 := Row.ext hr2 he3
    replace hb := hb.trans (Below.mono he3 hb.size)
    refine sqv hf (r_assign rfl) rfl rfl rfl ?_; clear hf fa; intro fa hf
    apply wpList_nil
    (try simp only [Exit.then, Exit.inBlock, ↓reduceIte, Nat.reduceEqDiff])
    refine hK5 _ _ ?_
    refine wp_ret ?_
    (try simp only [Exit.then, Exit.inBlock])
    refine ret1 hf rfl rfl ?_
    exact ⟨by rw [if_pos (by have := sortP_len (numsL l); omega)], hb⟩
  · have hqt11_1b := hqt11_1
    replace hqt11_1 := Bool.eq_false_iff.1 hqt11_1
    try simp only [ne_eq, decide_eq_true_eq, Bool.and_eq_true, Bool.or_eq_true, Bool.not_eq_true', decide_eq_false_iff_not] at hqt11_1
    refine wp_skip ?_
    (try simp only [Exit.then, Exit.inBlock, ↓reduceIte, Nat.reduceEqDiff])
    refine hK3 _ _ ?_
    refine wp_seq_k (fun K6 hK6 => ?_)
    refine wp_seq_k (fun K7 hK7 => ?_)
    refine wp_region_lit ?_
    refine sqv hf (r_move rfl) rfl rfl rfl ?_; clear hf fa; intro fa hf
    apply wpList_nil
    (try simp only [Exit.then, Exit.inBlock, ↓reduceIte, Nat.reduceEqDiff])
    refine hK7 _ _ ?_
    refine wp_cond_true (hf.ev rfl) ?_
    refine wp_seq_k (fun K8 hK8 => ?_)
    have hsl9 := sortP_len (numsL l)
    have hnl9 := numsL_len l
    refine wp_region_lit ?_
    refine sqv hf (r_move rfl) rfl rfl rfl ?_; clear hf fa; intro fa hf
    refine sqv hf (r_move rfl) rfl rfl rfl ?_; clear hf fa; intro fa hf
    refine sqv hf (r_lensl rfl Try.underlying30) rfl rfl rfl ?_; clear hf fa; intro fa hf
    refine sqv hf (r_sub (C := (((((sortP (numsL l))).length : Nat) : Int) - (1 : Int))) rfl rfl (by rw [IntKind.wrap_i64]; omega)) rfl rfl rfl ?_; clear hf fa; intro fa hf
    obtain ⟨rb1, rfl, hbbrb1, hlbrb1⟩ := Row.some hr2 (by first | omega | (simp only [Sl.list_length, List.length_set, List.length_take, List.length_append, List.length_replicate, List.length_cons, List.length_nil, List.length_map, nums_len]; omega))
    have hy1 := getD_at (l := (sortP (numsL l))) (j := ((((sortP (numsL l))).length) - 1)) 0 (by first | omega | (simp only [Sl.list_length, List.length_set, List.length_take, List.length_append, List.length_replicate, List.length_cons, List.length_nil, List.length_map, nums_len]; omega))
    have hel1 := RdS.at (Row.rd (by intros; rfl) hr2) hy1
    obtain ⟨_, _, hab, hlr1, hel1⟩ := hel1
    cases hab
    refine sqv hf (r_ixa (sz := 1) (j := ((((sortP (numsL l))).length) - 1)) rfl rfl Try.underlying30 (by kernel_rfl) (by omega) (by omega) rfl) rfl rfl rfl ?_; clear hf fa; intro fa hf
    refine sqv hf (r_load (v := (.float .f64 ((sortP (numsL l)).getD ((((sortP (numsL l))).length) - 1) 0))) rfl Try.underlying22 rfl (cellsAt_cell hel1 (i := 0) rfl rfl)) rfl rfl rfl ?_; clear hf fa; intro fa hf
    refine sqv hf (r_assign rfl) rfl rfl rfl ?_; clear hf fa; intro fa hf
    apply wpList_nil
    (try simp only [Exit.then, Exit.inBlock, ↓reduceIte, Nat.reduceEqDiff])
    refine hK8 _ _ ?_
    refine wp_ret ?_
    (try simp only [Exit.then, Exit.inBlock])
    refine ret1 hf rfl rfl ?_
    exact ⟨by rw [if_neg (by have := sortP_len (numsL l); omega)], hb⟩

set_option maxHeartbeats 1000000 in
set_option maxRecDepth 100000 in
theorem rsum_any (a : Option Addr) (c : Nat) (l : List Nat) (w : World) (hl : RdS 1 vFlt w a l) (hlen : l.length ≤ 100) (hW : allW l) : Calls Try.prog 21 #[(.slice a l.length c)] w fun e w' => ∃ v, e = .returned v ∧ ((∃ r, v = .float .f64 r ∧ SumR (numsL l) r) ∧ Below w.heap.size w w') := by
  refine sx_enter (L := [(0, (.slice a l.length c))]) Try.func21 rfl rfl rfl rfl (fun fa hf => ?_)
  have hb : Below w.heap.size w w := Below.refl _ _
  refine wp_seq_k (fun K1 hK1 => ?_)
  refine wp_region_lit ?_
  refine sqv hf (r_assign rfl) rfl rfl rfl ?_; clear hf fa; intro fa hf
  apply wpList_nil
  (try simp only [Exit.then, Exit.inBlock, ↓reduceIte, Nat.reduceEqDiff])
  refine hK1 _ _ ?_
  refine wp_seq_k (fun K2 hK2 => ?_)
  refine wp_region_lit ?_
  refine sqv hf (r_assign rfl) rfl rfl rfl ?_; clear hf fa; intro fa hf
  apply wpList_nil
  (try simp only [Exit.then, Exit.inBlock, ↓reduceIte, Nat.reduceEqDiff])
  refine hK2 _ _ ?_
  refine wp_seq_k (fun K3 hK3 => ?_)
  refine wp_region_lit ?_
  refine sqv hf (r_move rfl) rfl rfl rfl ?_; clear hf fa; intro fa hf
  refine sqdt hf (d_callX (vs := [(.slice a l.length c)]) rfl Try.func14 (by kernel_rfl) (by kernel_rfl) (numbers_any a c l _ (RdS.ext hl hb) hlen hW)) rfl rfl rfl ?_; clear hf fa; rintro fa v w1 ⟨hr1, he1⟩ hf; obtain ⟨ra1, rc1, rfl, hcrc1, hmrc1⟩ := Row.slice hr1
  replace hr1 := Row.rebase hr1 hb.size
  replace hb := hb.trans (Below.mono he1 hb.size)
  refine sqv hf (r_assign rfl) rfl rfl rfl ?_; clear hf fa; intro fa hf
  apply wpList_nil
  (try simp only [Exit.then, Exit.inBlock, ↓reduceIte, Nat.reduceEqDiff])
  refine hK3 _ _ ?_
  refine wp_seq_k (fun K4 hK4 => ?_)
  refine wp_seq_k (fun K5 hK5 => ?_)
  refine wp_region_lit ?_
  refine sqv hf (r_assign rfl) rfl rfl rfl ?_; clear hf fa; intro fa hf
  apply wpList_nil
  (try simp only [Exit.then, Exit.inBlock, ↓reduceIte, Nat.reduceEqDiff])
  refine hK5 _ _ ?_
  refine wp_block ?_
  refine wp_loop_k (fun mq fa wr => ∃ (i : Nat) (s : Nat) (roa : Option Addr) (roc : Nat), mq = (numsL l).length - i ∧ Fr 21 fa [(0, (.slice a l.length c)), (3, (.float .f64 s)), (5, (.int .i64 ((i : Nat) : Int))), (4, (.slice roa (((numsL l)).length) roc))] ∧ Below w.heap.size w wr ∧ Row 1 vFlt 22 (w.heap.size) wr (.slice roa (((numsL l)).length) roc) (numsL l) ∧ (i ≤ (numsL l).length) ∧ (SumR ((numsL l).take i) s)) ?_ ?_
  · skip
    exact ⟨_, 0, 0, ra1, rc1, rfl, hf.sub ⟨rfl, rfl, (some_int (by first | rfl | omega)), rfl, trivial⟩, hb, (Row.relen hr1), (by omega), (by rw [List.take_zero]; exact .nil)⟩
  · skip
    clear hf fa; intro mq1 fa w2 hI KL1 hKL1
    clear hb
    clear hr1
    obtain ⟨i, s, roa, roc, hmq1, hf, hb, hro, hi, hs⟩ := hI
    have hcro := Row.caps hro
    refine wp_seq_k (fun K6 hK6 => ?_)
    refine wp_seq_k (fun K7 hK7 => ?_)
    refine wp_region_lit ?_
    refine sqv hf (r_move rfl) rfl rfl rfl ?_; clear hf fa; intro fa hf
    refine sqv hf (r_move rfl) rfl rfl rfl ?_; clear hf fa; intro fa hf
    refine sqv hf (r_lensl rfl Try.underlying30) rfl rfl rfl ?_; clear hf fa; intro fa hf
    refine sqv hf (r_lt rfl rfl) rfl rfl rfl ?_; clear hf fa; intro fa hf
    apply wpList_nil
    (try simp only [Exit.then, Exit.inBlock, ↓reduceIte, Nat.reduceEqDiff])
    refine hK7 _ _ ?_
    refine wp_cond_split (t := (decide (((i : Nat) : Int) < ((((numsL l)).length : Nat) : Int)))) (hf.ev rfl) (fun hqt11_1 => ?_) (fun hqt11_1 => ?_)
    · have hqt11_1b := hqt11_1
      try simp only [decide_eq_true_eq, Bool.and_eq_true, Bool.or_eq_true, Bool.not_eq_true', decide_eq_false_iff_not, ne_eq, Bool.not_eq_true] at hqt11_1
      refine wp_skip ?_
      (try simp only [Exit.then, Exit.inBlock, ↓reduceIte, Nat.reduceEqDiff])
      refine hK6 _ _ ?_
      refine wp_seq_k (fun K8 hK8 => ?_)
      refine wp_block ?_
      obtain ⟨y, hy⟩ : ∃ x, (numsL l)[i]? = some x := ⟨_, List.getElem?_eq_getElem (by omega)⟩
      refine wp_region_lit ?_
      refine sqv hf (r_move rfl) rfl rfl rfl ?_; clear hf fa; intro fa hf
      refine sqv hf (r_move rfl) rfl rfl rfl ?_; clear hf fa; intro fa hf
      refine sqv hf (r_move rfl) rfl rfl rfl ?_; clear hf fa; intro fa hf
      obtain ⟨rb1, rfl, hbbrb1, hlbrb1⟩ := Row.some hro (by first | omega | (simp only [Sl.list_length, List.length_set, List.length_take, List.length_append, List.length_replicate, List.length_cons, List.length_nil, List.length_map, nums_len]; omega))
      have hy1 : ((numsL l))[i]? = some y := hy
      have hel1 := RdS.at (Row.rd (by intros; rfl) hro) hy1
      obtain ⟨_, _, hab, hlr1, hel1⟩ := hel1
      cases hab
      refine sqv hf (r_ixa (sz := 1) (j := i) rfl rfl Try.underlying30 (by kernel_rfl) rfl (by omega) rfl) rfl rfl rfl ?_; clear hf fa; intro fa hf
      refine sqv hf (r_load (v := (.float .f64 y)) rfl Try.underlying22 rfl (cellsAt_cell hel1 (i := 0) rfl rfl)) rfl rfl rfl ?_; clear hf fa; intro fa hf
      refine sqdt hf (d_farith (op := .add) (a := s) (b := y) rfl rfl (by simp)) rfl rfl rfl ?_; clear hf fa; rintro fa _ w3 ⟨⟨fr1, rfl, hfr1⟩, he2⟩ hf
      replace hro := Row.ext hro he2
      replace hb := hb.trans (Below.mono he2 hb.size)
      refine sqv hf (r_assign rfl) rfl rfl rfl ?_; clear hf fa; intro fa hf
      apply wpList_nil
      (try simp only [Exit.then, Exit.inBlock, ↓reduceIte, Nat.reduceEqDiff])
      refine hK8 _ _ ?_
      refine wp_region_lit ?_
      refine sqv hf (r_move rfl) rfl rfl rfl ?_; clear hf fa; intro fa hf
      refine sqv hf (r_add (C := (((i : Nat) : Int) + (1 : Int))) rfl rfl (by rw [IntKind.wrap_i64]; omega)) rfl rfl rfl ?_; clear hf fa; intro fa hf
      refine sqv hf (r_assign rfl) rfl rfl rfl ?_; clear hf fa; intro fa hf
      apply wpList_nil
      (try simp only [Exit.then, Exit.inBlock, ↓reduceIte, Nat.reduceEqDiff])
      refine hKL1 _ _ _ (by omega) ⟨(i + 1), fr1, (some ⟨rb1, 0, none⟩), roc, rfl, hf.sub ⟨rfl, rfl, (some_int (by first | rfl | omega)), rfl, trivial⟩, hb, (Row.relen hro), (by omega), (by rw [List.take_add_one, hy]; exact .snoc hs hfr1)⟩
    · have hqt11_1b := hqt11_1
      replace hqt11_1 := Bool.eq_false_iff.1 hqt11_1
      try simp only [ne_eq, decide_eq_true_eq, Bool.and_eq_true, Bool.or_eq_true, Bool.not_eq_true', decide_eq_false_iff_not] at hqt11_1
      refine wp_exit ?_
      (try simp only [Exit.then, Exit.inBlock, ↓reduceIte, Nat.reduceEqDiff])
      refine hK4 _ _ ?_
      refine wp_seq_k (fun K9 hK9 => ?_)
      refine wp_region_lit ?_
      refine sqv hf (r_move rfl) rfl rfl rfl ?_; clear hf fa; intro fa hf
      refine sqv hf (r_assign rfl) rfl rfl rfl ?_; clear hf fa; intro fa hf
      apply wpList_nil
      (try simp only [Exit.then, Exit.inBlock, ↓reduceIte, Nat.reduceEqDiff])
      refine hK9 _ _ ?_
      refine wp_ret ?_
      (try simp only [Exit.then, Exit.inBlock])
      refine ret1 hf rfl rfl ?_
      exact ⟨_, rfl, ⟨s, rfl, by have h := hs; rw [show i = (numsL l).length by omega, List.take_length] at h; exact h⟩, hb⟩
end Go.Proofs.Ytbllifhcfgjdlaa
