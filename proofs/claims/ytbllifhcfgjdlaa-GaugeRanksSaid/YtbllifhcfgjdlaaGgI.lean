/- What is proved here: symMerge. -/
import Derived.Test.YtbllifhcfgjdlaaGgW
import Derived.Test.YtbllifhcfgjdlaaGgH
namespace Go.Proofs.Ytbllifhcfgjdlaa
open Go.RowKit
set_option linter.unusedVariables false
set_option linter.unusedSimpArgs false
def SymOK (N : Nat) : Prop := ∀ (b c n : Nat) (l : List Nat) (hn : l.length = n) (p m q : Nat) (hN : q - p ≤ N) (hpm : p < m) (hmq : m < q) (hq : q ≤ n) (hl : n ≤ 4611686018427387903) (hsl : Srt l p m) (hsr : Srt l m q) (w0 w : World) (hb : Below w0.heap.size w0 w) (hR : Row 1 vFlt 22 w0.heap.size w (.slice (some ⟨b, 0, none⟩) n c) l) (hW : allW l),
  Calls Try.prog 39 #[.slice (some ⟨b, 0, none⟩) n c, (.int .i64 ((p : Nat) : Int)), (.int .i64 ((m : Nat) : Int)), (.int .i64 ((q : Nat) : Int)), (.func (.func 9) #[] #[])] w fun e w' => e = .returned (.tuple #[]) ∧ ∃ l' : List Nat, Row 1 vFlt 22 w0.heap.size w' (.slice (some ⟨b, 0, none⟩) n c) l' ∧ (MG p q l l' ∧ Srt l' p q) ∧ Below w0.heap.size w0 w'
theorem rot_cur (b c : Nat) (l cur : List Nat) (hcl : cur.length = l.length) (p m q : Nat) (hpm : p < m) (hmq : m < q) (hq : q ≤ cur.length) (hl : cur.length ≤ 4611686018427387903) (w0 w : World) (hb : Below w0.heap.size w0 w) (hR : Row 1 vFlt 22 w0.heap.size w (.slice (some ⟨b, 0, none⟩) l.length c) cur) (hW : allW cur) : Calls Try.prog 41 #[(.slice (some ⟨b, 0, none⟩) l.length c), (.int .i64 ((p : Nat) : Int)), (.int .i64 ((m : Nat) : Int)), (.int .i64 ((q : Nat) : Int)), (.func (.func 9) #[] #[])] w fun e w' => e = .returned (.tuple #[]) ∧ ∃ l' : List Nat, Row 1 vFlt 22 w0.heap.size w' (.slice (some ⟨b, 0, none⟩) l.length c) l' ∧ Via (rot p m q) cur l' ∧ Below w0.heap.size w0 w' := by
  rw [← hcl] at hR ⊢
  exact rot_any b c cur p m q hpm hmq hq hl w0 w hb hR hW

set_option maxHeartbeats 1000000 in
set_option maxRecDepth 100000 in
theorem symm_step (N : Nat) (IH : SymOK N) (b c : Nat) (l : List Nat) (p m q : Nat) (hN : q - p ≤ N + 1) (hpm : p < m) (hmq : m < q) (hq : q ≤ l.length) (hl : l.length ≤ 4611686018427387903) (hsl : Srt l p m) (hsr : Srt l m q) (w0 w : World) (hb : Below w0.heap.size w0 w) (hR : Row 1 vFlt 22 w0.heap.size w (.slice (some ⟨b, 0, none⟩) l.length c) l) (hW : allW l) : Calls Try.prog 39 #[(.slice (some ⟨b, 0, none⟩) l.length c), (.int .i64 ((p : Nat) : Int)), (.int .i64 ((m : Nat) : Int)), (.int .i64 ((q : Nat) : Int)), (.func (.func 9) #[] #[])] w fun e w' => e = .returned (.tuple #[]) ∧ ∃ l' : List Nat, Row 1 vFlt 22 w0.heap.size w' (.slice (some ⟨b, 0, none⟩) l.length c) l' ∧ (MG p q l l' ∧ Srt l' p q) ∧ Below w0.heap.size w0 w' := by
  refine sx_enter (L := [(0, (.slice (some ⟨b, 0, none⟩) l.length c)), (1, (.int .i64 ((p : Nat) : Int))), (2, (.int .i64 ((m : Nat) : Int))), (3, (.int .i64 ((q : Nat) : Int))), (4, (.func (.func 9) #[] #[]))]) Try.func39 rfl rfl rfl rfl (fun fa hf => ?_)
  refine wp_seq_k (fun K1 hK1 => ?_)
  refine wp_seq_k (fun K2 hK2 => ?_)
  refine wp_region_lit ?_
  refine sqv hf (r_move rfl) rfl rfl rfl ?_; clear hf fa; intro fa hf
  refine sqv hf (r_move rfl) rfl rfl rfl ?_; clear hf fa; intro fa hf
  refine sqv hf (r_sub (C := (((m - p) : Nat) : Int)) rfl rfl (by rw [IntKind.wrap_i64]; omega)) rfl rfl rfl ?_; clear hf fa; intro fa hf
  refine sqv hf (r_eq rfl rfl) rfl rfl rfl ?_; clear hf fa; intro fa hf
  apply wpList_nil
  (try simp only [Exit.then, Exit.inBlock, ↓reduceIte, Nat.reduceEqDiff])
  refine hK2 _ _ ?_
  refine wp_cond_split (t := (decide ((((m - p) : Nat) : Int) = (1 : Int)))) (hf.ev rfl) (fun hqt28_1 => ?_) (fun hqt28_1 => ?_)
  · have hqt28_1b := hqt28_1
    try simp only [decide_eq_true_eq, Bool.and_eq_true, Bool.or_eq_true, Bool.not_eq_true', decide_eq_false_iff_not, ne_eq, Bool.not_eq_true] at hqt28_1
    refine wp_seq_k (fun K3 hK3 => ?_)
    refine wp_region_lit ?_
    refine sqv hf (r_move rfl) rfl rfl rfl ?_; clear hf fa; intro fa hf
    refine sqv hf (r_assign rfl) rfl rfl rfl ?_; clear hf fa; intro fa hf
    apply wpList_nil
    (try simp only [Exit.then, Exit.inBlock, ↓reduceIte, Nat.reduceEqDiff])
    refine hK3 _ _ ?_
    refine wp_seq_k (fun K4 hK4 => ?_)
    refine wp_region_lit ?_
    refine sqv hf (r_move rfl) rfl rfl rfl ?_; clear hf fa; intro fa hf
    refine sqv hf (r_assign rfl) rfl rfl rfl ?_; clear hf fa; intro fa hf
    apply wpList_nil
    (try simp only [Exit.then, Exit.inBlock, ↓reduceIte, Nat.reduceEqDiff])
    refine hK4 _ _ ?_
    refine wp_seq_k (fun K5 hK5 => ?_)
    refine wp_block ?_
    refine wp_loop_k (fun mq fa wr => ∃ (i : Nat) (j : Nat), mq = j - i ∧ Fr 220 fa [(0, (.slice (some ⟨b, 0, none⟩) l.length c)), (1, (.int .i64 ((p : Nat) : Int))), (2, (.int .i64 ((m : Nat) : Int))), (3, (.int .i64 ((q : Nat) : Int))), (4, (.func (.func 9) #[] #[])), (10, (.int .i64 ((i : Nat) : Int))), (11, (.int .i64 ((j : Nat) : Int)))] ∧ Below w0.heap.size w0 wr ∧ Row 1 vFlt 22 (w0.heap.size) wr (.slice (some ⟨b, 0, none⟩) (l.length) c) l ∧ (m ≤ i) ∧ (i ≤ j) ∧ (j ≤ q) ∧ (∀ x, m ≤ x → x < i → KK l x < KK l p) ∧ (∀ x, j ≤ x → x < q → ¬ KK l x < KK l p)) ?_ ?_
    · skip
      exact ⟨_, m, q, rfl, hf.sub ⟨rfl, rfl, rfl, rfl, rfl, rfl, rfl, trivial⟩, hb, hR, (by omega), (by omega), (by omega), (fun x h1 h2 => by omega), (fun x h1 h2 => by omega)⟩
    · skip
      clear hf fa; intro mq1 fa w1 hI KL1 hKL1
      clear hb
      clear hR
      obtain ⟨i, j, hmq1, hf, hb, hr, hi1, hij, hjq, hlo, hhi⟩ := hI
      have hcr := Row.caps hr
      refine wp_seq_k (fun K6 hK6 => ?_)
      refine wp_seq_k (fun K7 hK7 => ?_)
      refine wp_region_lit ?_
      refine sqv hf (r_move rfl) rfl rfl rfl ?_; clear hf fa; intro fa hf
      refine sqv hf (r_move rfl) rfl rfl rfl ?_; clear hf fa; intro fa hf
      refine sqv hf (r_lt rfl rfl) rfl rfl rfl ?_; clear hf fa; intro fa hf
      apply wpList_nil
      (try simp only [Exit.then, Exit.inBlock, ↓reduceIte, Nat.reduceEqDiff])
      refine hK7 _ _ ?_
      refine wp_cond_split (t := (decide (((i : Nat) : Int) < ((j : Nat) : Int)))) (hf.ev rfl) (fun hqt33_1 => ?_) (fun hqt33_1 => ?_)
      · have hqt33_1b := hqt33_1
        try simp only [decide_eq_true_eq, Bool.and_eq_true, Bool.or_eq_true, Bool.not_eq_true', decide_eq_false_iff_not, ne_eq, Bool.not_eq_true] at hqt33_1
        refine wp_skip ?_
        (try simp only [Exit.then, Exit.inBlock, ↓reduceIte, Nat.reduceEqDiff])
        refine hK6 _ _ ?_
        refine wp_block ?_
        refine wp_seq_k (fun K8 hK8 => ?_)
        refine wp_region_lit ?_
        refine sqv hf (r_move rfl) rfl rfl rfl ?_; clear hf fa; intro fa hf
        refine sqv hf (r_move rfl) rfl rfl rfl ?_; clear hf fa; intro fa hf
        refine sqv hf (r_add (C := (((i + j) : Nat) : Int)) rfl rfl (by rw [IntKind.wrap_i64]; omega)) rfl rfl rfl ?_; clear hf fa; intro fa hf
        refine sqv hf (r_conv (C := (((i + j) : Nat) : Int)) rfl Try.underlying3 Try.underlying55 (by rw [IntKind.wrap_u64]; omega)) rfl rfl rfl ?_; clear hf fa; intro fa hf
        refine sqv hf (r_shr (n := 1) (C := ((((i + j) / 2) : Nat) : Int)) rfl rfl rfl (half_shr _)) rfl rfl rfl ?_; clear hf fa; intro fa hf
        refine sqv hf (r_conv (C := ((((i + j) / 2) : Nat) : Int)) rfl Try.underlying55 Try.underlying3 (by rw [IntKind.wrap_i64]; omega)) rfl rfl rfl ?_; clear hf fa; intro fa hf
        refine sqv hf (r_assign rfl) rfl rfl rfl ?_; clear hf fa; intro fa hf
        apply wpList_nil
        (try simp only [Exit.then, Exit.inBlock, ↓reduceIte, Nat.reduceEqDiff])
        refine hK8 _ _ ?_
        refine wp_seq_k (fun K9 hK9 => ?_)
        have hy1 := getD_at (l := l) (j := (((i + j) / 2))) 0 (by first | omega | (simp only [Sl.list_length, List.length_set, List.length_take, List.length_append, List.length_replicate, List.length_cons, List.length_nil, List.length_map, nums_len]; omega))
        have hel1 := RdS.at (Row.rd (by intros; rfl) hr) hy1
        obtain ⟨_, _, hab, hlr1, hel1⟩ := hel1
        cases hab
        have hy2 := getD_at (l := l) (j := p) 0 (by first | omega | (simp only [Sl.list_length, List.length_set, List.length_take, List.length_append, List.length_replicate, List.length_cons, List.length_nil, List.length_map, nums_len]; omega))
        have hel2 := RdS.at (Row.rd (by intros; rfl) hr) hy2
        obtain ⟨_, _, hab, hlr2, hel2⟩ := hel2
        cases hab
        refine wp_region_un (fun wq => Below w1.heap.size w1 wq) (fun w w' => Below w.heap.size w w')
          (fun V => [(fun x _ => x = (.func (.func 9) #[] #[])), (fun x _ => x = (.slice (some ⟨b, 0, none⟩) l.length c)), (fun x _ => x = (.int .i64 ((((i + j) / 2) : Nat) : Int))), (fun x _ => x = (.pointer (some ⟨b, (0 + (((i + j) / 2)) * 1), none⟩))), (fun x _ => x = (.float .f64 (l.getD (((i + j) / 2)) 0))), (fun x _ => x = (.slice (some ⟨b, 0, none⟩) l.length c)), (fun x _ => x = (.int .i64 ((p : Nat) : Int))), (fun x _ => x = (.pointer (some ⟨b, (0 + p * 1), none⟩))), (fun x _ => x = (.float .f64 (l.getD p 0))), (fun x _ => x = (.int .i64 (ordN (l.getD (((i + j) / 2)) 0) (l.getD p 0)))), (fun x _ => x = (.bool (decide ((ordN (l.getD (((i + j) / 2)) 0) (l.getD p 0)) < (0 : Int)))))])
          []
          [[], [], [], [1, 2], [3], [], [], [5, 6], [7], [0, 4, 8], [9]]
          hf (by kernel_rfl) (by kernel_rfl) (fun _ => rfl) ((Below.refl _ _).drew) (fun a b h1 h2 => h1.trans (h2.mono h1.size)) (fun _ _ h => h.size) (fun V => ⟨kept_eq, kept_eq, kept_eq, kept_eq, kept_eq, kept_eq, kept_eq, kept_eq, kept_eq, kept_eq, kept_eq, trivial⟩) (fun _ _ _ _ _ => rfl) ?_ ?_
        · skip
          intro V
          refine ⟨fun wu0 hC hd => ?_, ?_⟩
          · clear hd
            replace hb := hb.trans (hC.mono hb.size)
            replace hr := Row.ext hr hC
            exact Runs.does (r_move rfl) ⟨Below.refl _ _, rfl, nofr rfl⟩
          refine ⟨fun wu1 hC hd => ?_, ?_⟩
          · clear hd
            replace hb := hb.trans (hC.mono hb.size)
            replace hr := Row.ext hr hC
            exact Runs.does (r_move rfl) ⟨Below.refl _ _, rfl, nofr rfl⟩
          refine ⟨fun wu2 hC hd => ?_, ?_⟩
          · clear hd
            replace hb := hb.trans (hC.mono hb.size)
            replace hr := Row.ext hr hC
            exact Runs.does (r_move rfl) ⟨Below.refl _ _, rfl, nofr rfl⟩
          refine ⟨fun wu3 hC hd => ?_, ?_⟩
          · obtain ⟨h1, h2, _⟩ := hd
            skip
            skip
            replace h1 : V 1 = (.slice (some ⟨b, 0, none⟩) l.length c) := h1
            replace h2 : V 2 = (.int .i64 ((((i + j) / 2) : Nat) : Int)) := h2
            replace hb := hb.trans (hC.mono hb.size)
            replace hr := Row.ext hr hC
            exact Runs.does (r_ixa (sz := 1) (j := (((i + j) / 2))) (congrArg some h1) (congrArg some h2) Try.underlying30 (by kernel_rfl) rfl (by omega) rfl) ⟨Below.refl _ _, rfl, nofr rfl⟩
          refine ⟨fun wu4 hC hd => ?_, ?_⟩
          · obtain ⟨h3, _⟩ := hd
            skip
            replace h3 : V 3 = (.pointer (some ⟨b, (0 + (((i + j) / 2)) * 1), none⟩)) := h3
            replace hb := hb.trans (hC.mono hb.size)
            replace hr := Row.ext hr hC
            exact Runs.does (r_load (v := (.float .f64 (l.getD (((i + j) / 2)) 0))) (congrArg some h3) Try.underlying22 rfl (cellsAt_cell (cellsAt_below hel1 hC hlr1) (i := 0) rfl rfl)) ⟨Below.refl _ _, rfl, nofr rfl⟩
          refine ⟨fun wu5 hC hd => ?_, ?_⟩
          · clear hd
            replace hb := hb.trans (hC.mono hb.size)
            replace hr := Row.ext hr hC
            exact Runs.does (r_move rfl) ⟨Below.refl _ _, rfl, nofr rfl⟩
          refine ⟨fun wu6 hC hd => ?_, ?_⟩
          · clear hd
            replace hb := hb.trans (hC.mono hb.size)
            replace hr := Row.ext hr hC
            exact Runs.does (r_move rfl) ⟨Below.refl _ _, rfl, nofr rfl⟩
          refine ⟨fun wu7 hC hd => ?_, ?_⟩
          · obtain ⟨h5, h6, _⟩ := hd
            skip
            skip
            replace h5 : V 5 = (.slice (some ⟨b, 0, none⟩) l.length c) := h5
            replace h6 : V 6 = (.int .i64 ((p : Nat) : Int)) := h6
            replace hb := hb.trans (hC.mono hb.size)
            replace hr := Row.ext hr hC
            exact Runs.does (r_ixa (sz := 1) (j := p) (congrArg some h5) (congrArg some h6) Try.underlying30 (by kernel_rfl) rfl (by omega) rfl) ⟨Below.refl _ _, rfl, nofr rfl⟩
          refine ⟨fun wu8 hC hd => ?_, ?_⟩
          · obtain ⟨h7, _⟩ := hd
            skip
            replace h7 : V 7 = (.pointer (some ⟨b, (0 + p * 1), none⟩)) := h7
            replace hb := hb.trans (hC.mono hb.size)
            replace hr := Row.ext hr hC
            exact Runs.does (r_load (v := (.float .f64 (l.getD p 0))) (congrArg some h7) Try.underlying22 rfl (cellsAt_cell (cellsAt_below hel2 hC hlr2) (i := 0) rfl rfl)) ⟨Below.refl _ _, rfl, nofr rfl⟩
          refine ⟨fun wu9 hC hd => ?_, ?_⟩
          · obtain ⟨h0, h4, h8, _⟩ := hd
            skip
            skip
            skip
            replace h0 : V 0 = (.func (.func 9) #[] #[]) := h0
            replace h4 : V 4 = (.float .f64 (l.getD (((i + j) / 2)) 0)) := h4
            replace h8 : V 8 = (.float .f64 (l.getD p 0)) := h8
            replace hb := hb.trans (hC.mono hb.size)
            replace hr := Row.ext hr hC
            refine Does.mono (d_callFB (vs := [(.float .f64 (l.getD (((i + j) / 2)) 0)), (.float .f64 (l.getD p 0))]) (congrArg some h0) (show [some (V 4), some (V 8)] = [some (.float .f64 (l.getD (((i + j) / 2)) 0)), some (.float .f64 (l.getD p 0))] from by rw [h4, h8]) (enters Try.func9 (by kernel_rfl) (by kernel_rfl)) (order_any (l.getD (((i + j) / 2)) 0) (l.getD p 0) (allW_getD hW _) (allW_getD hW _) _)) (fun _ _ h => ⟨h.2, h.1, nofr rfl⟩)
          refine ⟨fun wu10 hC hd => ?_, ?_⟩
          · obtain ⟨h9, _⟩ := hd
            skip
            replace h9 : V 9 = (.int .i64 (ordN (l.getD (((i + j) / 2)) 0) (l.getD p 0))) := h9
            replace hb := hb.trans (hC.mono hb.size)
            replace hr := Row.ext hr hC
            exact Runs.does (r_lt (congrArg some h9) rfl) ⟨Below.refl _ _, rfl, nofr rfl⟩
          trivial
        · skip
          clear hf fa; intro V w2 fa he1 hp hnb hf
          have hv0 : V 0 = (.func (.func 9) #[] #[]) := postsHold_at hp 0 rfl
          have hv1 : V 1 = (.slice (some ⟨b, 0, none⟩) l.length c) := postsHold_at hp 1 rfl
          have hv2 : V 2 = (.int .i64 ((((i + j) / 2) : Nat) : Int)) := postsHold_at hp 2 rfl
          have hv3 : V 3 = (.pointer (some ⟨b, (0 + (((i + j) / 2)) * 1), none⟩)) := postsHold_at hp 3 rfl
          have hv4 : V 4 = (.float .f64 (l.getD (((i + j) / 2)) 0)) := postsHold_at hp 4 rfl
          have hv5 : V 5 = (.slice (some ⟨b, 0, none⟩) l.length c) := postsHold_at hp 5 rfl
          have hv6 : V 6 = (.int .i64 ((p : Nat) : Int)) := postsHold_at hp 6 rfl
          have hv7 : V 7 = (.pointer (some ⟨b, (0 + p * 1), none⟩)) := postsHold_at hp 7 rfl
          have hv8 : V 8 = (.float .f64 (l.getD p 0)) := postsHold_at hp 8 rfl
          have hv9 : V 9 = (.int .i64 (ordN (l.getD (((i + j) / 2)) 0) (l.getD p 0))) := postsHold_at hp 9 rfl
          have hv10 : V 10 = (.bool (decide ((ordN (l.getD (((i + j) / 2)) 0) (l.getD p 0)) < (0 : Int)))) := postsHold_at hp 10 rfl
          simp only [List.take_succ_cons, List.take_zero, insAll, ins, hv0, hv1, hv2, hv3, hv4, hv5, hv6, hv7, hv8, hv9, hv10] at hf
          clear hp hnb hv0 hv1 hv2 hv3 hv4 hv5 hv6 hv7 hv8 hv9 hv10
          replace hr := Row.ext hr he1
          replace hb := hb.trans (Below.mono he1 hb.size)
          (try simp only [Exit.then, Exit.inBlock, ↓reduceIte, Nat.reduceEqDiff])
          refine hK9 _ _ ?_
          refine wp_cond_split (t := (decide ((ordN (l.getD (((i + j) / 2)) 0) (l.getD p 0)) < (0 : Int)))) (hf.ev rfl) (fun hqt50_1 => ?_) (fun hqt50_1 => ?_)
          · have hqt50_1b := hqt50_1
            try simp only [decide_eq_true_eq, Bool.and_eq_true, Bool.or_eq_true, Bool.not_eq_true', decide_eq_false_iff_not, ne_eq, Bool.not_eq_true] at hqt50_1
            refine wp_region_lit ?_
            refine sqv hf (r_move rfl) rfl rfl rfl ?_; clear hf fa; intro fa hf
            refine sqv hf (r_add (C := (((((i + j) / 2) + 1) : Nat) : Int)) rfl rfl (by rw [IntKind.wrap_i64]; omega)) rfl rfl rfl ?_; clear hf fa; intro fa hf
            refine sqv hf (r_assign rfl) rfl rfl rfl ?_; clear hf fa; intro fa hf
            apply wpList_nil
            (try simp only [Exit.then, Exit.inBlock, ↓reduceIte, Nat.reduceEqDiff])
            refine hKL1 _ _ _ (by omega) ⟨(((i + j) / 2) + 1), j, rfl, hf.sub ⟨rfl, rfl, rfl, rfl, rfl, rfl, rfl, trivial⟩, hb, hr, (by omega), (by omega), (by omega), (fun x h1 h2 => by have hx := hqt50_1; rw [ord_kk] at hx; exact Int.lt_of_le_of_lt (hsr x ((i + j) / 2) h1 (by omega) (by omega)) hx), hhi⟩
          · have hqt50_1b := hqt50_1
            replace hqt50_1 := Bool.eq_false_iff.1 hqt50_1
            try simp only [ne_eq, decide_eq_true_eq, Bool.and_eq_true, Bool.or_eq_true, Bool.not_eq_true', decide_eq_false_iff_not] at hqt50_1
            refine wp_region_lit ?_
            refine sqv hf (r_move rfl) rfl rfl rfl ?_; clear hf fa; intro fa hf
            refine sqv hf (r_assign rfl) rfl rfl rfl ?_; clear hf fa; intro fa hf
            apply wpList_nil
            (try simp only [Exit.then, Exit.inBlock, ↓reduceIte, Nat.reduceEqDiff])
            refine hKL1 _ _ _ (by omega) ⟨i, ((i + j) / 2), rfl, hf.sub ⟨rfl, rfl, rfl, rfl, rfl, rfl, rfl, trivial⟩, hb, hr, (by omega), (by omega), (by omega), hlo, (fun x h1 h2 => by have hx := hqt50_1; rw [ord_kk] at hx; have := hsr ((i + j) / 2) x (by omega) (by omega) h2; omega)⟩
      · have hqt33_1b := hqt33_1
        replace hqt33_1 := Bool.eq_false_iff.1 hqt33_1
        try simp only [ne_eq, decide_eq_true_eq, Bool.and_eq_true, Bool.or_eq_true, Bool.not_eq_true', decide_eq_false_iff_not] at hqt33_1
        refine wp_exit ?_
        (try simp only [Exit.then, Exit.inBlock, ↓reduceIte, Nat.reduceEqDiff])
        refine hK5 _ _ ?_
        refine wp_seq_k (fun K10 hK10 => ?_)
        refine wp_seq_k (fun K11 hK11 => ?_)
        refine wp_region_lit ?_
        refine sqv hf (r_move rfl) rfl rfl rfl ?_; clear hf fa; intro fa hf
        refine sqv hf (r_assign rfl) rfl rfl rfl ?_; clear hf fa; intro fa hf
        apply wpList_nil
        (try simp only [Exit.then, Exit.inBlock, ↓reduceIte, Nat.reduceEqDiff])
        refine hK11 _ _ ?_
        refine wp_block ?_
        refine wp_loop_k (fun mq fa wr => ∃ (t : Nat) (cur : List Nat), mq = i - 1 - t ∧ Fr 220 fa [(0, (.slice (some ⟨b, 0, none⟩) l.length c)), (1, (.int .i64 ((p : Nat) : Int))), (2, (.int .i64 ((m : Nat) : Int))), (3, (.int .i64 ((q : Nat) : Int))), (4, (.func (.func 9) #[] #[])), (10, (.int .i64 ((i : Nat) : Int))), (13, (.int .i64 ((t : Nat) : Int)))] ∧ Below w0.heap.size w0 wr ∧ Row 1 vFlt 22 (w0.heap.size) wr (.slice (some ⟨b, 0, none⟩) (l.length) c) cur ∧ (p ≤ t) ∧ (t ≤ i - 1) ∧ (Via (shlT p t) l cur)) ?_ ?_
        · skip
          exact ⟨_, p, l, rfl, hf.sub ⟨rfl, rfl, rfl, rfl, rfl, rfl, rfl, trivial⟩, hb, hr, (by omega), (by omega), ((Via.refl l).congr (shl_zero p))⟩
        · skip
          clear hf fa; intro mq2 fa w3 hI KL2 hKL2
          clear hb
          clear hr
          obtain ⟨t, cur, hmq2, hf, hb, hr, ht1, ht2, hv⟩ := hI
          have hcr := Row.caps hr
          have hcl := hv.len
          refine wp_seq_k (fun K12 hK12 => ?_)
          refine wp_seq_k (fun K13 hK13 => ?_)
          refine wp_region_lit ?_
          refine sqv hf (r_move rfl) rfl rfl rfl ?_; clear hf fa; intro fa hf
          refine sqv hf (r_move rfl) rfl rfl rfl ?_; clear hf fa; intro fa hf
          refine sqv hf (r_sub (C := (((i - 1) : Nat) : Int)) rfl rfl (by rw [IntKind.wrap_i64]; omega)) rfl rfl rfl ?_; clear hf fa; intro fa hf
          refine sqv hf (r_lt rfl rfl) rfl rfl rfl ?_; clear hf fa; intro fa hf
          apply wpList_nil
          (try simp only [Exit.then, Exit.inBlock, ↓reduceIte, Nat.reduceEqDiff])
          refine hK13 _ _ ?_
          refine wp_cond_split (t := (decide (((t : Nat) : Int) < (((i - 1) : Nat) : Int)))) (hf.ev rfl) (fun hqt58_1 => ?_) (fun hqt58_1 => ?_)
          · have hqt58_1b := hqt58_1
            try simp only [decide_eq_true_eq, Bool.and_eq_true, Bool.or_eq_true, Bool.not_eq_true', decide_eq_false_iff_not, ne_eq, Bool.not_eq_true] at hqt58_1
            refine wp_skip ?_
            (try simp only [Exit.then, Exit.inBlock, ↓reduceIte, Nat.reduceEqDiff])
            refine hK12 _ _ ?_
            refine wp_seq_k (fun K14 hK14 => ?_)
            refine wp_block ?_
            have hy3 := getD_at (l := cur) (j := ((t + 1))) 0 (by first | omega | (simp only [Sl.list_length, List.length_set, List.length_take, List.length_append, List.length_replicate, List.length_cons, List.length_nil, List.length_map, nums_len]; omega))
            have hel3 := RdS.at (Row.rd (by intros; rfl) hr) hy3
            obtain ⟨_, _, hab, hlr3, hel3⟩ := hel3
            cases hab
            have hy4 := getD_at (l := cur) (j := t) 0 (by first | omega | (simp only [Sl.list_length, List.length_set, List.length_take, List.length_append, List.length_replicate, List.length_cons, List.length_nil, List.length_map, nums_len]; omega))
            have hel4 := RdS.at (Row.rd (by intros; rfl) hr) hy4
            obtain ⟨_, _, hab, hlr4, hel4⟩ := hel4
            cases hab
            have hy5 := getD_at (l := cur) (j := t) 0 (by first | omega | (simp only [Sl.list_length, List.length_set, List.length_take, List.length_append, List.length_replicate, List.length_cons, List.length_nil, List.length_map, nums_len]; omega))
            have hel5 := RdS.at (Row.rd (by intros; rfl) hr) hy5
            obtain ⟨_, _, hab, hlr5, hel5⟩ := hel5
            cases hab
            refine wp_region_vnT 16 (fun S wq => w3.grownBy wq (some b) ∧ (¬ S 15 → Row 1 vFlt 22 w0.heap.size wq (.slice (some ⟨b, 0, none⟩) l.length c) cur) ∧ (S 15 → Row 1 vFlt 22 w0.heap.size wq (.slice (some ⟨b, 0, none⟩) l.length c) ((cur).set t (cur.getD ((t + 1)) 0))))
              (fun V S => [(fun x _ => x = (.slice (some ⟨b, 0, none⟩) l.length c)), (fun x _ => x = (.int .i64 ((t : Nat) : Int))), (fun x _ => x = (.slice (some ⟨b, 0, none⟩) l.length c)), (fun x _ => x = (.int .i64 ((t : Nat) : Int))), (fun x _ => x = (.int .i64 (((t + 1) : Nat) : Int))), (fun x _ => x = (.slice (some ⟨b, 0, none⟩) l.length c)), (fun x _ => x = (.int .i64 ((t : Nat) : Int))), (fun x _ => x = (.int .i64 (((t + 1) : Nat) : Int))), (fun x _ => x = (.pointer (some ⟨b, (0 + ((t + 1)) * 1), none⟩))), (fun x _ => x = (.float .f64 (cur.getD ((t + 1)) 0))), (fun x _ => x = (.slice (some ⟨b, 0, none⟩) l.length c)), (fun x _ => x = (.int .i64 ((t : Nat) : Int))), (fun x _ => x = (.pointer (some ⟨b, (0 + t * 1), none⟩))), (fun x _ => x = (.float .f64 (cur.getD t 0))), (fun x _ => x = (.pointer (some ⟨b, (0 + t * 1), none⟩))), (fun _ _ => True)])
              []
              [[], [], [], [], [3], [], [], [6], [5, 7], [8], [], [], [10, 11], [12], [0, 1, 5, 6, 7, 8, 9, 13], [0, 1, 5, 6, 7, 8, 9, 13, 14], [], []]
              hf (by kernel_rfl) (by kernel_rfl) (by kernel_rfl) (fun _ _ => rfl) (fun _ hS_ => ⟨below_grown (Below.refl _ _).drew, fun _ => Row.ext hr (Below.refl _ _).drew, fun h => absurd h (hS_ _)⟩) (fun _ _ _ _ _ _ => rfl) ?_ ?_
            · skip
              intro V
              have hKP : ∀ (iX : Nat) (S : Nat → Prop) (wk : World), ∀ jX vX wX, (((fun (S : Nat → Prop) => ([(fun x _ => x = (.slice (some ⟨b, 0, none⟩) l.length c)), (fun x _ => x = (.int .i64 ((t : Nat) : Int))), (fun x _ => x = (.slice (some ⟨b, 0, none⟩) l.length c)), (fun x _ => x = (.int .i64 ((t : Nat) : Int))), (fun x _ => x = (.int .i64 (((t + 1) : Nat) : Int))), (fun x _ => x = (.slice (some ⟨b, 0, none⟩) l.length c)), (fun x _ => x = (.int .i64 ((t : Nat) : Int))), (fun x _ => x = (.int .i64 (((t + 1) : Nat) : Int))), (fun x _ => x = (.pointer (some ⟨b, (0 + ((t + 1)) * 1), none⟩))), (fun x _ => x = (.float .f64 (cur.getD ((t + 1)) 0))), (fun x _ => x = (.slice (some ⟨b, 0, none⟩) l.length c)), (fun x _ => x = (.int .i64 ((t : Nat) : Int))), (fun x _ => x = (.pointer (some ⟨b, (0 + t * 1), none⟩))), (fun x _ => x = (.float .f64 (cur.getD t 0))), (fun x _ => x = (.pointer (some ⟨b, (0 + t * 1), none⟩))), (fun _ _ => True)] : List (Value → World → Prop))) S).getD jX (fun _ _ => True)) vX wk → Below wk.heap.size wk wX → (((fun (S : Nat → Prop) => ([(fun x _ => x = (.slice (some ⟨b, 0, none⟩) l.length c)), (fun x _ => x = (.int .i64 ((t : Nat) : Int))), (fun x _ => x = (.slice (some ⟨b, 0, none⟩) l.length c)), (fun x _ => x = (.int .i64 ((t : Nat) : Int))), (fun x _ => x = (.int .i64 (((t + 1) : Nat) : Int))), (fun x _ => x = (.slice (some ⟨b, 0, none⟩) l.length c)), (fun x _ => x = (.int .i64 ((t : Nat) : Int))), (fun x _ => x = (.int .i64 (((t + 1) : Nat) : Int))), (fun x _ => x = (.pointer (some ⟨b, (0 + ((t + 1)) * 1), none⟩))), (fun x _ => x = (.float .f64 (cur.getD ((t + 1)) 0))), (fun x _ => x = (.slice (some ⟨b, 0, none⟩) l.length c)), (fun x _ => x = (.int .i64 ((t : Nat) : Int))), (fun x _ => x = (.pointer (some ⟨b, (0 + t * 1), none⟩))), (fun x _ => x = (.float .f64 (cur.getD t 0))), (fun x _ => x = (.pointer (some ⟨b, (0 + t * 1), none⟩))), (fun _ _ => True)] : List (Value → World → Prop))) (ad iX S)).getD jX (fun _ _ => True)) vX wX := by
                intro iX S wk jX vX wX h hB
                match jX with
                | 0 => exact h
                | 1 => exact h
                | 2 => exact h
                | 3 => exact h
                | 4 => exact h
                | 5 => exact h
                | 6 => exact h
                | 7 => exact h
                | 8 => exact h
                | 9 => exact h
                | 10 => exact h
                | 11 => exact h
                | 12 => exact h
                | 13 => exact h
                | 14 => exact h
                | 15 => exact h
                | _ + 16 => trivial
              refine ⟨fun S wu0 hC hS hd hi => ?_, ?_⟩
              · skip
                replace hC := show w3.grownBy wu0 (some b) ∧ (¬ S 15 → Row 1 vFlt 22 w0.heap.size wu0 (.slice (some ⟨b, 0, none⟩) l.length c) cur) ∧ (S 15 → Row 1 vFlt 22 w0.heap.size wu0 (.slice (some ⟨b, 0, none⟩) l.length c) ((cur).set t (cur.getD ((t + 1)) 0))) from hC
                refine uv_plain (C := (fun S wq => w3.grownBy wq (some b) ∧ (¬ S 15 → Row 1 vFlt 22 w0.heap.size wq (.slice (some ⟨b, 0, none⟩) l.length c) cur) ∧ (S 15 → Row 1 vFlt 22 w0.heap.size wq (.slice (some ⟨b, 0, none⟩) l.length c) ((cur).set t (cur.getD ((t + 1)) 0))))) (hKP 0 S wu0) (fun _ h1 h2 => ⟨grown_trans h1.1 (below_grown h2), fun hn => Row.ext (h1.2.1 (fun hs => hn (.inr hs))) h2, fun hs => Row.ext (h1.2.2 (by rcases hs with e | hs; exact absurd e (by decide); exact hs)) h2⟩) hC hS ?_
                obtain ⟨hCg, hCa, hCb⟩ := hC
                have hsz_ := hCg.size
                exact Runs.does (r_move rfl) ⟨Below.refl _ _, rfl, nofr rfl⟩
              refine ⟨fun S wu1 hC hS hd hi => ?_, ?_⟩
              · skip
                replace hC := show w3.grownBy wu1 (some b) ∧ (¬ S 15 → Row 1 vFlt 22 w0.heap.size wu1 (.slice (some ⟨b, 0, none⟩) l.length c) cur) ∧ (S 15 → Row 1 vFlt 22 w0.heap.size wu1 (.slice (some ⟨b, 0, none⟩) l.length c) ((cur).set t (cur.getD ((t + 1)) 0))) from hC
                refine uv_plain (C := (fun S wq => w3.grownBy wq (some b) ∧ (¬ S 15 → Row 1 vFlt 22 w0.heap.size wq (.slice (some ⟨b, 0, none⟩) l.length c) cur) ∧ (S 15 → Row 1 vFlt 22 w0.heap.size wq (.slice (some ⟨b, 0, none⟩) l.length c) ((cur).set t (cur.getD ((t + 1)) 0))))) (hKP 1 S wu1) (fun _ h1 h2 => ⟨grown_trans h1.1 (below_grown h2), fun hn => Row.ext (h1.2.1 (fun hs => hn (.inr hs))) h2, fun hs => Row.ext (h1.2.2 (by rcases hs with e | hs; exact absurd e (by decide); exact hs)) h2⟩) hC hS ?_
                obtain ⟨hCg, hCa, hCb⟩ := hC
                have hsz_ := hCg.size
                exact Runs.does (r_move rfl) ⟨Below.refl _ _, rfl, nofr rfl⟩
              refine ⟨fun S wu2 hC hS hd hi => ?_, ?_⟩
              · skip
                replace hC := show w3.grownBy wu2 (some b) ∧ (¬ S 15 → Row 1 vFlt 22 w0.heap.size wu2 (.slice (some ⟨b, 0, none⟩) l.length c) cur) ∧ (S 15 → Row 1 vFlt 22 w0.heap.size wu2 (.slice (some ⟨b, 0, none⟩) l.length c) ((cur).set t (cur.getD ((t + 1)) 0))) from hC
                refine uv_plain (C := (fun S wq => w3.grownBy wq (some b) ∧ (¬ S 15 → Row 1 vFlt 22 w0.heap.size wq (.slice (some ⟨b, 0, none⟩) l.length c) cur) ∧ (S 15 → Row 1 vFlt 22 w0.heap.size wq (.slice (some ⟨b, 0, none⟩) l.length c) ((cur).set t (cur.getD ((t + 1)) 0))))) (hKP 2 S wu2) (fun _ h1 h2 => ⟨grown_trans h1.1 (below_grown h2), fun hn => Row.ext (h1.2.1 (fun hs => hn (.inr hs))) h2, fun hs => Row.ext (h1.2.2 (by rcases hs with e | hs; exact absurd e (by decide); exact hs)) h2⟩) hC hS ?_
                obtain ⟨hCg, hCa, hCb⟩ := hC
                have hsz_ := hCg.size
                exact Runs.does (r_move rfl) ⟨Below.refl _ _, rfl, nofr rfl⟩
              refine ⟨fun S wu3 hC hS hd hi => ?_, ?_⟩
              · skip
                replace hC := show w3.grownBy wu3 (some b) ∧ (¬ S 15 → Row 1 vFlt 22 w0.heap.size wu3 (.slice (some ⟨b, 0, none⟩) l.length c) cur) ∧ (S 15 → Row 1 vFlt 22 w0.heap.size wu3 (.slice (some ⟨b, 0, none⟩) l.length c) ((cur).set t (cur.getD ((t + 1)) 0))) from hC
                refine uv_plain (C := (fun S wq => w3.grownBy wq (some b) ∧ (¬ S 15 → Row 1 vFlt 22 w0.heap.size wq (.slice (some ⟨b, 0, none⟩) l.length c) cur) ∧ (S 15 → Row 1 vFlt 22 w0.heap.size wq (.slice (some ⟨b, 0, none⟩) l.length c) ((cur).set t (cur.getD ((t + 1)) 0))))) (hKP 3 S wu3) (fun _ h1 h2 => ⟨grown_trans h1.1 (below_grown h2), fun hn => Row.ext (h1.2.1 (fun hs => hn (.inr hs))) h2, fun hs => Row.ext (h1.2.2 (by rcases hs with e | hs; exact absurd e (by decide); exact hs)) h2⟩) hC hS ?_
                obtain ⟨hCg, hCa, hCb⟩ := hC
                have hsz_ := hCg.size
                exact Runs.does (r_move rfl) ⟨Below.refl _ _, rfl, nofr rfl⟩
              refine ⟨fun S wu4 hC hS hd hi => ?_, ?_⟩
              · skip
                replace hC := show w3.grownBy wu4 (some b) ∧ (¬ S 15 → Row 1 vFlt 22 w0.heap.size wu4 (.slice (some ⟨b, 0, none⟩) l.length c) cur) ∧ (S 15 → Row 1 vFlt 22 w0.heap.size wu4 (.slice (some ⟨b, 0, none⟩) l.length c) ((cur).set t (cur.getD ((t + 1)) 0))) from hC
                refine uv_plain (C := (fun S wq => w3.grownBy wq (some b) ∧ (¬ S 15 → Row 1 vFlt 22 w0.heap.size wq (.slice (some ⟨b, 0, none⟩) l.length c) cur) ∧ (S 15 → Row 1 vFlt 22 w0.heap.size wq (.slice (some ⟨b, 0, none⟩) l.length c) ((cur).set t (cur.getD ((t + 1)) 0))))) (hKP 4 S wu4) (fun _ h1 h2 => ⟨grown_trans h1.1 (below_grown h2), fun hn => Row.ext (h1.2.1 (fun hs => hn (.inr hs))) h2, fun hs => Row.ext (h1.2.2 (by rcases hs with e | hs; exact absurd e (by decide); exact hs)) h2⟩) hC hS ?_
                obtain ⟨hCg, hCa, hCb⟩ := hC
                have h3 := hS.post 3 (hd 3 (by decide))
                replace h3 : V 3 = (.int .i64 ((t : Nat) : Int)) := h3
                have hsz_ := hCg.size
                exact Runs.does (r_add (C := (((t + 1) : Nat) : Int)) (congrArg some h3) rfl (by rw [IntKind.wrap_i64]; omega)) ⟨Below.refl _ _, rfl, nofr rfl⟩
              refine ⟨fun S wu5 hC hS hd hi => ?_, ?_⟩
              · skip
                replace hC := show w3.grownBy wu5 (some b) ∧ (¬ S 15 → Row 1 vFlt 22 w0.heap.size wu5 (.slice (some ⟨b, 0, none⟩) l.length c) cur) ∧ (S 15 → Row 1 vFlt 22 w0.heap.size wu5 (.slice (some ⟨b, 0, none⟩) l.length c) ((cur).set t (cur.getD ((t + 1)) 0))) from hC
                refine uv_plain (C := (fun S wq => w3.grownBy wq (some b) ∧ (¬ S 15 → Row 1 vFlt 22 w0.heap.size wq (.slice (some ⟨b, 0, none⟩) l.length c) cur) ∧ (S 15 → Row 1 vFlt 22 w0.heap.size wq (.slice (some ⟨b, 0, none⟩) l.length c) ((cur).set t (cur.getD ((t + 1)) 0))))) (hKP 5 S wu5) (fun _ h1 h2 => ⟨grown_trans h1.1 (below_grown h2), fun hn => Row.ext (h1.2.1 (fun hs => hn (.inr hs))) h2, fun hs => Row.ext (h1.2.2 (by rcases hs with e | hs; exact absurd e (by decide); exact hs)) h2⟩) hC hS ?_
                obtain ⟨hCg, hCa, hCb⟩ := hC
                have hsz_ := hCg.size
                exact Runs.does (r_move rfl) ⟨Below.refl _ _, rfl, nofr rfl⟩
              refine ⟨fun S wu6 hC hS hd hi => ?_, ?_⟩
              · skip
                replace hC := show w3.grownBy wu6 (some b) ∧ (¬ S 15 → Row 1 vFlt 22 w0.heap.size wu6 (.slice (some ⟨b, 0, none⟩) l.length c) cur) ∧ (S 15 → Row 1 vFlt 22 w0.heap.size wu6 (.slice (some ⟨b, 0, none⟩) l.length c) ((cur).set t (cur.getD ((t + 1)) 0))) from hC
                refine uv_plain (C := (fun S wq => w3.grownBy wq (some b) ∧ (¬ S 15 → Row 1 vFlt 22 w0.heap.size wq (.slice (some ⟨b, 0, none⟩) l.length c) cur) ∧ (S 15 → Row 1 vFlt 22 w0.heap.size wq (.slice (some ⟨b, 0, none⟩) l.length c) ((cur).set t (cur.getD ((t + 1)) 0))))) (hKP 6 S wu6) (fun _ h1 h2 => ⟨grown_trans h1.1 (below_grown h2), fun hn => Row.ext (h1.2.1 (fun hs => hn (.inr hs))) h2, fun hs => Row.ext (h1.2.2 (by rcases hs with e | hs; exact absurd e (by decide); exact hs)) h2⟩) hC hS ?_
                obtain ⟨hCg, hCa, hCb⟩ := hC
                have hsz_ := hCg.size
                exact Runs.does (r_move rfl) ⟨Below.refl _ _, rfl, nofr rfl⟩
              refine ⟨fun S wu7 hC hS hd hi => ?_, ?_⟩
              · skip
                replace hC := show w3.grownBy wu7 (some b) ∧ (¬ S 15 → Row 1 vFlt 22 w0.heap.size wu7 (.slice (some ⟨b, 0, none⟩) l.length c) cur) ∧ (S 15 → Row 1 vFlt 22 w0.heap.size wu7 (.slice (some ⟨b, 0, none⟩) l.length c) ((cur).set t (cur.getD ((t + 1)) 0))) from hC
                refine uv_plain (C := (fun S wq => w3.grownBy wq (some b) ∧ (¬ S 15 → Row 1 vFlt 22 w0.heap.size wq (.slice (some ⟨b, 0, none⟩) l.length c) cur) ∧ (S 15 → Row 1 vFlt 22 w0.heap.size wq (.slice (some ⟨b, 0, none⟩) l.length c) ((cur).set t (cur.getD ((t + 1)) 0))))) (hKP 7 S wu7) (fun _ h1 h2 => ⟨grown_trans h1.1 (below_grown h2), fun hn => Row.ext (h1.2.1 (fun hs => hn (.inr hs))) h2, fun hs => Row.ext (h1.2.2 (by rcases hs with e | hs; exact absurd e (by decide); exact hs)) h2⟩) hC hS ?_
                obtain ⟨hCg, hCa, hCb⟩ := hC
                have h6 := hS.post 6 (hd 6 (by decide))
                replace h6 : V 6 = (.int .i64 ((t : Nat) : Int)) := h6
                have hsz_ := hCg.size
                exact Runs.does (r_add (C := (((t + 1) : Nat) : Int)) (congrArg some h6) rfl (by rw [IntKind.wrap_i64]; omega)) ⟨Below.refl _ _, rfl, nofr rfl⟩
              refine ⟨fun S wu8 hC hS hd hi => ?_, ?_⟩
              · skip
                replace hC := show w3.grownBy wu8 (some b) ∧ (¬ S 15 → Row 1 vFlt 22 w0.heap.size wu8 (.slice (some ⟨b, 0, none⟩) l.length c) cur) ∧ (S 15 → Row 1 vFlt 22 w0.heap.size wu8 (.slice (some ⟨b, 0, none⟩) l.length c) ((cur).set t (cur.getD ((t + 1)) 0))) from hC
                refine uv_plain (C := (fun S wq => w3.grownBy wq (some b) ∧ (¬ S 15 → Row 1 vFlt 22 w0.heap.size wq (.slice (some ⟨b, 0, none⟩) l.length c) cur) ∧ (S 15 → Row 1 vFlt 22 w0.heap.size wq (.slice (some ⟨b, 0, none⟩) l.length c) ((cur).set t (cur.getD ((t + 1)) 0))))) (hKP 8 S wu8) (fun _ h1 h2 => ⟨grown_trans h1.1 (below_grown h2), fun hn => Row.ext (h1.2.1 (fun hs => hn (.inr hs))) h2, fun hs => Row.ext (h1.2.2 (by rcases hs with e | hs; exact absurd e (by decide); exact hs)) h2⟩) hC hS ?_
                obtain ⟨hCg, hCa, hCb⟩ := hC
                have h5 := hS.post 5 (hd 5 (by decide))
                replace h5 : V 5 = (.slice (some ⟨b, 0, none⟩) l.length c) := h5
                have h7 := hS.post 7 (hd 7 (by decide))
                replace h7 : V 7 = (.int .i64 (((t + 1) : Nat) : Int)) := h7
                have hsz_ := hCg.size
                exact Runs.does (r_ixa (sz := 1) (j := ((t + 1))) (congrArg some h5) (congrArg some h7) Try.underlying30 (by kernel_rfl) rfl (by omega) rfl) ⟨Below.refl _ _, rfl, nofr rfl⟩
              refine ⟨fun S wu9 hC hS hd hi => ?_, ?_⟩
              · skip
                replace hC := show w3.grownBy wu9 (some b) ∧ (¬ S 15 → Row 1 vFlt 22 w0.heap.size wu9 (.slice (some ⟨b, 0, none⟩) l.length c) cur) ∧ (S 15 → Row 1 vFlt 22 w0.heap.size wu9 (.slice (some ⟨b, 0, none⟩) l.length c) ((cur).set t (cur.getD ((t + 1)) 0))) from hC
                refine uv_plain (C := (fun S wq => w3.grownBy wq (some b) ∧ (¬ S 15 → Row 1 vFlt 22 w0.heap.size wq (.slice (some ⟨b, 0, none⟩) l.length c) cur) ∧ (S 15 → Row 1 vFlt 22 w0.heap.size wq (.slice (some ⟨b, 0, none⟩) l.length c) ((cur).set t (cur.getD ((t + 1)) 0))))) (hKP 9 S wu9) (fun _ h1 h2 => ⟨grown_trans h1.1 (below_grown h2), fun hn => Row.ext (h1.2.1 (fun hs => hn (.inr hs))) h2, fun hs => Row.ext (h1.2.2 (by rcases hs with e | hs; exact absurd e (by decide); exact hs)) h2⟩) hC hS ?_
                obtain ⟨hCg, hCa, hCb⟩ := hC
                have h8 := hS.post 8 (hd 8 (by decide))
                replace h8 : V 8 = (.pointer (some ⟨b, (0 + ((t + 1)) * 1), none⟩)) := h8
                have hCr := hCa (fun h => hi (hS.down 15 h 9 (by decide)))
                have hsz_ := hCg.size
                obtain ⟨_, _, hab2, hlr2, hel2⟩ := RdS.at (Row.rd (by intros; rfl) hCr) hy3
                cases hab2
                exact Runs.does (r_load (v := (.float .f64 (cur.getD ((t + 1)) 0))) (congrArg some h8) Try.underlying22 rfl (cellsAt_cell hel2 (i := 0) rfl rfl)) ⟨Below.refl _ _, rfl, nofr rfl⟩
              refine ⟨fun S wu10 hC hS hd hi => ?_, ?_⟩
              · skip
                replace hC := show w3.grownBy wu10 (some b) ∧ (¬ S 15 → Row 1 vFlt 22 w0.heap.size wu10 (.slice (some ⟨b, 0, none⟩) l.length c) cur) ∧ (S 15 → Row 1 vFlt 22 w0.heap.size wu10 (.slice (some ⟨b, 0, none⟩) l.length c) ((cur).set t (cur.getD ((t + 1)) 0))) from hC
                refine uv_plain (C := (fun S wq => w3.grownBy wq (some b) ∧ (¬ S 15 → Row 1 vFlt 22 w0.heap.size wq (.slice (some ⟨b, 0, none⟩) l.length c) cur) ∧ (S 15 → Row 1 vFlt 22 w0.heap.size wq (.slice (some ⟨b, 0, none⟩) l.length c) ((cur).set t (cur.getD ((t + 1)) 0))))) (hKP 10 S wu10) (fun _ h1 h2 => ⟨grown_trans h1.1 (below_grown h2), fun hn => Row.ext (h1.2.1 (fun hs => hn (.inr hs))) h2, fun hs => Row.ext (h1.2.2 (by rcases hs with e | hs; exact absurd e (by decide); exact hs)) h2⟩) hC hS ?_
                obtain ⟨hCg, hCa, hCb⟩ := hC
                have hsz_ := hCg.size
                exact Runs.does (r_move rfl) ⟨Below.refl _ _, rfl, nofr rfl⟩
              refine ⟨fun S wu11 hC hS hd hi => ?_, ?_⟩
              · skip
                replace hC := show w3.grownBy wu11 (some b) ∧ (¬ S 15 → Row 1 vFlt 22 w0.heap.size wu11 (.slice (some ⟨b, 0, none⟩) l.length c) cur) ∧ (S 15 → Row 1 vFlt 22 w0.heap.size wu11 (.slice (some ⟨b, 0, none⟩) l.length c) ((cur).set t (cur.getD ((t + 1)) 0))) from hC
                refine uv_plain (C := (fun S wq => w3.grownBy wq (some b) ∧ (¬ S 15 → Row 1 vFlt 22 w0.heap.size wq (.slice (some ⟨b, 0, none⟩) l.length c) cur) ∧ (S 15 → Row 1 vFlt 22 w0.heap.size wq (.slice (some ⟨b, 0, none⟩) l.length c) ((cur).set t (cur.getD ((t + 1)) 0))))) (hKP 11 S wu11) (fun _ h1 h2 => ⟨grown_trans h1.1 (below_grown h2), fun hn => Row.ext (h1.2.1 (fun hs => hn (.inr hs))) h2, fun hs => Row.ext (h1.2.2 (by rcases hs with e | hs; exact absurd e (by decide); exact hs)) h2⟩) hC hS ?_
                obtain ⟨hCg, hCa, hCb⟩ := hC
                have hsz_ := hCg.size
                exact Runs.does (r_move rfl) ⟨Below.refl _ _, rfl, nofr rfl⟩
              refine ⟨fun S wu12 hC hS hd hi => ?_, ?_⟩
              · skip
                replace hC := show w3.grownBy wu12 (some b) ∧ (¬ S 15 → Row 1 vFlt 22 w0.heap.size wu12 (.slice (some ⟨b, 0, none⟩) l.length c) cur) ∧ (S 15 → Row 1 vFlt 22 w0.heap.size wu12 (.slice (some ⟨b, 0, none⟩) l.length c) ((cur).set t (cur.getD ((t + 1)) 0))) from hC
                refine uv_plain (C := (fun S wq => w3.grownBy wq (some b) ∧ (¬ S 15 → Row 1 vFlt 22 w0.heap.size wq (.slice (some ⟨b, 0, none⟩) l.length c) cur) ∧ (S 15 → Row 1 vFlt 22 w0.heap.size wq (.slice (some ⟨b, 0, none⟩) l.length c) ((cur).set t (cur.getD ((t + 1)) 0))))) (hKP 12 S wu12) (fun _ h1 h2 => ⟨grown_trans h1.1 (below_grown h2), fun hn => Row.ext (h1.2.1 (fun hs => hn (.inr hs))) h2, fun hs => Row.ext (h1.2.2 (by rcases hs with e | hs; exact absurd e (by decide); exact hs)) h2⟩) hC hS ?_
                obtain ⟨hCg, hCa, hCb⟩ := hC
                have h10 := hS.post 10 (hd 10 (by decide))
                replace h10 : V 10 = (.slice (some ⟨b, 0, none⟩) l.length c) := h10
                have h11 := hS.post 11 (hd 11 (by decide))
                replace h11 : V 11 = (.int .i64 ((t : Nat) : Int)) := h11
                have hsz_ := hCg.size
                exact Runs.does (r_ixa (sz := 1) (j := t) (congrArg some h10) (congrArg some h11) Try.underlying30 (by kernel_rfl) rfl (by omega) rfl) ⟨Below.refl _ _, rfl, nofr rfl⟩
              refine ⟨fun S wu13 hC hS hd hi => ?_, ?_⟩
              · skip
                replace hC := show w3.grownBy wu13 (some b) ∧ (¬ S 15 → Row 1 vFlt 22 w0.heap.size wu13 (.slice (some ⟨b, 0, none⟩) l.length c) cur) ∧ (S 15 → Row 1 vFlt 22 w0.heap.size wu13 (.slice (some ⟨b, 0, none⟩) l.length c) ((cur).set t (cur.getD ((t + 1)) 0))) from hC
                refine uv_plain (C := (fun S wq => w3.grownBy wq (some b) ∧ (¬ S 15 → Row 1 vFlt 22 w0.heap.size wq (.slice (some ⟨b, 0, none⟩) l.length c) cur) ∧ (S 15 → Row 1 vFlt 22 w0.heap.size wq (.slice (some ⟨b, 0, none⟩) l.length c) ((cur).set t (cur.getD ((t + 1)) 0))))) (hKP 13 S wu13) (fun _ h1 h2 => ⟨grown_trans h1.1 (below_grown h2), fun hn => Row.ext (h1.2.1 (fun hs => hn (.inr hs))) h2, fun hs => Row.ext (h1.2.2 (by rcases hs with e | hs; exact absurd e (by decide); exact hs)) h2⟩) hC hS ?_
                obtain ⟨hCg, hCa, hCb⟩ := hC
                have h12 := hS.post 12 (hd 12 (by decide))
                replace h12 : V 12 = (.pointer (some ⟨b, (0 + t * 1), none⟩)) := h12
                have hCr := hCa (fun h => hi (hS.down 15 h 13 (by decide)))
                have hsz_ := hCg.size
                obtain ⟨_, _, hab2, hlr2, hel2⟩ := RdS.at (Row.rd (by intros; rfl) hCr) hy4
                cases hab2
                exact Runs.does (r_load (v := (.float .f64 (cur.getD t 0))) (congrArg some h12) Try.underlying22 rfl (cellsAt_cell hel2 (i := 0) rfl rfl)) ⟨Below.refl _ _, rfl, nofr rfl⟩
              refine ⟨fun S wu14 hC hS hd hi => ?_, ?_⟩
              · skip
                replace hC := show w3.grownBy wu14 (some b) ∧ (¬ S 15 → Row 1 vFlt 22 w0.heap.size wu14 (.slice (some ⟨b, 0, none⟩) l.length c) cur) ∧ (S 15 → Row 1 vFlt 22 w0.heap.size wu14 (.slice (some ⟨b, 0, none⟩) l.length c) ((cur).set t (cur.getD ((t + 1)) 0))) from hC
                refine uv_plain (C := (fun S wq => w3.grownBy wq (some b) ∧ (¬ S 15 → Row 1 vFlt 22 w0.heap.size wq (.slice (some ⟨b, 0, none⟩) l.length c) cur) ∧ (S 15 → Row 1 vFlt 22 w0.heap.size wq (.slice (some ⟨b, 0, none⟩) l.length c) ((cur).set t (cur.getD ((t + 1)) 0))))) (hKP 14 S wu14) (fun _ h1 h2 => ⟨grown_trans h1.1 (below_grown h2), fun hn => Row.ext (h1.2.1 (fun hs => hn (.inr hs))) h2, fun hs => Row.ext (h1.2.2 (by rcases hs with e | hs; exact absurd e (by decide); exact hs)) h2⟩) hC hS ?_
                obtain ⟨hCg, hCa, hCb⟩ := hC
                have h0 := hS.post 0 (hd 0 (by decide))
                replace h0 : V 0 = (.slice (some ⟨b, 0, none⟩) l.length c) := h0
                have h1 := hS.post 1 (hd 1 (by decide))
                replace h1 : V 1 = (.int .i64 ((t : Nat) : Int)) := h1
                have h5 := hS.post 5 (hd 5 (by decide))
                replace h5 : V 5 = (.slice (some ⟨b, 0, none⟩) l.length c) := h5
                have h6 := hS.post 6 (hd 6 (by decide))
                replace h6 : V 6 = (.int .i64 ((t : Nat) : Int)) := h6
                have h7 := hS.post 7 (hd 7 (by decide))
                replace h7 : V 7 = (.int .i64 (((t + 1) : Nat) : Int)) := h7
                have h8 := hS.post 8 (hd 8 (by decide))
                replace h8 : V 8 = (.pointer (some ⟨b, (0 + ((t + 1)) * 1), none⟩)) := h8
                have h9 := hS.post 9 (hd 9 (by decide))
                replace h9 : V 9 = (.float .f64 (cur.getD ((t + 1)) 0)) := h9
                have h13 := hS.post 13 (hd 13 (by decide))
                replace h13 : V 13 = (.float .f64 (cur.getD t 0)) := h13
                have hsz_ := hCg.size
                exact Runs.does (r_ixa (sz := 1) (j := t) (congrArg some h0) (congrArg some h1) Try.underlying30 (by kernel_rfl) rfl (by omega) rfl) ⟨Below.refl _ _, rfl, nofr rfl⟩
              refine ⟨fun S wu15 hC hS hd hi => ?_, ?_⟩
              · skip
                replace hC := show w3.grownBy wu15 (some b) ∧ (¬ S 15 → Row 1 vFlt 22 w0.heap.size wu15 (.slice (some ⟨b, 0, none⟩) l.length c) cur) ∧ (S 15 → Row 1 vFlt 22 w0.heap.size wu15 (.slice (some ⟨b, 0, none⟩) l.length c) ((cur).set t (cur.getD ((t + 1)) 0))) from hC
                obtain ⟨hCg, hCa, hCb⟩ := hC
                have h0 := hS.post 0 (hd 0 (by decide))
                replace h0 : V 0 = (.slice (some ⟨b, 0, none⟩) l.length c) := h0
                have h1 := hS.post 1 (hd 1 (by decide))
                replace h1 : V 1 = (.int .i64 ((t : Nat) : Int)) := h1
                have h5 := hS.post 5 (hd 5 (by decide))
                replace h5 : V 5 = (.slice (some ⟨b, 0, none⟩) l.length c) := h5
                have h6 := hS.post 6 (hd 6 (by decide))
                replace h6 : V 6 = (.int .i64 ((t : Nat) : Int)) := h6
                have h7 := hS.post 7 (hd 7 (by decide))
                replace h7 : V 7 = (.int .i64 (((t + 1) : Nat) : Int)) := h7
                have h8 := hS.post 8 (hd 8 (by decide))
                replace h8 : V 8 = (.pointer (some ⟨b, (0 + ((t + 1)) * 1), none⟩)) := h8
                have h9 := hS.post 9 (hd 9 (by decide))
                replace h9 : V 9 = (.float .f64 (cur.getD ((t + 1)) 0)) := h9
                have h13 := hS.post 13 (hd 13 (by decide))
                replace h13 : V 13 = (.float .f64 (cur.getD t 0)) := h13
                have h14 := hS.post 14 (hd 14 (by decide))
                replace h14 : V 14 = (.pointer (some ⟨b, (0 + t * 1), none⟩)) := h14
                refine Does.mono (d_rowset (u := (cur.getD ((t + 1)) 0)) (j := t) (by intros; rfl) (by exact oneFlt) (congrArg some h14) (congrArg some h9) (by first | rfl | (simp; done) | (simp; omega)) (by kernel_rfl) (hCa hi) (by first | omega | (simp only [Sl.list_length, List.length_set, List.length_take, List.length_append, List.length_replicate, List.length_cons, List.length_nil, List.length_map, nums_len]; omega)) (by omega)) ?_
                rintro _ wz ⟨hY, hgY⟩
                refine ⟨⟨⟨grown_trans hCg hgY, fun hn => absurd (.inl rfl) hn, fun _ => hY⟩, fun jX hj => ?_, hgY.size⟩, trivial, nofr rfl⟩
                match jX with
                | 0 => exact hS.post 0 hj
                | 1 => exact hS.post 1 hj
                | 2 => exact hS.post 2 hj
                | 3 => exact hS.post 3 hj
                | 4 => exact hS.post 4 hj
                | 5 => exact hS.post 5 hj
                | 6 => exact hS.post 6 hj
                | 7 => exact hS.post 7 hj
                | 8 => exact hS.post 8 hj
                | 9 => exact hS.post 9 hj
                | 10 => exact hS.post 10 hj
                | 11 => exact hS.post 11 hj
                | 12 => exact hS.post 12 hj
                | 13 => exact hS.post 13 hj
                | 14 => exact hS.post 14 hj
                | 15 => trivial
                | _ + 16 => trivial
              trivial
            · skip
              clear hf fa; intro V S w4 fa hall he2 hp hnb hf
              have hg1 := he2.1
              have hv0 : V 0 = (.slice (some ⟨b, 0, none⟩) l.length c) := postsHold_at hp 0 rfl
              have hv1 : V 1 = (.int .i64 ((t : Nat) : Int)) := postsHold_at hp 1 rfl
              have hv2 : V 2 = (.slice (some ⟨b, 0, none⟩) l.length c) := postsHold_at hp 2 rfl
              have hv3 : V 3 = (.int .i64 ((t : Nat) : Int)) := postsHold_at hp 3 rfl
              have hv4 : V 4 = (.int .i64 (((t + 1) : Nat) : Int)) := postsHold_at hp 4 rfl
              have hv5 : V 5 = (.slice (some ⟨b, 0, none⟩) l.length c) := postsHold_at hp 5 rfl
              have hv6 : V 6 = (.int .i64 ((t : Nat) : Int)) := postsHold_at hp 6 rfl
              have hv7 : V 7 = (.int .i64 (((t + 1) : Nat) : Int)) := postsHold_at hp 7 rfl
              have hv8 : V 8 = (.pointer (some ⟨b, (0 + ((t + 1)) * 1), none⟩)) := postsHold_at hp 8 rfl
              have hv9 : V 9 = (.float .f64 (cur.getD ((t + 1)) 0)) := postsHold_at hp 9 rfl
              have hv10 : V 10 = (.slice (some ⟨b, 0, none⟩) l.length c) := postsHold_at hp 10 rfl
              have hv11 : V 11 = (.int .i64 ((t : Nat) : Int)) := postsHold_at hp 11 rfl
              have hv12 : V 12 = (.pointer (some ⟨b, (0 + t * 1), none⟩)) := postsHold_at hp 12 rfl
              have hv13 : V 13 = (.float .f64 (cur.getD t 0)) := postsHold_at hp 13 rfl
              have hv14 : V 14 = (.pointer (some ⟨b, (0 + t * 1), none⟩)) := postsHold_at hp 14 rfl
              have hr1 := he2.2.2 (hall 15 (show 15 < 16 by decide))
              simp only [List.take_succ_cons, List.take_zero, insAll, ins, hv0, hv1, hv2, hv3, hv4, hv5, hv6, hv7, hv8, hv9, hv10, hv11, hv12, hv13, hv14] at hf
              clear hp hnb hv0 hv1 hv2 hv3 hv4 hv5 hv6 hv7 hv8 hv9 hv10 hv11 hv12 hv13 hv14
              replace hb := hb.trans (grown_below hg1 hb.size (by first | omega | (have := Row.lt hr _ rfl; omega) | exact (Row.lt hr _ rfl).1))
              replace hr1 : Row 1 vFlt 22 w0.heap.size w4 (.slice (some ⟨b, 0, none⟩) l.length c) ((cur).set t (cur.getD ((t + 1)) 0)) := hr1
              simp only [List.drop_succ_cons, List.drop_zero]
              have hy6 := getD_at (l := ((cur).set t (cur.getD ((t + 1)) 0))) (j := ((t + 1))) 0 (by first | omega | (simp only [Sl.list_length, List.length_set, List.length_take, List.length_append, List.length_replicate, List.length_cons, List.length_nil, List.length_map, nums_len]; omega))
              have hel6 := RdS.at (Row.rd (by intros; rfl) hr1) hy6
              obtain ⟨_, _, hab, hlr6, hel6⟩ := hel6
              cases hab
              refine sqv hf (r_ixa (sz := 1) (j := ((t + 1))) rfl rfl Try.underlying30 (by kernel_rfl) rfl (by omega) rfl) rfl rfl rfl ?_; clear hf fa; intro fa hf
              refine sqn hf (d_rowset (u := (cur.getD t 0)) (j := ((t + 1))) (by intros; rfl) (by exact oneFlt) rfl rfl (by first | rfl | (simp; done) | (simp; omega)) (by kernel_rfl) hr1 (by first | omega | (simp only [Sl.list_length, List.length_set, List.length_take, List.length_append, List.length_replicate, List.length_cons, List.length_nil, List.length_map, nums_len]; omega)) (by omega)) rfl rfl ?_; clear hf fa; rintro fa _ w5 ⟨hr2, hg2⟩ hf
              replace hb := hb.trans (grown_below hg2 hb.size (by first | omega | (have := Row.lt hr1 _ rfl; omega) | exact (Row.lt hr1 _ rfl).1))
              apply wpList_nil
              (try simp only [Exit.then, Exit.inBlock, ↓reduceIte, Nat.reduceEqDiff])
              refine hK14 _ _ ?_
              refine wp_region_lit ?_
              refine sqv hf (r_move rfl) rfl rfl rfl ?_; clear hf fa; intro fa hf
              refine sqv hf (r_add (C := (((t + 1) : Nat) : Int)) rfl rfl (by rw [IntKind.wrap_i64]; omega)) rfl rfl rfl ?_; clear hf fa; intro fa hf
              refine sqv hf (r_assign rfl) rfl rfl rfl ?_; clear hf fa; intro fa hf
              apply wpList_nil
              (try simp only [Exit.then, Exit.inBlock, ↓reduceIte, Nat.reduceEqDiff])
              refine hKL2 _ _ _ (by omega) ⟨(t + 1), ((((cur).set t (cur.getD ((t + 1)) 0))).set ((t + 1)) (cur.getD t 0)), rfl, hf.sub ⟨rfl, rfl, rfl, rfl, rfl, rfl, rfl, trivial⟩, hb, hr2, (by omega), (by omega), ((hv.trans (via_swap (by omega) (by omega) (by omega))).congr (fun k => shl_step (by omega) k))⟩
          · have hqt58_1b := hqt58_1
            replace hqt58_1 := Bool.eq_false_iff.1 hqt58_1
            try simp only [ne_eq, decide_eq_true_eq, Bool.and_eq_true, Bool.or_eq_true, Bool.not_eq_true', decide_eq_false_iff_not] at hqt58_1
            refine wp_exit ?_
            (try simp only [Exit.then, Exit.inBlock, ↓reduceIte, Nat.reduceEqDiff])
            refine hK10 _ _ ?_
            refine wp_ret ?_
            (try simp only [Exit.then, Exit.inBlock])
            refine ret0 hf rfl  ?_
            exact ⟨rfl, _, hr, (by obtain rfl : m = p + 1 := (by omega); have e9 : t = i - 1 := (by omega); rw [e9] at hv; exact merge_left hi1 (by omega) hsr hlo (fun x h1 h2 => hhi x (by omega) h2) hv), hb⟩
  · have hqt28_1b := hqt28_1
    replace hqt28_1 := Bool.eq_false_iff.1 hqt28_1
    try simp only [ne_eq, decide_eq_true_eq, Bool.and_eq_true, Bool.or_eq_true, Bool.not_eq_true', decide_eq_false_iff_not] at hqt28_1
    refine wp_skip ?_
    (try simp only [Exit.then, Exit.inBlock, ↓reduceIte, Nat.reduceEqDiff])
    refine hK1 _ _ ?_
    refine wp_seq_k (fun K15 hK15 => ?_)
    refine wp_seq_k (fun K16 hK16 => ?_)
    refine wp_region_lit ?_
    refine sqv hf (r_move rfl) rfl rfl rfl ?_; clear hf fa; intro fa hf
    refine sqv hf (r_move rfl) rfl rfl rfl ?_; clear hf fa; intro fa hf
    refine sqv hf (r_sub (C := (((q - m) : Nat) : Int)) rfl rfl (by rw [IntKind.wrap_i64]; omega)) rfl rfl rfl ?_; clear hf fa; intro fa hf
    refine sqv hf (r_eq rfl rfl) rfl rfl rfl ?_; clear hf fa; intro fa hf
    apply wpList_nil
    (try simp only [Exit.then, Exit.inBlock, ↓reduceIte, Nat.reduceEqDiff])
    refine hK16 _ _ ?_
    refine wp_cond_split (t := (decide ((((q - m) : Nat) : Int) = (1 : Int)))) (hf.ev rfl) (fun hqt80_1 => ?_) (fun hqt80_1 => ?_)
    · have hqt80_1b := hqt80_1
      try simp only [decide_eq_true_eq, Bool.and_eq_true, Bool.or_eq_true, Bool.not_eq_true', decide_eq_false_iff_not, ne_eq, Bool.not_eq_true] at hqt80_1
      refine wp_seq_k (fun K17 hK17 => ?_)
      refine wp_region_lit ?_
      refine sqv hf (r_move rfl) rfl rfl rfl ?_; clear hf fa; intro fa hf
      refine sqv hf (r_assign rfl) rfl rfl rfl ?_; clear hf fa; intro fa hf
      apply wpList_nil
      (try simp only [Exit.then, Exit.inBlock, ↓reduceIte, Nat.reduceEqDiff])
      refine hK17 _ _ ?_
      refine wp_seq_k (fun K18 hK18 => ?_)
      refine wp_region_lit ?_
      refine sqv hf (r_move rfl) rfl rfl rfl ?_; clear hf fa; intro fa hf
      refine sqv hf (r_assign rfl) rfl rfl rfl ?_; clear hf fa; intro fa hf
      apply wpList_nil
      (try simp only [Exit.then, Exit.inBlock, ↓reduceIte, Nat.reduceEqDiff])
      refine hK18 _ _ ?_
      refine wp_seq_k (fun K19 hK19 => ?_)
      refine wp_block ?_
      refine wp_loop_k (fun mq fa wr => ∃ (i : Nat) (j : Nat), mq = j - i ∧ Fr 220 fa [(0, (.slice (some ⟨b, 0, none⟩) l.length c)), (1, (.int .i64 ((p : Nat) : Int))), (2, (.int .i64 ((m : Nat) : Int))), (3, (.int .i64 ((q : Nat) : Int))), (4, (.func (.func 9) #[] #[])), (14, (.int .i64 ((i : Nat) : Int))), (15, (.int .i64 ((j : Nat) : Int)))] ∧ Below w0.heap.size w0 wr ∧ Row 1 vFlt 22 (w0.heap.size) wr (.slice (some ⟨b, 0, none⟩) (l.length) c) l ∧ (p ≤ i) ∧ (i ≤ j) ∧ (j ≤ m) ∧ (∀ x, p ≤ x → x < i → ¬ KK l m < KK l x) ∧ (∀ x, j ≤ x → x < m → KK l m < KK l x)) ?_ ?_
      · skip
        exact ⟨_, p, m, rfl, hf.sub ⟨rfl, rfl, rfl, rfl, rfl, rfl, rfl, trivial⟩, hb, hR, (by omega), (by omega), (by omega), (fun x h1 h2 => by omega), (fun x h1 h2 => by omega)⟩
      · skip
        clear hf fa; intro mq3 fa w6 hI KL3 hKL3
        clear hb
        clear hR
        obtain ⟨i, j, hmq3, hf, hb, hr, hi1, hij, hjq, hlo, hhi⟩ := hI
        have hcr := Row.caps hr
        refine wp_seq_k (fun K20 hK20 => ?_)
        refine wp_seq_k (fun K21 hK21 => ?_)
        refine wp_region_lit ?_
        refine sqv hf (r_move rfl) rfl rfl rfl ?_; clear hf fa; intro fa hf
        refine sqv hf (r_move rfl) rfl rfl rfl ?_; clear hf fa; intro fa hf
        refine sqv hf (r_lt rfl rfl) rfl rfl rfl ?_; clear hf fa; intro fa hf
        apply wpList_nil
        (try simp only [Exit.then, Exit.inBlock, ↓reduceIte, Nat.reduceEqDiff])
        refine hK21 _ _ ?_
        refine wp_cond_split (t := (decide (((i : Nat) : Int) < ((j : Nat) : Int)))) (hf.ev rfl) (fun hqt85_1 => ?_) (fun hqt85_1 => ?_)
        · have hqt85_1b := hqt85_1
          try simp only [decide_eq_true_eq, Bool.and_eq_true, Bool.or_eq_true, Bool.not_eq_true', decide_eq_false_iff_not, ne_eq, Bool.not_eq_true] at hqt85_1
          refine wp_skip ?_
          (try simp only [Exit.then, Exit.inBlock, ↓reduceIte, Nat.reduceEqDiff])
          refine hK20 _ _ ?_
          refine wp_block ?_
          refine wp_seq_k (fun K22 hK22 => ?_)
          refine wp_region_lit ?_
          refine sqv hf (r_move rfl) rfl rfl rfl ?_; clear hf fa; intro fa hf
          refine sqv hf (r_move rfl) rfl rfl rfl ?_; clear hf fa; intro fa hf
          refine sqv hf (r_add (C := (((i + j) : Nat) : Int)) rfl rfl (by rw [IntKind.wrap_i64]; omega)) rfl rfl rfl ?_; clear hf fa; intro fa hf
          refine sqv hf (r_conv (C := (((i + j) : Nat) : Int)) rfl Try.underlying3 Try.underlying55 (by rw [IntKind.wrap_u64]; omega)) rfl rfl rfl ?_; clear hf fa; intro fa hf
          refine sqv hf (r_shr (n := 1) (C := ((((i + j) / 2) : Nat) : Int)) rfl rfl rfl (half_shr _)) rfl rfl rfl ?_; clear hf fa; intro fa hf
          refine sqv hf (r_conv (C := ((((i + j) / 2) : Nat) : Int)) rfl Try.underlying55 Try.underlying3 (by rw [IntKind.wrap_i64]; omega)) rfl rfl rfl ?_; clear hf fa; intro fa hf
          refine sqv hf (r_assign rfl) rfl rfl rfl ?_; clear hf fa; intro fa hf
          apply wpList_nil
          (try simp only [Exit.then, Exit.inBlock, ↓reduceIte, Nat.reduceEqDiff])
          refine hK22 _ _ ?_
          refine wp_seq_k (fun K23 hK23 => ?_)
          have hy7 := getD_at (l := l) (j := m) 0 (by first | omega | (simp only [Sl.list_length, List.length_set, List.length_take, List.length_append, List.length_replicate, List.length_cons, List.length_nil, List.length_map, nums_len]; omega))
          have hel7 := RdS.at (Row.rd (by intros; rfl) hr) hy7
          obtain ⟨_, _, hab, hlr7, hel7⟩ := hel7
          cases hab
          have hy8 := getD_at (l := l) (j := (((i + j) / 2))) 0 (by first | omega | (simp only [Sl.list_length, List.length_set, List.length_take, List.length_append, List.length_replicate, List.length_cons, List.length_nil, List.length_map, nums_len]; omega))
          have hel8 := RdS.at (Row.rd (by intros; rfl) hr) hy8
          obtain ⟨_, _, hab, hlr8, hel8⟩ := hel8
          cases hab
          refine wp_region_un (fun wq => Below w6.heap.size w6 wq) (fun w w' => Below w.heap.size w w')
            (fun V => [(fun x _ => x = (.func (.func 9) #[] #[])), (fun x _ => x = (.slice (some ⟨b, 0, none⟩) l.length c)), (fun x _ => x = (.int .i64 ((m : Nat) : Int))), (fun x _ => x = (.pointer (some ⟨b, (0 + m * 1), none⟩))), (fun x _ => x = (.float .f64 (l.getD m 0))), (fun x _ => x = (.slice (some ⟨b, 0, none⟩) l.length c)), (fun x _ => x = (.int .i64 ((((i + j) / 2) : Nat) : Int))), (fun x _ => x = (.pointer (some ⟨b, (0 + (((i + j) / 2)) * 1), none⟩))), (fun x _ => x = (.float .f64 (l.getD (((i + j) / 2)) 0))), (fun x _ => x = (.int .i64 (ordN (l.getD m 0) (l.getD (((i + j) / 2)) 0)))), (fun x _ => x = (.bool (decide ((ordN (l.getD m 0) (l.getD (((i + j) / 2)) 0)) < (0 : Int))))), (fun x _ => x = (.bool (!(decide ((ordN (l.getD m 0) (l.getD (((i + j) / 2)) 0)) < (0 : Int))))))])
            []
            [[], [], [], [1, 2], [3], [], [], [5, 6], [7], [0, 4, 8], [9], [10]]
            hf (by kernel_rfl) (by kernel_rfl) (fun _ => rfl) ((Below.refl _ _).drew) (fun a b h1 h2 => h1.trans (h2.mono h1.size)) (fun _ _ h => h.size) (fun V => ⟨kept_eq, kept_eq, kept_eq, kept_eq, kept_eq, kept_eq, kept_eq, kept_eq, kept_eq, kept_eq, kept_eq, kept_eq, trivial⟩) (fun _ _ _ _ _ => rfl) ?_ ?_
          · skip
            intro V
            refine ⟨fun wu0 hC hd => ?_, ?_⟩
            · clear hd
              replace hb := hb.trans (hC.mono hb.size)
              replace hr := Row.ext hr hC
              exact Runs.does (r_move rfl) ⟨Below.refl _ _, rfl, nofr rfl⟩
            refine ⟨fun wu1 hC hd => ?_, ?_⟩
            · clear hd
              replace hb := hb.trans (hC.mono hb.size)
              replace hr := Row.ext hr hC
              exact Runs.does (r_move rfl) ⟨Below.refl _ _, rfl, nofr rfl⟩
            refine ⟨fun wu2 hC hd => ?_, ?_⟩
            · clear hd
              replace hb := hb.trans (hC.mono hb.size)
              replace hr := Row.ext hr hC
              exact Runs.does (r_move rfl) ⟨Below.refl _ _, rfl, nofr rfl⟩
            refine ⟨fun wu3 hC hd => ?_, ?_⟩
            · obtain ⟨h1, h2, _⟩ := hd
              skip
              skip
              replace h1 : V 1 = (.slice (some ⟨b, 0, none⟩) l.length c) := h1
              replace h2 : V 2 = (.int .i64 ((m : Nat) : Int)) := h2
              replace hb := hb.trans (hC.mono hb.size)
              replace hr := Row.ext hr hC
              exact Runs.does (r_ixa (sz := 1) (j := m) (congrArg some h1) (congrArg some h2) Try.underlying30 (by kernel_rfl) rfl (by omega) rfl) ⟨Below.refl _ _, rfl, nofr rfl⟩
            refine ⟨fun wu4 hC hd => ?_, ?_⟩
            · obtain ⟨h3, _⟩ := hd
              skip
              replace h3 : V 3 = (.pointer (some ⟨b, (0 + m * 1), none⟩)) := h3
              replace hb := hb.trans (hC.mono hb.size)
              replace hr := Row.ext hr hC
              exact Runs.does (r_load (v := (.float .f64 (l.getD m 0))) (congrArg some h3) Try.underlying22 rfl (cellsAt_cell (cellsAt_below hel7 hC hlr7) (i := 0) rfl rfl)) ⟨Below.refl _ _, rfl, nofr rfl⟩
            refine ⟨fun wu5 hC hd => ?_, ?_⟩
            · clear hd
              replace hb := hb.trans (hC.mono hb.size)
              replace hr := Row.ext hr hC
              exact Runs.does (r_move rfl) ⟨Below.refl _ _, rfl, nofr rfl⟩
            refine ⟨fun wu6 hC hd => ?_, ?_⟩
            · clear hd
              replace hb := hb.trans (hC.mono hb.size)
              replace hr := Row.ext hr hC
              exact Runs.does (r_move rfl) ⟨Below.refl _ _, rfl, nofr rfl⟩
            refine ⟨fun wu7 hC hd => ?_, ?_⟩
            · obtain ⟨h5, h6, _⟩ := hd
              skip
              skip
              replace h5 : V 5 = (.slice (some ⟨b, 0, none⟩) l.length c) := h5
              replace h6 : V 6 = (.int .i64 ((((i + j) / 2) : Nat) : Int)) := h6
              replace hb := hb.trans (hC.mono hb.size)
              replace hr := Row.ext hr hC
              exact Runs.does (r_ixa (sz := 1) (j := (((i + j) / 2))) (congrArg some h5) (congrArg some h6) Try.underlying30 (by kernel_rfl) rfl (by omega) rfl) ⟨Below.refl _ _, rfl, nofr rfl⟩
            refine ⟨fun wu8 hC hd => ?_, ?_⟩
            · obtain ⟨h7, _⟩ := hd
              skip
              replace h7 : V 7 = (.pointer (some ⟨b, (0 + (((i + j) / 2)) * 1), none⟩)) := h7
              replace hb := hb.trans (hC.mono hb.size)
              replace hr := Row.ext hr hC
              exact Runs.does (r_load (v := (.float .f64 (l.getD (((i + j) / 2)) 0))) (congrArg some h7) Try.underlying22 rfl (cellsAt_cell (cellsAt_below hel8 hC hlr8) (i := 0) rfl rfl)) ⟨Below.refl _ _, rfl, nofr rfl⟩
            refine ⟨fun wu9 hC hd => ?_, ?_⟩
            · obtain ⟨h0, h4, h8, _⟩ := hd
              skip
              skip
              skip
              replace h0 : V 0 = (.func (.func 9) #[] #[]) := h0
              replace h4 : V 4 = (.float .f64 (l.getD m 0)) := h4
              replace h8 : V 8 = (.float .f64 (l.getD (((i + j) / 2)) 0)) := h8
              replace hb := hb.trans (hC.mono hb.size)
              replace hr := Row.ext hr hC
              refine Does.mono (d_callFB (vs := [(.float .f64 (l.getD m 0)), (.float .f64 (l.getD (((i + j) / 2)) 0))]) (congrArg some h0) (show [some (V 4), some (V 8)] = [some (.float .f64 (l.getD m 0)), some (.float .f64 (l.getD (((i + j) / 2)) 0))] from by rw [h4, h8]) (enters Try.func9 (by kernel_rfl) (by kernel_rfl)) (order_any (l.getD m 0) (l.getD (((i + j) / 2)) 0) (allW_getD hW _) (allW_getD hW _) _)) (fun _ _ h => ⟨h.2, h.1, nofr rfl⟩)
            refine ⟨fun wu10 hC hd => ?_, ?_⟩
            · obtain ⟨h9, _⟩ := hd
              skip
              replace h9 : V 9 = (.int .i64 (ordN (l.getD m 0) (l.getD (((i + j) / 2)) 0))) := h9
              replace hb := hb.trans (hC.mono hb.size)
              replace hr := Row.ext hr hC
              exact Runs.does (r_lt (congrArg some h9) rfl) ⟨Below.refl _ _, rfl, nofr rfl⟩
            refine ⟨fun wu11 hC hd => ?_, ?_⟩
            · obtain ⟨h10, _⟩ := hd
              skip
              replace h10 : V 10 = (.bool (decide ((ordN (l.getD m 0) (l.getD (((i + j) / 2)) 0)) < (0 : Int)))) := h10
              replace hb := hb.trans (hC.mono hb.size)
              replace hr := Row.ext hr hC
              exact Runs.does (r_not (congrArg some h10)) ⟨Below.refl _ _, rfl, nofr rfl⟩
            trivial
          · skip
            clear hf fa; intro V w7 fa he3 hp hnb hf
            have hv0 : V 0 = (.func (.func 9) #[] #[]) := postsHold_at hp 0 rfl
            have hv1 : V 1 = (.slice (some ⟨b, 0, none⟩) l.length c) := postsHold_at hp 1 rfl
            have hv2 : V 2 = (.int .i64 ((m : Nat) : Int)) := postsHold_at hp 2 rfl
            have hv3 : V 3 = (.pointer (some ⟨b, (0 + m * 1), none⟩)) := postsHold_at hp 3 rfl
            have hv4 : V 4 = (.float .f64 (l.getD m 0)) := postsHold_at hp 4 rfl
            have hv5 : V 5 = (.slice (some ⟨b, 0, none⟩) l.length c) := postsHold_at hp 5 rfl
            have hv6 : V 6 = (.int .i64 ((((i + j) / 2) : Nat) : Int)) := postsHold_at hp 6 rfl
            have hv7 : V 7 = (.pointer (some ⟨b, (0 + (((i + j) / 2)) * 1), none⟩)) := postsHold_at hp 7 rfl
            have hv8 : V 8 = (.float .f64 (l.getD (((i + j) / 2)) 0)) := postsHold_at hp 8 rfl
            have hv9 : V 9 = (.int .i64 (ordN (l.getD m 0) (l.getD (((i + j) / 2)) 0))) := postsHold_at hp 9 rfl
            have hv10 : V 10 = (.bool (decide ((ordN (l.getD m 0) (l.getD (((i + j) / 2)) 0)) < (0 : Int)))) := postsHold_at hp 10 rfl
            have hv11 : V 11 = (.bool (!(decide ((ordN (l.getD m 0) (l.getD (((i + j) / 2)) 0)) < (0 : Int))))) := postsHold_at hp 11 rfl
            simp only [List.take_succ_cons, List.take_zero, insAll, ins, hv0, hv1, hv2, hv3, hv4, hv5, hv6, hv7, hv8, hv9, hv10, hv11] at hf
            clear hp hnb hv0 hv1 hv2 hv3 hv4 hv5 hv6 hv7 hv8 hv9 hv10 hv11
            replace hr := Row.ext hr he3
            replace hb := hb.trans (Below.mono he3 hb.size)
            (try simp only [Exit.then, Exit.inBlock, ↓reduceIte, Nat.reduceEqDiff])
            refine hK23 _ _ ?_
            refine wp_cond_split (t := (!(decide ((ordN (l.getD m 0) (l.getD (((i + j) / 2)) 0)) < (0 : Int))))) (hf.ev rfl) (fun hqt103_1 => ?_) (fun hqt103_1 => ?_)
            · have hqt103_1b := hqt103_1
              try simp only [decide_eq_true_eq, Bool.and_eq_true, Bool.or_eq_true, Bool.not_eq_true', decide_eq_false_iff_not, ne_eq, Bool.not_eq_true] at hqt103_1
              refine wp_region_lit ?_
              refine sqv hf (r_move rfl) rfl rfl rfl ?_; clear hf fa; intro fa hf
              refine sqv hf (r_add (C := (((((i + j) / 2) + 1) : Nat) : Int)) rfl rfl (by rw [IntKind.wrap_i64]; omega)) rfl rfl rfl ?_; clear hf fa; intro fa hf
              refine sqv hf (r_assign rfl) rfl rfl rfl ?_; clear hf fa; intro fa hf
              apply wpList_nil
              (try simp only [Exit.then, Exit.inBlock, ↓reduceIte, Nat.reduceEqDiff])
              refine hKL3 _ _ _ (by omega) ⟨(((i + j) / 2) + 1), j, rfl, hf.sub ⟨rfl, rfl, rfl, rfl, rfl, rfl, rfl, trivial⟩, hb, hr, (by omega), (by omega), (by omega), (fun x h1 h2 => by have hx := hqt103_1; rw [ord_kk] at hx; have := hsl x ((i + j) / 2) h1 (by omega) (by omega); omega), hhi⟩
            · have hqt103_1b := hqt103_1
              replace hqt103_1 := Bool.eq_false_iff.1 hqt103_1
              try simp only [ne_eq, decide_eq_true_eq, Bool.and_eq_true, Bool.or_eq_true, Bool.not_eq_true', decide_eq_false_iff_not] at hqt103_1
              refine wp_region_lit ?_
              refine sqv hf (r_move rfl) rfl rfl rfl ?_; clear hf fa; intro fa hf
              refine sqv hf (r_assign rfl) rfl rfl rfl ?_; clear hf fa; intro fa hf
              apply wpList_nil
              (try simp only [Exit.then, Exit.inBlock, ↓reduceIte, Nat.reduceEqDiff])
              refine hKL3 _ _ _ (by omega) ⟨i, ((i + j) / 2), rfl, hf.sub ⟨rfl, rfl, rfl, rfl, rfl, rfl, rfl, trivial⟩, hb, hr, (by omega), (by omega), (by omega), hlo, (fun x h1 h2 => by have hx := hqt103_1; simp only [Decidable.not_not] at hx; rw [ord_kk] at hx; have := hsl ((i + j) / 2) x (by omega) (by omega) h2; omega)⟩
        · have hqt85_1b := hqt85_1
          replace hqt85_1 := Bool.eq_false_iff.1 hqt85_1
          try simp only [ne_eq, decide_eq_true_eq, Bool.and_eq_true, Bool.or_eq_true, Bool.not_eq_true', decide_eq_false_iff_not] at hqt85_1
          refine wp_exit ?_
          (try simp only [Exit.then, Exit.inBlock, ↓reduceIte, Nat.reduceEqDiff])
          refine hK19 _ _ ?_
          refine wp_seq_k (fun K24 hK24 => ?_)
          refine wp_seq_k (fun K25 hK25 => ?_)
          refine wp_region_lit ?_
          refine sqv hf (r_move rfl) rfl rfl rfl ?_; clear hf fa; intro fa hf
          refine sqv hf (r_assign rfl) rfl rfl rfl ?_; clear hf fa; intro fa hf
          apply wpList_nil
          (try simp only [Exit.then, Exit.inBlock, ↓reduceIte, Nat.reduceEqDiff])
          refine hK25 _ _ ?_
          refine wp_block ?_
          refine wp_loop_k (fun mq fa wr => ∃ (t : Nat) (cur : List Nat), mq = t - i ∧ Fr 220 fa [(0, (.slice (some ⟨b, 0, none⟩) l.length c)), (1, (.int .i64 ((p : Nat) : Int))), (2, (.int .i64 ((m : Nat) : Int))), (3, (.int .i64 ((q : Nat) : Int))), (4, (.func (.func 9) #[] #[])), (14, (.int .i64 ((i : Nat) : Int))), (17, (.int .i64 ((t : Nat) : Int)))] ∧ Below w0.heap.size w0 wr ∧ Row 1 vFlt 22 (w0.heap.size) wr (.slice (some ⟨b, 0, none⟩) (l.length) c) cur ∧ (i ≤ t) ∧ (t ≤ m) ∧ (Via (shrT m t) l cur)) ?_ ?_
          · skip
            exact ⟨_, m, l, rfl, hf.sub ⟨rfl, rfl, rfl, rfl, rfl, rfl, rfl, trivial⟩, hb, hr, (by omega), (by omega), ((Via.refl l).congr (shr_zero m))⟩
          · skip
            clear hf fa; intro mq4 fa w8 hI KL4 hKL4
            clear hb
            clear hr
            obtain ⟨t, cur, hmq4, hf, hb, hr, ht1, ht2, hv⟩ := hI
            have hcr := Row.caps hr
            have hcl := hv.len
            refine wp_seq_k (fun K26 hK26 => ?_)
            refine wp_seq_k (fun K27 hK27 => ?_)
            refine wp_region_lit ?_
            refine sqv hf (r_move rfl) rfl rfl rfl ?_; clear hf fa; intro fa hf
            refine sqv hf (r_move rfl) rfl rfl rfl ?_; clear hf fa; intro fa hf
            refine sqv hf (r_gt rfl rfl) rfl rfl rfl ?_; clear hf fa; intro fa hf
            apply wpList_nil
            (try simp only [Exit.then, Exit.inBlock, ↓reduceIte, Nat.reduceEqDiff])
            refine hK27 _ _ ?_
            refine wp_cond_split (t := (decide (((i : Nat) : Int) < ((t : Nat) : Int)))) (hf.ev rfl) (fun hqt110_1 => ?_) (fun hqt110_1 => ?_)
            · have hqt110_1b := hqt110_1
              try simp only [decide_eq_true_eq, Bool.and_eq_true, Bool.or_eq_true, Bool.not_eq_true', decide_eq_false_iff_not, ne_eq, Bool.not_eq_true] at hqt110_1
              refine wp_skip ?_
              (try simp only [Exit.then, Exit.inBlock, ↓reduceIte, Nat.reduceEqDiff])
              refine hK26 _ _ ?_
              refine wp_seq_k (fun K28 hK28 => ?_)
              refine wp_block ?_
              have hy9 := getD_at (l := cur) (j := ((t - 1))) 0 (by first | omega | (simp only [Sl.list_length, List.length_set, List.length_take, List.length_append, List.length_replicate, List.length_cons, List.length_nil, List.length_map, nums_len]; omega))
              have hel9 := RdS.at (Row.rd (by intros; rfl) hr) hy9
              obtain ⟨_, _, hab, hlr9, hel9⟩ := hel9
              cases hab
              have hy10 := getD_at (l := cur) (j := t) 0 (by first | omega | (simp only [Sl.list_length, List.length_set, List.length_take, List.length_append, List.length_replicate, List.length_cons, List.length_nil, List.length_map, nums_len]; omega))
              have hel10 := RdS.at (Row.rd (by intros; rfl) hr) hy10
              obtain ⟨_, _, hab, hlr10, hel10⟩ := hel10
              cases hab
              have hy11 := getD_at (l := cur) (j := t) 0 (by first | omega | (simp only [Sl.list_length, List.length_set, List.length_take, List.length_append, List.length_replicate, List.length_cons, List.length_nil, List.length_map, nums_len]; omega))
              have hel11 := RdS.at (Row.rd (by intros; rfl) hr) hy11
              obtain ⟨_, _, hab, hlr11, hel11⟩ := hel11
              cases hab
              refine wp_region_vnT 16 (fun S wq => w8.grownBy wq (some b) ∧ (¬ S 15 → Row 1 vFlt 22 w0.heap.size wq (.slice (some ⟨b, 0, none⟩) l.length c) cur) ∧ (S 15 → Row 1 vFlt 22 w0.heap.size wq (.slice (some ⟨b, 0, none⟩) l.length c) ((cur).set t (cur.getD ((t - 1)) 0))))
                (fun V S => [(fun x _ => x = (.slice (some ⟨b, 0, none⟩) l.length c)), (fun x _ => x = (.int .i64 ((t : Nat) : Int))), (fun x _ => x = (.slice (some ⟨b, 0, none⟩) l.length c)), (fun x _ => x = (.int .i64 ((t : Nat) : Int))), (fun x _ => x = (.int .i64 (((t - 1) : Nat) : Int))), (fun x _ => x = (.slice (some ⟨b, 0, none⟩) l.length c)), (fun x _ => x = (.int .i64 ((t : Nat) : Int))), (fun x _ => x = (.int .i64 (((t - 1) : Nat) : Int))), (fun x _ => x = (.pointer (some ⟨b, (0 + ((t - 1)) * 1), none⟩))), (fun x _ => x = (.float .f64 (cur.getD ((t - 1)) 0))), (fun x _ => x = (.slice (some ⟨b, 0, none⟩) l.length c)), (fun x _ => x = (.int .i64 ((t : Nat) : Int))), (fun x _ => x = (.pointer (some ⟨b, (0 + t * 1), none⟩))), (fun x _ => x = (.float .f64 (cur.getD t 0))), (fun x _ => x = (.pointer (some ⟨b, (0 + t * 1), none⟩))), (fun _ _ => True)])
                []
                [[], [], [], [], [3], [], [], [6], [5, 7], [8], [], [], [10, 11], [12], [0, 1, 5, 6, 7, 8, 9, 13], [0, 1, 5, 6, 7, 8, 9, 13, 14], [], []]
                hf (by kernel_rfl) (by kernel_rfl) (by kernel_rfl) (fun _ _ => rfl) (fun _ hS_ => ⟨below_grown (Below.refl _ _).drew, fun _ => Row.ext hr (Below.refl _ _).drew, fun h => absurd h (hS_ _)⟩) (fun _ _ _ _ _ _ => rfl) ?_ ?_
              · skip
                intro V
                have hKP : ∀ (iX : Nat) (S : Nat → Prop) (wk : World), ∀ jX vX wX, (((fun (S : Nat → Prop) => ([(fun x _ => x = (.slice (some ⟨b, 0, none⟩) l.length c)), (fun x _ => x = (.int .i64 ((t : Nat) : Int))), (fun x _ => x = (.slice (some ⟨b, 0, none⟩) l.length c)), (fun x _ => x = (.int .i64 ((t : Nat) : Int))), (fun x _ => x = (.int .i64 (((t - 1) : Nat) : Int))), (fun x _ => x = (.slice (some ⟨b, 0, none⟩) l.length c)), (fun x _ => x = (.int .i64 ((t : Nat) : Int))), (fun x _ => x = (.int .i64 (((t - 1) : Nat) : Int))), (fun x _ => x = (.pointer (some ⟨b, (0 + ((t - 1)) * 1), none⟩))), (fun x _ => x = (.float .f64 (cur.getD ((t - 1)) 0))), (fun x _ => x = (.slice (some ⟨b, 0, none⟩) l.length c)), (fun x _ => x = (.int .i64 ((t : Nat) : Int))), (fun x _ => x = (.pointer (some ⟨b, (0 + t * 1), none⟩))), (fun x _ => x = (.float .f64 (cur.getD t 0))), (fun x _ => x = (.pointer (some ⟨b, (0 + t * 1), none⟩))), (fun _ _ => True)] : List (Value → World → Prop))) S).getD jX (fun _ _ => True)) vX wk → Below wk.heap.size wk wX → (((fun (S : Nat → Prop) => ([(fun x _ => x = (.slice (some ⟨b, 0, none⟩) l.length c)), (fun x _ => x = (.int .i64 ((t : Nat) : Int))), (fun x _ => x = (.slice (some ⟨b, 0, none⟩) l.length c)), (fun x _ => x = (.int .i64 ((t : Nat) : Int))), (fun x _ => x = (.int .i64 (((t - 1) : Nat) : Int))), (fun x _ => x = (.slice (some ⟨b, 0, none⟩) l.length c)), (fun x _ => x = (.int .i64 ((t : Nat) : Int))), (fun x _ => x = (.int .i64 (((t - 1) : Nat) : Int))), (fun x _ => x = (.pointer (some ⟨b, (0 + ((t - 1)) * 1), none⟩))), (fun x _ => x = (.float .f64 (cur.getD ((t - 1)) 0))), (fun x _ => x = (.slice (some ⟨b, 0, none⟩) l.length c)), (fun x _ => x = (.int .i64 ((t : Nat) : Int))), (fun x _ => x = (.pointer (some ⟨b, (0 + t * 1), none⟩))), (fun x _ => x = (.float .f64 (cur.getD t 0))), (fun x _ => x = (.pointer (some ⟨b, (0 + t * 1), none⟩))), (fun _ _ => True)] : List (Value → World → Prop))) (ad iX S)).getD jX (fun _ _ => True)) vX wX := by
                  intro iX S wk jX vX wX h hB
                  match jX with
                  | 0 => exact h
                  | 1 => exact h
                  | 2 => exact h
                  | 3 => exact h
                  | 4 => exact h
                  | 5 => exact h
                  | 6 => exact h
                  | 7 => exact h
                  | 8 => exact h
                  | 9 => exact h
                  | 10 => exact h
                  | 11 => exact h
                  | 12 => exact h
                  | 13 => exact h
                  | 14 => exact h
                  | 15 => exact h
                  | _ + 16 => trivial
                refine ⟨fun S wu0 hC hS hd hi => ?_, ?_⟩
                · skip
                  replace hC := show w8.grownBy wu0 (some b) ∧ (¬ S 15 → Row 1 vFlt 22 w0.heap.size wu0 (.slice (some ⟨b, 0, none⟩) l.length c) cur) ∧ (S 15 → Row 1 vFlt 22 w0.heap.size wu0 (.slice (some ⟨b, 0, none⟩) l.length c) ((cur).set t (cur.getD ((t - 1)) 0))) from hC
                  refine uv_plain (C := (fun S wq => w8.grownBy wq (some b) ∧ (¬ S 15 → Row 1 vFlt 22 w0.heap.size wq (.slice (some ⟨b, 0, none⟩) l.length c) cur) ∧ (S 15 → Row 1 vFlt 22 w0.heap.size wq (.slice (some ⟨b, 0, none⟩) l.length c) ((cur).set t (cur.getD ((t - 1)) 0))))) (hKP 0 S wu0) (fun _ h1 h2 => ⟨grown_trans h1.1 (below_grown h2), fun hn => Row.ext (h1.2.1 (fun hs => hn (.inr hs))) h2, fun hs => Row.ext (h1.2.2 (by rcases hs with e | hs; exact absurd e (by decide); exact hs)) h2⟩) hC hS ?_
                  obtain ⟨hCg, hCa, hCb⟩ := hC
                  have hsz_ := hCg.size
                  exact Runs.does (r_move rfl) ⟨Below.refl _ _, rfl, nofr rfl⟩
                refine ⟨fun S wu1 hC hS hd hi => ?_, ?_⟩
                · skip
                  replace hC := show w8.grownBy wu1 (some b) ∧ (¬ S 15 → Row 1 vFlt 22 w0.heap.size wu1 (.slice (some ⟨b, 0, none⟩) l.length c) cur) ∧ (S 15 → Row 1 vFlt 22 w0.heap.size wu1 (.slice (some ⟨b, 0, none⟩) l.length c) ((cur).set t (cur.getD ((t - 1)) 0))) from hC
                  refine uv_plain (C := (fun S wq => w8.grownBy wq (some b) ∧ (¬ S 15 → Row 1 vFlt 22 w0.heap.size wq (.slice (some ⟨b, 0, none⟩) l.length c) cur) ∧ (S 15 → Row 1 vFlt 22 w0.heap.size wq (.slice (some ⟨b, 0, none⟩) l.length c) ((cur).set t (cur.getD ((t - 1)) 0))))) (hKP 1 S wu1) (fun _ h1 h2 => ⟨grown_trans h1.1 (below_grown h2), fun hn => Row.ext (h1.2.1 (fun hs => hn (.inr hs))) h2, fun hs => Row.ext (h1.2.2 (by rcases hs with e | hs; exact absurd e (by decide); exact hs)) h2⟩) hC hS ?_
                  obtain ⟨hCg, hCa, hCb⟩ := hC
                  have hsz_ := hCg.size
                  exact Runs.does (r_move rfl) ⟨Below.refl _ _, rfl, nofr rfl⟩
                refine ⟨fun S wu2 hC hS hd hi => ?_, ?_⟩
                · skip
                  replace hC := show w8.grownBy wu2 (some b) ∧ (¬ S 15 → Row 1 vFlt 22 w0.heap.size wu2 (.slice (some ⟨b, 0, none⟩) l.length c) cur) ∧ (S 15 → Row 1 vFlt 22 w0.heap.size wu2 (.slice (some ⟨b, 0, none⟩) l.length c) ((cur).set t (cur.getD ((t - 1)) 0))) from hC
                  refine uv_plain (C := (fun S wq => w8.grownBy wq (some b) ∧ (¬ S 15 → Row 1 vFlt 22 w0.heap.size wq (.slice (some ⟨b, 0, none⟩) l.length c) cur) ∧ (S 15 → Row 1 vFlt 22 w0.heap.size wq (.slice (some ⟨b, 0, none⟩) l.length c) ((cur).set t (cur.getD ((t - 1)) 0))))) (hKP 2 S wu2) (fun _ h1 h2 => ⟨grown_trans h1.1 (below_grown h2), fun hn => Row.ext (h1.2.1 (fun hs => hn (.inr hs))) h2, fun hs => Row.ext (h1.2.2 (by rcases hs with e | hs; exact absurd e (by decide); exact hs)) h2⟩) hC hS ?_
                  obtain ⟨hCg, hCa, hCb⟩ := hC
                  have hsz_ := hCg.size
                  exact Runs.does (r_move rfl) ⟨Below.refl _ _, rfl, nofr rfl⟩
                refine ⟨fun S wu3 hC hS hd hi => ?_, ?_⟩
                · skip
                  replace hC := show w8.grownBy wu3 (some b) ∧ (¬ S 15 → Row 1 vFlt 22 w0.heap.size wu3 (.slice (some ⟨b, 0, none⟩) l.length c) cur) ∧ (S 15 → Row 1 vFlt 22 w0.heap.size wu3 (.slice (some ⟨b, 0, none⟩) l.length c) ((cur).set t (cur.getD ((t - 1)) 0))) from hC
                  refine uv_plain (C := (fun S wq => w8.grownBy wq (some b) ∧ (¬ S 15 → Row 1 vFlt 22 w0.heap.size wq (.slice (some ⟨b, 0, none⟩) l.length c) cur) ∧ (S 15 → Row 1 vFlt 22 w0.heap.size wq (.slice (some ⟨b, 0, none⟩) l.length c) ((cur).set t (cur.getD ((t - 1)) 0))))) (hKP 3 S wu3) (fun _ h1 h2 => ⟨grown_trans h1.1 (below_grown h2), fun hn => Row.ext (h1.2.1 (fun hs => hn (.inr hs))) h2, fun hs => Row.ext (h1.2.2 (by rcases hs with e | hs; exact absurd e (by decide); exact hs)) h2⟩) hC hS ?_
                  obtain ⟨hCg, hCa, hCb⟩ := hC
                  have hsz_ := hCg.size
                  exact Runs.does (r_move rfl) ⟨Below.refl _ _, rfl, nofr rfl⟩
                refine ⟨fun S wu4 hC hS hd hi => ?_, ?_⟩
                · skip
                  replace hC := show w8.grownBy wu4 (some b) ∧ (¬ S 15 → Row 1 vFlt 22 w0.heap.size wu4 (.slice (some ⟨b, 0, none⟩) l.length c) cur) ∧ (S 15 → Row 1 vFlt 22 w0.heap.size wu4 (.slice (some ⟨b, 0, none⟩) l.length c) ((cur).set t (cur.getD ((t - 1)) 0))) from hC
                  refine uv_plain (C := (fun S wq => w8.grownBy wq (some b) ∧ (¬ S 15 → Row 1 vFlt 22 w0.heap.size wq (.slice (some ⟨b, 0, none⟩) l.length c) cur) ∧ (S 15 → Row 1 vFlt 22 w0.heap.size wq (.slice (some ⟨b, 0, none⟩) l.length c) ((cur).set t (cur.getD ((t - 1)) 0))))) (hKP 4 S wu4) (fun _ h1 h2 => ⟨grown_trans h1.1 (below_grown h2), fun hn => Row.ext (h1.2.1 (fun hs => hn (.inr hs))) h2, fun hs => Row.ext (h1.2.2 (by rcases hs with e | hs; exact absurd e (by decide); exact hs)) h2⟩) hC hS ?_
                  obtain ⟨hCg, hCa, hCb⟩ := hC
                  have h3 := hS.post 3 (hd 3 (by decide))
                  replace h3 : V 3 = (.int .i64 ((t : Nat) : Int)) := h3
                  have hsz_ := hCg.size
                  exact Runs.does (r_sub (C := (((t - 1) : Nat) : Int)) (congrArg some h3) rfl (by rw [IntKind.wrap_i64]; omega)) ⟨Below.refl _ _, rfl, nofr rfl⟩
                refine ⟨fun S wu5 hC hS hd hi => ?_, ?_⟩
                · skip
                  replace hC := show w8.grownBy wu5 (some b) ∧ (¬ S 15 → Row 1 vFlt 22 w0.heap.size wu5 (.slice (some ⟨b, 0, none⟩) l.length c) cur) ∧ (S 15 → Row 1 vFlt 22 w0.heap.size wu5 (.slice (some ⟨b, 0, none⟩) l.length c) ((cur).set t (cur.getD ((t - 1)) 0))) from hC
                  refine uv_plain (C := (fun S wq => w8.grownBy wq (some b) ∧ (¬ S 15 → Row 1 vFlt 22 w0.heap.size wq (.slice (some ⟨b, 0, none⟩) l.length c) cur) ∧ (S 15 → Row 1 vFlt 22 w0.heap.size wq (.slice (some ⟨b, 0, none⟩) l.length c) ((cur).set t (cur.getD ((t - 1)) 0))))) (hKP 5 S wu5) (fun _ h1 h2 => ⟨grown_trans h1.1 (below_grown h2), fun hn => Row.ext (h1.2.1 (fun hs => hn (.inr hs))) h2, fun hs => Row.ext (h1.2.2 (by rcases hs with e | hs; exact absurd e (by decide); exact hs)) h2⟩) hC hS ?_
                  obtain ⟨hCg, hCa, hCb⟩ := hC
                  have hsz_ := hCg.size
                  exact Runs.does (r_move rfl) ⟨Below.refl _ _, rfl, nofr rfl⟩
                refine ⟨fun S wu6 hC hS hd hi => ?_, ?_⟩
                · skip
                  replace hC := show w8.grownBy wu6 (some b) ∧ (¬ S 15 → Row 1 vFlt 22 w0.heap.size wu6 (.slice (some ⟨b, 0, none⟩) l.length c) cur) ∧ (S 15 → Row 1 vFlt 22 w0.heap.size wu6 (.slice (some ⟨b, 0, none⟩) l.length c) ((cur).set t (cur.getD ((t - 1)) 0))) from hC
                  refine uv_plain (C := (fun S wq => w8.grownBy wq (some b) ∧ (¬ S 15 → Row 1 vFlt 22 w0.heap.size wq (.slice (some ⟨b, 0, none⟩) l.length c) cur) ∧ (S 15 → Row 1 vFlt 22 w0.heap.size wq (.slice (some ⟨b, 0, none⟩) l.length c) ((cur).set t (cur.getD ((t - 1)) 0))))) (hKP 6 S wu6) (fun _ h1 h2 => ⟨grown_trans h1.1 (below_grown h2), fun hn => Row.ext (h1.2.1 (fun hs => hn (.inr hs))) h2, fun hs => Row.ext (h1.2.2 (by rcases hs with e | hs; exact absurd e (by decide); exact hs)) h2⟩) hC hS ?_
                  obtain ⟨hCg, hCa, hCb⟩ := hC
                  have hsz_ := hCg.size
                  exact Runs.does (r_move rfl) ⟨Below.refl _ _, rfl, nofr rfl⟩
                refine ⟨fun S wu7 hC hS hd hi => ?_, ?_⟩
                · skip
                  replace hC := show w8.grownBy wu7 (some b) ∧ (¬ S 15 → Row 1 vFlt 22 w0.heap.size wu7 (.slice (some ⟨b, 0, none⟩) l.length c) cur) ∧ (S 15 → Row 1 vFlt 22 w0.heap.size wu7 (.slice (some ⟨b, 0, none⟩) l.length c) ((cur).set t (cur.getD ((t - 1)) 0))) from hC
                  refine uv_plain (C := (fun S wq => w8.grownBy wq (some b) ∧ (¬ S 15 → Row 1 vFlt 22 w0.heap.size wq (.slice (some ⟨b, 0, none⟩) l.length c) cur) ∧ (S 15 → Row 1 vFlt 22 w0.heap.size wq (.slice (some ⟨b, 0, none⟩) l.length c) ((cur).set t (cur.getD ((t - 1)) 0))))) (hKP 7 S wu7) (fun _ h1 h2 => ⟨grown_trans h1.1 (below_grown h2), fun hn => Row.ext (h1.2.1 (fun hs => hn (.inr hs))) h2, fun hs => Row.ext (h1.2.2 (by rcases hs with e | hs; exact absurd e (by decide); exact hs)) h2⟩) hC hS ?_
                  obtain ⟨hCg, hCa, hCb⟩ := hC
                  have h6 := hS.post 6 (hd 6 (by decide))
                  replace h6 : V 6 = (.int .i64 ((t : Nat) : Int)) := h6
                  have hsz_ := hCg.size
                  exact Runs.does (r_sub (C := (((t - 1) : Nat) : Int)) (congrArg some h6) rfl (by rw [IntKind.wrap_i64]; omega)) ⟨Below.refl _ _, rfl, nofr rfl⟩
                refine ⟨fun S wu8 hC hS hd hi => ?_, ?_⟩
                · skip
                  replace hC := show w8.grownBy wu8 (some b) ∧ (¬ S 15 → Row 1 vFlt 22 w0.heap.size wu8 (.slice (some ⟨b, 0, none⟩) l.length c) cur) ∧ (S 15 → Row 1 vFlt 22 w0.heap.size wu8 (.slice (some ⟨b, 0, none⟩) l.length c) ((cur).set t (cur.getD ((t - 1)) 0))) from hC
                  refine uv_plain (C := (fun S wq => w8.grownBy wq (some b) ∧ (¬ S 15 → Row 1 vFlt 22 w0.heap.size wq (.slice (some ⟨b, 0, none⟩) l.length c) cur) ∧ (S 15 → Row 1 vFlt 22 w0.heap.size wq (.slice (some ⟨b, 0, none⟩) l.length c) ((cur).set t (cur.getD ((t - 1)) 0))))) (hKP 8 S wu8) (fun _ h1 h2 => ⟨grown_trans h1.1 (below_grown h2), fun hn => Row.ext (h1.2.1 (fun hs => hn (.inr hs))) h2, fun hs => Row.ext (h1.2.2 (by rcases hs with e | hs; exact absurd e (by decide); exact hs)) h2⟩) hC hS ?_
                  obtain ⟨hCg, hCa, hCb⟩ := hC
                  have h5 := hS.post 5 (hd 5 (by decide))
                  replace h5 : V 5 = (.slice (some ⟨b, 0, none⟩) l.length c) := h5
                  have h7 := hS.post 7 (hd 7 (by decide))
                  replace h7 : V 7 = (.int .i64 (((t - 1) : Nat) : Int)) := h7
                  have hsz_ := hCg.size
                  exact Runs.does (r_ixa (sz := 1) (j := ((t - 1))) (congrArg some h5) (congrArg some h7) Try.underlying30 (by kernel_rfl) rfl (by omega) rfl) ⟨Below.refl _ _, rfl, nofr rfl⟩
                refine ⟨fun S wu9 hC hS hd hi => ?_, ?_⟩
                · skip
                  replace hC := show w8.grownBy wu9 (some b) ∧ (¬ S 15 → Row 1 vFlt 22 w0.heap.size wu9 (.slice (some ⟨b, 0, none⟩) l.length c) cur) ∧ (S 15 → Row 1 vFlt 22 w0.heap.size wu9 (.slice (some ⟨b, 0, none⟩) l.length c) ((cur).set t (cur.getD ((t - 1)) 0))) from hC
                  refine uv_plain (C := (fun S wq => w8.grownBy wq (some b) ∧ (¬ S 15 → Row 1 vFlt 22 w0.heap.size wq (.slice (some ⟨b, 0, none⟩) l.length c) cur) ∧ (S 15 → Row 1 vFlt 22 w0.heap.size wq (.slice (some ⟨b, 0, none⟩) l.length c) ((cur).set t (cur.getD ((t - 1)) 0))))) (hKP 9 S wu9) (fun _ h1 h2 => ⟨grown_trans h1.1 (below_grown h2), fun hn => Row.ext (h1.2.1 (fun hs => hn (.inr hs))) h2, fun hs => Row.ext (h1.2.2 (by rcases hs with e | hs; exact absurd e (by decide); exact hs)) h2⟩) hC hS ?_
                  obtain ⟨hCg, hCa, hCb⟩ := hC
                  have h8 := hS.post 8 (hd 8 (by decide))
                  replace h8 : V 8 = (.pointer (some ⟨b, (0 + ((t - 1)) * 1), none⟩)) := h8
                  have hCr := hCa (fun h => hi (hS.down 15 h 9 (by decide)))
                  have hsz_ := hCg.size
                  obtain ⟨_, _, hab2, hlr2, hel2⟩ := RdS.at (Row.rd (by intros; rfl) hCr) hy9
                  cases hab2
                  exact Runs.does (r_load (v := (.float .f64 (cur.getD ((t - 1)) 0))) (congrArg some h8) Try.underlying22 rfl (cellsAt_cell hel2 (i := 0) rfl rfl)) ⟨Below.refl _ _, rfl, nofr rfl⟩
                refine ⟨fun S wu10 hC hS hd hi => ?_, ?_⟩
                · skip
                  replace hC := show w8.grownBy wu10 (some b) ∧ (¬ S 15 → Row 1 vFlt 22 w0.heap.size wu10 (.slice (some ⟨b, 0, none⟩) l.length c) cur) ∧ (S 15 → Row 1 vFlt 22 w0.heap.size wu10 (.slice (some ⟨b, 0, none⟩) l.length c) ((cur).set t (cur.getD ((t - 1)) 0))) from hC
                  refine uv_plain (C := (fun S wq => w8.grownBy wq (some b) ∧ (¬ S 15 → Row 1 vFlt 22 w0.heap.size wq (.slice (some ⟨b, 0, none⟩) l.length c) cur) ∧ (S 15 → Row 1 vFlt 22 w0.heap.size wq (.slice (some ⟨b, 0, none⟩) l.length c) ((cur).set t (cur.getD ((t - 1)) 0))))) (hKP 10 S wu10) (fun _ h1 h2 => ⟨grown_trans h1.1 (below_grown h2), fun hn => Row.ext (h1.2.1 (fun hs => hn (.inr hs))) h2, fun hs => Row.ext (h1.2.2 (by rcases hs with e | hs; exact absurd e (by decide); exact hs)) h2⟩) hC hS ?_
                  obtain ⟨hCg, hCa, hCb⟩ := hC
                  have hsz_ := hCg.size
                  exact Runs.does (r_move rfl) ⟨Below.refl _ _, rfl, nofr rfl⟩
                refine ⟨fun S wu11 hC hS hd hi => ?_, ?_⟩
                · skip
                  replace hC := show w8.grownBy wu11 (some b) ∧ (¬ S 15 → Row 1 vFlt 22 w0.heap.size wu11 (.slice (some ⟨b, 0, none⟩) l.length c) cur) ∧ (S 15 → Row 1 vFlt 22 w0.heap.size wu11 (.slice (some ⟨b, 0, none⟩) l.length c) ((cur).set t (cur.getD ((t - 1)) 0))) from hC
                  refine uv_plain (C := (fun S wq => w8.grownBy wq (some b) ∧ (¬ S 15 → Row 1 vFlt 22 w0.heap.size wq (.slice (some ⟨b, 0, none⟩) l.length c) cur) ∧ (S 15 → Row 1 vFlt 22 w0.heap.size wq (.slice (some ⟨b, 0, none⟩) l.length c) ((cur).set t (cur.getD ((t - 1)) 0))))) (hKP 11 S wu11) (fun _ h1 h2 => ⟨grown_trans h1.1 (below_grown h2), fun hn => Row.ext (h1.2.1 (fun hs => hn (.inr hs))) h2, fun hs => Row.ext (h1.2.2 (by rcases hs with e | hs; exact absurd e (by decide); exact hs)) h2⟩) hC hS ?_
                  obtain ⟨hCg, hCa, hCb⟩ := hC
                  have hsz_ := hCg.size
                  exact Runs.does (r_move rfl) ⟨Below.refl _ _, rfl, nofr rfl⟩
                refine ⟨fun S wu12 hC hS hd hi => ?_, ?_⟩
                · skip
                  replace hC := show w8.grownBy wu12 (some b) ∧ (¬ S 15 → Row 1 vFlt 22 w0.heap.size wu12 (.slice (some ⟨b, 0, none⟩) l.length c) cur) ∧ (S 15 → Row 1 vFlt 22 w0.heap.size wu12 (.slice (some ⟨b, 0, none⟩) l.length c) ((cur).set t (cur.getD ((t - 1)) 0))) from hC
                  refine uv_plain (C := (fun S wq => w8.grownBy wq (some b) ∧ (¬ S 15 → Row 1 vFlt 22 w0.heap.size wq (.slice (some ⟨b, 0, none⟩) l.length c) cur) ∧ (S 15 → Row 1 vFlt 22 w0.heap.size wq (.slice (some ⟨b, 0, none⟩) l.length c) ((cur).set t (cur.getD ((t - 1)) 0))))) (hKP 12 S wu12) (fun _ h1 h2 => ⟨grown_trans h1.1 (below_grown h2), fun hn => Row.ext (h1.2.1 (fun hs => hn (.inr hs))) h2, fun hs => Row.ext (h1.2.2 (by rcases hs with e | hs; exact absurd e (by decide); exact hs)) h2⟩) hC hS ?_
                  obtain ⟨hCg, hCa, hCb⟩ := hC
                  have h10 := hS.post 10 (hd 10 (by decide))
                  replace h10 : V 10 = (.slice (some ⟨b, 0, none⟩) l.length c) := h10
                  have h11 := hS.post 11 (hd 11 (by decide))
                  replace h11 : V 11 = (.int .i64 ((t : Nat) : Int)) := h11
                  have hsz_ := hCg.size
                  exact Runs.does (r_ixa (sz := 1) (j := t) (congrArg some h10) (congrArg some h11) Try.underlying30 (by kernel_rfl) rfl (by omega) rfl) ⟨Below.refl _ _, rfl, nofr rfl⟩
                refine ⟨fun S wu13 hC hS hd hi => ?_, ?_⟩
                · skip
                  replace hC := show w8.grownBy wu13 (some b) ∧ (¬ S 15 → Row 1 vFlt 22 w0.heap.size wu13 (.slice (some ⟨b, 0, none⟩) l.length c) cur) ∧ (S 15 → Row 1 vFlt 22 w0.heap.size wu13 (.slice (some ⟨b, 0, none⟩) l.length c) ((cur).set t (cur.getD ((t - 1)) 0))) from hC
                  refine uv_plain (C := (fun S wq => w8.grownBy wq (some b) ∧ (¬ S 15 → Row 1 vFlt 22 w0.heap.size wq (.slice (some ⟨b, 0, none⟩) l.length c) cur) ∧ (S 15 → Row 1 vFlt 22 w0.heap.size wq (.slice (some ⟨b, 0, none⟩) l.length c) ((cur).set t (cur.getD ((t - 1)) 0))))) (hKP 13 S wu13) (fun _ h1 h2 => ⟨grown_trans h1.1 (below_grown h2), fun hn => Row.ext (h1.2.1 (fun hs => hn (.inr hs))) h2, fun hs => Row.ext (h1.2.2 (by rcases hs with e | hs; exact absurd e (by decide); exact hs)) h2⟩) hC hS ?_
                  obtain ⟨hCg, hCa, hCb⟩ := hC
                  have h12 := hS.post 12 (hd 12 (by decide))
                  replace h12 : V 12 = (.pointer (some ⟨b, (0 + t * 1), none⟩)) := h12
                  have hCr := hCa (fun h => hi (hS.down 15 h 13 (by decide)))
                  have hsz_ := hCg.size
                  obtain ⟨_, _, hab2, hlr2, hel2⟩ := RdS.at (Row.rd (by intros; rfl) hCr) hy10
                  cases hab2
                  exact Runs.does (r_load (v := (.float .f64 (cur.getD t 0))) (congrArg some h12) Try.underlying22 rfl (cellsAt_cell hel2 (i := 0) rfl rfl)) ⟨Below.refl _ _, rfl, nofr rfl⟩
                refine ⟨fun S wu14 hC hS hd hi => ?_, ?_⟩
                · skip
                  replace hC := show w8.grownBy wu14 (some b) ∧ (¬ S 15 → Row 1 vFlt 22 w0.heap.size wu14 (.slice (some ⟨b, 0, none⟩) l.length c) cur) ∧ (S 15 → Row 1 vFlt 22 w0.heap.size wu14 (.slice (some ⟨b, 0, none⟩) l.length c) ((cur).set t (cur.getD ((t - 1)) 0))) from hC
                  refine uv_plain (C := (fun S wq => w8.grownBy wq (some b) ∧ (¬ S 15 → Row 1 vFlt 22 w0.heap.size wq (.slice (some ⟨b, 0, none⟩) l.length c) cur) ∧ (S 15 → Row 1 vFlt 22 w0.heap.size wq (.slice (some ⟨b, 0, none⟩) l.length c) ((cur).set t (cur.getD ((t - 1)) 0))))) (hKP 14 S wu14) (fun _ h1 h2 => ⟨grown_trans h1.1 (below_grown h2), fun hn => Row.ext (h1.2.1 (fun hs => hn (.inr hs))) h2, fun hs => Row.ext (h1.2.2 (by rcases hs with e | hs; exact absurd e (by decide); exact hs)) h2⟩) hC hS ?_
                  obtain ⟨hCg, hCa, hCb⟩ := hC
                  have h0 := hS.post 0 (hd 0 (by decide))
                  replace h0 : V 0 = (.slice (some ⟨b, 0, none⟩) l.length c) := h0
                  have h1 := hS.post 1 (hd 1 (by decide))
                  replace h1 : V 1 = (.int .i64 ((t : Nat) : Int)) := h1
                  have h5 := hS.post 5 (hd 5 (by decide))
                  replace h5 : V 5 = (.slice (some ⟨b, 0, none⟩) l.length c) := h5
                  have h6 := hS.post 6 (hd 6 (by decide))
                  replace h6 : V 6 = (.int .i64 ((t : Nat) : Int)) := h6
                  have h7 := hS.post 7 (hd 7 (by decide))
                  replace h7 : V 7 = (.int .i64 (((t - 1) : Nat) : Int)) := h7
                  have h8 := hS.post 8 (hd 8 (by decide))
                  replace h8 : V 8 = (.pointer (some ⟨b, (0 + ((t - 1)) * 1), none⟩)) := h8
                  have h9 := hS.post 9 (hd 9 (by decide))
                  replace h9 : V 9 = (.float .f64 (cur.getD ((t - 1)) 0)) := h9
                  have h13 := hS.post 13 (hd 13 (by decide))
                  replace h13 : V 13 = (.float .f64 (cur.getD t 0)) := h13
                  have hsz_ := hCg.size
                  exact Runs.does (r_ixa (sz := 1) (j := t) (congrArg some h0) (congrArg some h1) Try.underlying30 (by kernel_rfl) rfl (by omega) rfl) ⟨Below.refl _ _, rfl, nofr rfl⟩
                refine ⟨fun S wu15 hC hS hd hi => ?_, ?_⟩
                · skip
                  replace hC := show w8.grownBy wu15 (some b) ∧ (¬ S 15 → Row 1 vFlt 22 w0.heap.size wu15 (.slice (some ⟨b, 0, none⟩) l.length c) cur) ∧ (S 15 → Row 1 vFlt 22 w0.heap.size wu15 (.slice (some ⟨b, 0, none⟩) l.length c) ((cur).set t (cur.getD ((t - 1)) 0))) from hC
                  obtain ⟨hCg, hCa, hCb⟩ := hC
                  have h0 := hS.post 0 (hd 0 (by decide))
                  replace h0 : V 0 = (.slice (some ⟨b, 0, none⟩) l.length c) := h0
                  have h1 := hS.post 1 (hd 1 (by decide))
                  replace h1 : V 1 = (.int .i64 ((t : Nat) : Int)) := h1
                  have h5 := hS.post 5 (hd 5 (by decide))
                  replace h5 : V 5 = (.slice (some ⟨b, 0, none⟩) l.length c) := h5
                  have h6 := hS.post 6 (hd 6 (by decide))
                  replace h6 : V 6 = (.int .i64 ((t : Nat) : Int)) := h6
                  have h7 := hS.post 7 (hd 7 (by decide))
                  replace h7 : V 7 = (.int .i64 (((t - 1) : Nat) : Int)) := h7
                  have h8 := hS.post 8 (hd 8 (by decide))
                  replace h8 : V 8 = (.pointer (some ⟨b, (0 + ((t - 1)) * 1), none⟩)) := h8
                  have h9 := hS.post 9 (hd 9 (by decide))
                  replace h9 : V 9 = (.float .f64 (cur.getD ((t - 1)) 0)) := h9
                  have h13 := hS.post 13 (hd 13 (by decide))
                  replace h13 : V 13 = (.float .f64 (cur.getD t 0)) := h13
                  have h14 := hS.post 14 (hd 14 (by decide))
                  replace h14 : V 14 = (.pointer (some ⟨b, (0 + t * 1), none⟩)) := h14
                  refine Does.mono (d_rowset (u := (cur.getD ((t - 1)) 0)) (j := t) (by intros; rfl) (by exact oneFlt) (congrArg some h14) (congrArg some h9) (by first | rfl | (simp; done) | (simp; omega)) (by kernel_rfl) (hCa hi) (by first | omega | (simp only [Sl.list_length, List.length_set, List.length_take, List.length_append, List.length_replicate, List.length_cons, List.length_nil, List.length_map, nums_len]; omega)) (by omega)) ?_
                  rintro _ wz ⟨hY, hgY⟩
                  refine ⟨⟨⟨grown_trans hCg hgY, fun hn => absurd (.inl rfl) hn, fun _ => hY⟩, fun jX hj => ?_, hgY.size⟩, trivial, nofr rfl⟩
                  match jX with
                  | 0 => exact hS.post 0 hj
                  | 1 => exact hS.post 1 hj
                  | 2 => exact hS.post 2 hj
                  | 3 => exact hS.post 3 hj
                  | 4 => exact hS.post 4 hj
                  | 5 => exact hS.post 5 hj
                  | 6 => exact hS.post 6 hj
                  | 7 => exact hS.post 7 hj
                  | 8 => exact hS.post 8 hj
                  | 9 => exact hS.post 9 hj
                  | 10 => exact hS.post 10 hj
                  | 11 => exact hS.post 11 hj
                  | 12 => exact hS.post 12 hj
                  | 13 => exact hS.post 13 hj
                  | 14 => exact hS.post 14 hj
                  | 15 => trivial
                  | _ + 16 => trivial
                trivial
              · skip
                clear hf fa; intro V S w9 fa hall he4 hp hnb hf
                have hg3 := he4.1
                have hv0 : V 0 = (.slice (some ⟨b, 0, none⟩) l.length c) := postsHold_at hp 0 rfl
                have hv1 : V 1 = (.int .i64 ((t : Nat) : Int)) := postsHold_at hp 1 rfl
                have hv2 : V 2 = (.slice (some ⟨b, 0, none⟩) l.length c) := postsHold_at hp 2 rfl
                have hv3 : V 3 = (.int .i64 ((t : Nat) : Int)) := postsHold_at hp 3 rfl
                have hv4 : V 4 = (.int .i64 (((t - 1) : Nat) : Int)) := postsHold_at hp 4 rfl
                have hv5 : V 5 = (.slice (some ⟨b, 0, none⟩) l.length c) := postsHold_at hp 5 rfl
                have hv6 : V 6 = (.int .i64 ((t : Nat) : Int)) := postsHold_at hp 6 rfl
                have hv7 : V 7 = (.int .i64 (((t - 1) : Nat) : Int)) := postsHold_at hp 7 rfl
                have hv8 : V 8 = (.pointer (some ⟨b, (0 + ((t - 1)) * 1), none⟩)) := postsHold_at hp 8 rfl
                have hv9 : V 9 = (.float .f64 (cur.getD ((t - 1)) 0)) := postsHold_at hp 9 rfl
                have hv10 : V 10 = (.slice (some ⟨b, 0, none⟩) l.length c) := postsHold_at hp 10 rfl
                have hv11 : V 11 = (.int .i64 ((t : Nat) : Int)) := postsHold_at hp 11 rfl
                have hv12 : V 12 = (.pointer (some ⟨b, (0 + t * 1), none⟩)) := postsHold_at hp 12 rfl
                have hv13 : V 13 = (.float .f64 (cur.getD t 0)) := postsHold_at hp 13 rfl
                have hv14 : V 14 = (.pointer (some ⟨b, (0 + t * 1), none⟩)) := postsHold_at hp 14 rfl
                have hr3 := he4.2.2 (hall 15 (show 15 < 16 by decide))
                simp only [List.take_succ_cons, List.take_zero, insAll, ins, hv0, hv1, hv2, hv3, hv4, hv5, hv6, hv7, hv8, hv9, hv10, hv11, hv12, hv13, hv14] at hf
                clear hp hnb hv0 hv1 hv2 hv3 hv4 hv5 hv6 hv7 hv8 hv9 hv10 hv11 hv12 hv13 hv14
                replace hb := hb.trans (grown_below hg3 hb.size (by first | omega | (have := Row.lt hr _ rfl; omega) | exact (Row.lt hr _ rfl).1))
                replace hr3 : Row 1 vFlt 22 w0.heap.size w9 (.slice (some ⟨b, 0, none⟩) l.length c) ((cur).set t (cur.getD ((t - 1)) 0)) := hr3
                simp only [List.drop_succ_cons, List.drop_zero]
                have hy12 := getD_at (l := ((cur).set t (cur.getD ((t - 1)) 0))) (j := ((t - 1))) 0 (by first | omega | (simp only [Sl.list_length, List.length_set, List.length_take, List.length_append, List.length_replicate, List.length_cons, List.length_nil, List.length_map, nums_len]; omega))
                have hel12 := RdS.at (Row.rd (by intros; rfl) hr3) hy12
                obtain ⟨_, _, hab, hlr12, hel12⟩ := hel12
                cases hab
                refine sqv hf (r_ixa (sz := 1) (j := ((t - 1))) rfl rfl Try.underlying30 (by kernel_rfl) rfl (by omega) rfl) rfl rfl rfl ?_; clear hf fa; intro fa hf
                refine sqn hf (d_rowset (u := (cur.getD t 0)) (j := ((t - 1))) (by intros; rfl) (by exact oneFlt) rfl rfl (by first | rfl | (simp; done) | (simp; omega)) (by kernel_rfl) hr3 (by first | omega | (simp only [Sl.list_length, List.length_set, List.length_take, List.length_append, List.length_replicate, List.length_cons, List.length_nil, List.length_map, nums_len]; omega)) (by omega)) rfl rfl ?_; clear hf fa; rintro fa _ w10 ⟨hr4, hg4⟩ hf
                replace hb := hb.trans (grown_below hg4 hb.size (by first | omega | (have := Row.lt hr3 _ rfl; omega) | exact (Row.lt hr3 _ rfl).1))
                apply wpList_nil
                (try simp only [Exit.then, Exit.inBlock, ↓reduceIte, Nat.reduceEqDiff])
                refine hK28 _ _ ?_
                refine wp_region_lit ?_
                refine sqv hf (r_move rfl) rfl rfl rfl ?_; clear hf fa; intro fa hf
                refine sqv hf (r_sub (C := (((t - 1) : Nat) : Int)) rfl rfl (by rw [IntKind.wrap_i64]; omega)) rfl rfl rfl ?_; clear hf fa; intro fa hf
                refine sqv hf (r_assign rfl) rfl rfl rfl ?_; clear hf fa; intro fa hf
                apply wpList_nil
                (try simp only [Exit.then, Exit.inBlock, ↓reduceIte, Nat.reduceEqDiff])
                refine hKL4 _ _ _ (by omega) ⟨(t - 1), ((((cur).set t (cur.getD ((t - 1)) 0))).set ((t - 1)) (cur.getD t 0)), rfl, hf.sub ⟨rfl, rfl, rfl, rfl, rfl, rfl, rfl, trivial⟩, hb, hr4, (by omega), (by omega), ((hv.trans (via_swap (by omega) (by omega) (by omega))).congr (fun k => shr_step (by omega) (by omega) k))⟩
            · have hqt110_1b := hqt110_1
              replace hqt110_1 := Bool.eq_false_iff.1 hqt110_1
              try simp only [ne_eq, decide_eq_true_eq, Bool.and_eq_true, Bool.or_eq_true, Bool.not_eq_true', decide_eq_false_iff_not] at hqt110_1
              refine wp_exit ?_
              (try simp only [Exit.then, Exit.inBlock, ↓reduceIte, Nat.reduceEqDiff])
              refine hK24 _ _ ?_
              refine wp_ret ?_
              (try simp only [Exit.then, Exit.inBlock])
              refine ret0 hf rfl  ?_
              exact ⟨rfl, _, hr, (by obtain rfl : q = m + 1 := (by omega); have e9 : t = i := (by omega); rw [e9] at hv; exact merge_right hi1 (by omega) hsl hlo (fun x h1 h2 => hhi x (by omega) h2) hv), hb⟩
    · have hqt80_1b := hqt80_1
      replace hqt80_1 := Bool.eq_false_iff.1 hqt80_1
      try simp only [ne_eq, decide_eq_true_eq, Bool.and_eq_true, Bool.or_eq_true, Bool.not_eq_true', decide_eq_false_iff_not] at hqt80_1
      refine wp_skip ?_
      (try simp only [Exit.then, Exit.inBlock, ↓reduceIte, Nat.reduceEqDiff])
      refine hK15 _ _ ?_
      refine wp_seq_k (fun K29 hK29 => ?_)
      refine wp_region_lit ?_
      refine sqv hf (r_move rfl) rfl rfl rfl ?_; clear hf fa; intro fa hf
      refine sqv hf (r_move rfl) rfl rfl rfl ?_; clear hf fa; intro fa hf
      refine sqv hf (r_add (C := (((p + q) : Nat) : Int)) rfl rfl (by rw [IntKind.wrap_i64]; omega)) rfl rfl rfl ?_; clear hf fa; intro fa hf
      refine sqv hf (r_conv (C := (((p + q) : Nat) : Int)) rfl Try.underlying3 Try.underlying55 (by rw [IntKind.wrap_u64]; omega)) rfl rfl rfl ?_; clear hf fa; intro fa hf
      refine sqv hf (r_shr (n := 1) (C := ((((p + q) / 2) : Nat) : Int)) rfl rfl rfl (half_shr _)) rfl rfl rfl ?_; clear hf fa; intro fa hf
      refine sqv hf (r_conv (C := ((((p + q) / 2) : Nat) : Int)) rfl Try.underlying55 Try.underlying3 (by rw [IntKind.wrap_i64]; omega)) rfl rfl rfl ?_; clear hf fa; intro fa hf
      refine sqv hf (r_assign rfl) rfl rfl rfl ?_; clear hf fa; intro fa hf
      apply wpList_nil
      (try simp only [Exit.then, Exit.inBlock, ↓reduceIte, Nat.reduceEqDiff])
      refine hK29 _ _ ?_
      refine wp_seq_k (fun K30 hK30 => ?_)
      refine wp_region_lit ?_
      refine sqv hf (r_move rfl) rfl rfl rfl ?_; clear hf fa; intro fa hf
      refine sqv hf (r_move rfl) rfl rfl rfl ?_; clear hf fa; intro fa hf
      refine sqv hf (r_add (C := (((((p + q) / 2) + m) : Nat) : Int)) rfl rfl (by rw [IntKind.wrap_i64]; omega)) rfl rfl rfl ?_; clear hf fa; intro fa hf
      refine sqv hf (r_assign rfl) rfl rfl rfl ?_; clear hf fa; intro fa hf
      apply wpList_nil
      (try simp only [Exit.then, Exit.inBlock, ↓reduceIte, Nat.reduceEqDiff])
      refine hK30 _ _ ?_
      refine wp_seq_k (fun K31 hK31 => ?_)
      refine wp_region_lit ?_
      refine sqv hf (r_assign rfl) rfl rfl rfl ?_; clear hf fa; intro fa hf
      refine sqv hf (r_assign rfl) rfl rfl rfl ?_; clear hf fa; intro fa hf
      apply wpList_nil
      (try simp only [Exit.then, Exit.inBlock, ↓reduceIte, Nat.reduceEqDiff])
      refine hK31 _ _ ?_
      refine wp_cut_k (fun fa wr => ∃ (st : Nat) (hi : Nat), Fr 220 fa [(0, (.slice (some ⟨b, 0, none⟩) l.length c)), (1, (.int .i64 ((p : Nat) : Int))), (2, (.int .i64 ((m : Nat) : Int))), (3, (.int .i64 ((q : Nat) : Int))), (4, (.func (.func 9) #[] #[])), (18, (.int .i64 ((((p + q) / 2) : Nat) : Int))), (19, (.int .i64 (((((p + q) / 2) + m) : Nat) : Int))), (20, (.int .i64 ((st : Nat) : Int))), (21, (.int .i64 ((hi : Nat) : Int)))] ∧ Below w0.heap.size w0 wr ∧ Row 1 vFlt 22 (w0.heap.size) wr (.slice (some ⟨b, 0, none⟩) (l.length) c) l ∧ (p ≤ st) ∧ (st ≤ hi) ∧ (hi ≤ m) ∧ (hi ≤ ((p + q) / 2)) ∧ (((p + q) / 2) + m ≤ st + q) ∧ (st = p ∨ ((p + q) / 2) + m = st + q) ∧ (hi = m ∨ hi = ((p + q) / 2))) (fun KC1 hKC1 => ?_) ?_
      · skip
        refine wp_seq_k (fun K33 hK33 => ?_)
        refine wp_region_lit ?_
        refine sqv hf (r_move rfl) rfl rfl rfl ?_; clear hf fa; intro fa hf
        refine sqv hf (r_move rfl) rfl rfl rfl ?_; clear hf fa; intro fa hf
        refine sqv hf (r_gt rfl rfl) rfl rfl rfl ?_; clear hf fa; intro fa hf
        apply wpList_nil
        (try simp only [Exit.then, Exit.inBlock, ↓reduceIte, Nat.reduceEqDiff])
        refine hK33 _ _ ?_
        refine wp_cond_split (t := (decide (((((p + q) / 2) : Nat) : Int) < ((m : Nat) : Int)))) (hf.ev rfl) (fun hqt140_1 => ?_) (fun hqt140_1 => ?_)
        · have hqt140_1b := hqt140_1
          try simp only [decide_eq_true_eq, Bool.and_eq_true, Bool.or_eq_true, Bool.not_eq_true', decide_eq_false_iff_not, ne_eq, Bool.not_eq_true] at hqt140_1
          refine wp_seq_k (fun K34 hK34 => ?_)
          refine wp_region_lit ?_
          refine sqv hf (r_move rfl) rfl rfl rfl ?_; clear hf fa; intro fa hf
          refine sqv hf (r_move rfl) rfl rfl rfl ?_; clear hf fa; intro fa hf
          refine sqv hf (r_sub (C := (((((p + q) / 2) + m - q) : Nat) : Int)) rfl rfl (by rw [IntKind.wrap_i64]; omega)) rfl rfl rfl ?_; clear hf fa; intro fa hf
          refine sqv hf (r_assign rfl) rfl rfl rfl ?_; clear hf fa; intro fa hf
          apply wpList_nil
          (try simp only [Exit.then, Exit.inBlock, ↓reduceIte, Nat.reduceEqDiff])
          refine hK34 _ _ ?_
          refine wp_region_lit ?_
          refine sqv hf (r_move rfl) rfl rfl rfl ?_; clear hf fa; intro fa hf
          refine sqv hf (r_assign rfl) rfl rfl rfl ?_; clear hf fa; intro fa hf
          apply wpList_nil
          (try simp only [Exit.then, Exit.inBlock, ↓reduceIte, Nat.reduceEqDiff])
          exact hKC1 _ _ ⟨(((p + q) / 2) + m - q), ((p + q) / 2), hf.sub ⟨rfl, rfl, rfl, rfl, rfl, rfl, rfl, rfl, rfl, trivial⟩, hb, hR, (by omega), (by omega), (by omega), (by omega), (by omega), (by omega), (by omega)⟩
        · have hqt140_1b := hqt140_1
          replace hqt140_1 := Bool.eq_false_iff.1 hqt140_1
          try simp only [ne_eq, decide_eq_true_eq, Bool.and_eq_true, Bool.or_eq_true, Bool.not_eq_true', decide_eq_false_iff_not] at hqt140_1
          refine wp_seq_k (fun K35 hK35 => ?_)
          refine wp_region_lit ?_
          refine sqv hf (r_move rfl) rfl rfl rfl ?_; clear hf fa; intro fa hf
          refine sqv hf (r_assign rfl) rfl rfl rfl ?_; clear hf fa; intro fa hf
          apply wpList_nil
          (try simp only [Exit.then, Exit.inBlock, ↓reduceIte, Nat.reduceEqDiff])
          refine hK35 _ _ ?_
          refine wp_region_lit ?_
          refine sqv hf (r_move rfl) rfl rfl rfl ?_; clear hf fa; intro fa hf
          refine sqv hf (r_assign rfl) rfl rfl rfl ?_; clear hf fa; intro fa hf
          apply wpList_nil
          (try simp only [Exit.then, Exit.inBlock, ↓reduceIte, Nat.reduceEqDiff])
          exact hKC1 _ _ ⟨p, m, hf.sub ⟨rfl, rfl, rfl, rfl, rfl, rfl, rfl, rfl, rfl, trivial⟩, hb, hR, (by omega), (by omega), (by omega), (by omega), (by omega), (by omega), (by omega)⟩
      · clear hf hb fa hR
        rintro fa w11 ⟨st, hi, hf, hb, hr, g1, g2, g3, g4, g5, g6, g7⟩
        have hcr := Row.caps hr
        refine wp_seq_k (fun K36 hK36 => ?_)
        refine wp_region_lit ?_
        refine sqv hf (r_move rfl) rfl rfl rfl ?_; clear hf fa; intro fa hf
        refine sqv hf (r_sub (C := (((((p + q) / 2) + m - 1) : Nat) : Int)) rfl rfl (by rw [IntKind.wrap_i64]; omega)) rfl rfl rfl ?_; clear hf fa; intro fa hf
        refine sqv hf (r_assign rfl) rfl rfl rfl ?_; clear hf fa; intro fa hf
        apply wpList_nil
        (try simp only [Exit.then, Exit.inBlock, ↓reduceIte, Nat.reduceEqDiff])
        refine hK36 _ _ ?_
        refine wp_seq_k (fun K37 hK37 => ?_)
        refine wp_block ?_
        refine wp_loop_k (fun mq fa wr => ∃ (s : Nat) (u : Nat), mq = u - s ∧ Fr 220 fa [(0, (.slice (some ⟨b, 0, none⟩) l.length c)), (1, (.int .i64 ((p : Nat) : Int))), (2, (.int .i64 ((m : Nat) : Int))), (3, (.int .i64 ((q : Nat) : Int))), (4, (.func (.func 9) #[] #[])), (18, (.int .i64 ((((p + q) / 2) : Nat) : Int))), (19, (.int .i64 (((((p + q) / 2) + m) : Nat) : Int))), (20, (.int .i64 ((s : Nat) : Int))), (21, (.int .i64 ((u : Nat) : Int))), (22, (.int .i64 (((((p + q) / 2) + m - 1) : Nat) : Int)))] ∧ Below w0.heap.size w0 wr ∧ Row 1 vFlt 22 (w0.heap.size) wr (.slice (some ⟨b, 0, none⟩) (l.length) c) l ∧ (st ≤ s) ∧ (s ≤ u) ∧ (u ≤ hi) ∧ (∀ c, st ≤ c → c < s → KK l c ≤ KK l ((((p + q) / 2) + m - 1) - c)) ∧ (∀ c, u ≤ c → c < hi → KK l ((((p + q) / 2) + m - 1) - c) < KK l c)) ?_ ?_
        · skip
          exact ⟨_, st, hi, rfl, hf.sub ⟨rfl, rfl, rfl, rfl, rfl, rfl, rfl, rfl, rfl, rfl, trivial⟩, hb, hr, (by omega), (by omega), (by omega), (fun x h1 h2 => by omega), (fun x h1 h2 => by omega)⟩
        · skip
          clear hf fa; intro mq5 fa w12 hI KL5 hKL5
          clear hb
          clear hr
          obtain ⟨s, u, hmq5, hf, hb, hr, hs1, hs2, hs3, hlo, hhi⟩ := hI
          have hcr := Row.caps hr
          refine wp_seq_k (fun K38 hK38 => ?_)
          refine wp_seq_k (fun K39 hK39 => ?_)
          refine wp_region_lit ?_
          refine sqv hf (r_move rfl) rfl rfl rfl ?_; clear hf fa; intro fa hf
          refine sqv hf (r_move rfl) rfl rfl rfl ?_; clear hf fa; intro fa hf
          refine sqv hf (r_lt rfl rfl) rfl rfl rfl ?_; clear hf fa; intro fa hf
          apply wpList_nil
          (try simp only [Exit.then, Exit.inBlock, ↓reduceIte, Nat.reduceEqDiff])
          refine hK39 _ _ ?_
          refine wp_cond_split (t := (decide (((s : Nat) : Int) < ((u : Nat) : Int)))) (hf.ev rfl) (fun hqt151_1 => ?_) (fun hqt151_1 => ?_)
          · have hqt151_1b := hqt151_1
            try simp only [decide_eq_true_eq, Bool.and_eq_true, Bool.or_eq_true, Bool.not_eq_true', decide_eq_false_iff_not, ne_eq, Bool.not_eq_true] at hqt151_1
            refine wp_skip ?_
            (try simp only [Exit.then, Exit.inBlock, ↓reduceIte, Nat.reduceEqDiff])
            refine hK38 _ _ ?_
            refine wp_block ?_
            refine wp_seq_k (fun K40 hK40 => ?_)
            refine wp_region_lit ?_
            refine sqv hf (r_move rfl) rfl rfl rfl ?_; clear hf fa; intro fa hf
            refine sqv hf (r_move rfl) rfl rfl rfl ?_; clear hf fa; intro fa hf
            refine sqv hf (r_add (C := (((s + u) : Nat) : Int)) rfl rfl (by rw [IntKind.wrap_i64]; omega)) rfl rfl rfl ?_; clear hf fa; intro fa hf
            refine sqv hf (r_conv (C := (((s + u) : Nat) : Int)) rfl Try.underlying3 Try.underlying55 (by rw [IntKind.wrap_u64]; omega)) rfl rfl rfl ?_; clear hf fa; intro fa hf
            refine sqv hf (r_shr (n := 1) (C := ((((s + u) / 2) : Nat) : Int)) rfl rfl rfl (half_shr _)) rfl rfl rfl ?_; clear hf fa; intro fa hf
            refine sqv hf (r_conv (C := ((((s + u) / 2) : Nat) : Int)) rfl Try.underlying55 Try.underlying3 (by rw [IntKind.wrap_i64]; omega)) rfl rfl rfl ?_; clear hf fa; intro fa hf
            refine sqv hf (r_assign rfl) rfl rfl rfl ?_; clear hf fa; intro fa hf
            apply wpList_nil
            (try simp only [Exit.then, Exit.inBlock, ↓reduceIte, Nat.reduceEqDiff])
            refine hK40 _ _ ?_
            refine wp_seq_k (fun K41 hK41 => ?_)
            have hy13 := getD_at (l := l) (j := (((((p + q) / 2) + m - 1) - ((s + u) / 2)))) 0 (by first | omega | (simp only [Sl.list_length, List.length_set, List.length_take, List.length_append, List.length_replicate, List.length_cons, List.length_nil, List.length_map, nums_len]; omega))
            have hel13 := RdS.at (Row.rd (by intros; rfl) hr) hy13
            obtain ⟨_, _, hab, hlr13, hel13⟩ := hel13
            cases hab
            have hy14 := getD_at (l := l) (j := (((s + u) / 2))) 0 (by first | omega | (simp only [Sl.list_length, List.length_set, List.length_take, List.length_append, List.length_replicate, List.length_cons, List.length_nil, List.length_map, nums_len]; omega))
            have hel14 := RdS.at (Row.rd (by intros; rfl) hr) hy14
            obtain ⟨_, _, hab, hlr14, hel14⟩ := hel14
            cases hab
            refine wp_region_un (fun wq => Below w12.heap.size w12 wq) (fun w w' => Below w.heap.size w w')
              (fun V => [(fun x _ => x = (.func (.func 9) #[] #[])), (fun x _ => x = (.slice (some ⟨b, 0, none⟩) l.length c)), (fun x _ => x = (.int .i64 (((((p + q) / 2) + m - 1) : Nat) : Int))), (fun x _ => x = (.int .i64 ((((s + u) / 2) : Nat) : Int))), (fun x _ => x = (.int .i64 ((((((p + q) / 2) + m - 1) - ((s + u) / 2)) : Nat) : Int))), (fun x _ => x = (.pointer (some ⟨b, (0 + (((((p + q) / 2) + m - 1) - ((s + u) / 2))) * 1), none⟩))), (fun x _ => x = (.float .f64 (l.getD (((((p + q) / 2) + m - 1) - ((s + u) / 2))) 0))), (fun x _ => x = (.slice (some ⟨b, 0, none⟩) l.length c)), (fun x _ => x = (.int .i64 ((((s + u) / 2) : Nat) : Int))), (fun x _ => x = (.pointer (some ⟨b, (0 + (((s + u) / 2)) * 1), none⟩))), (fun x _ => x = (.float .f64 (l.getD (((s + u) / 2)) 0))), (fun x _ => x = (.int .i64 (ordN (l.getD (((((p + q) / 2) + m - 1) - ((s + u) / 2))) 0) (l.getD (((s + u) / 2)) 0)))), (fun x _ => x = (.bool (decide ((ordN (l.getD (((((p + q) / 2) + m - 1) - ((s + u) / 2))) 0) (l.getD (((s + u) / 2)) 0)) < (0 : Int))))), (fun x _ => x = (.bool (!(decide ((ordN (l.getD (((((p + q) / 2) + m - 1) - ((s + u) / 2))) 0) (l.getD (((s + u) / 2)) 0)) < (0 : Int))))))])
              []
              [[], [], [], [], [2, 3], [1, 4], [5], [], [], [7, 8], [9], [0, 6, 10], [11], [12]]
              hf (by kernel_rfl) (by kernel_rfl) (fun _ => rfl) ((Below.refl _ _).drew) (fun a b h1 h2 => h1.trans (h2.mono h1.size)) (fun _ _ h => h.size) (fun V => ⟨kept_eq, kept_eq, kept_eq, kept_eq, kept_eq, kept_eq, kept_eq, kept_eq, kept_eq, kept_eq, kept_eq, kept_eq, kept_eq, kept_eq, trivial⟩) (fun _ _ _ _ _ => rfl) ?_ ?_
            · skip
              intro V
              refine ⟨fun wu0 hC hd => ?_, ?_⟩
              · clear hd
                replace hb := hb.trans (hC.mono hb.size)
                replace hr := Row.ext hr hC
                exact Runs.does (r_move rfl) ⟨Below.refl _ _, rfl, nofr rfl⟩
              refine ⟨fun wu1 hC hd => ?_, ?_⟩
              · clear hd
                replace hb := hb.trans (hC.mono hb.size)
                replace hr := Row.ext hr hC
                exact Runs.does (r_move rfl) ⟨Below.refl _ _, rfl, nofr rfl⟩
              refine ⟨fun wu2 hC hd => ?_, ?_⟩
              · clear hd
                replace hb := hb.trans (hC.mono hb.size)
                replace hr := Row.ext hr hC
                exact Runs.does (r_move rfl) ⟨Below.refl _ _, rfl, nofr rfl⟩
              refine ⟨fun wu3 hC hd => ?_, ?_⟩
              · clear hd
                replace hb := hb.trans (hC.mono hb.size)
                replace hr := Row.ext hr hC
                exact Runs.does (r_move rfl) ⟨Below.refl _ _, rfl, nofr rfl⟩
              refine ⟨fun wu4 hC hd => ?_, ?_⟩
              · obtain ⟨h2, h3, _⟩ := hd
                skip
                skip
                replace h2 : V 2 = (.int .i64 (((((p + q) / 2) + m - 1) : Nat) : Int)) := h2
                replace h3 : V 3 = (.int .i64 ((((s + u) / 2) : Nat) : Int)) := h3
                replace hb := hb.trans (hC.mono hb.size)
                replace hr := Row.ext hr hC
                exact Runs.does (r_sub (C := ((((((p + q) / 2) + m - 1) - ((s + u) / 2)) : Nat) : Int)) (congrArg some h2) (congrArg some h3) (by rw [IntKind.wrap_i64]; omega)) ⟨Below.refl _ _, rfl, nofr rfl⟩
              refine ⟨fun wu5 hC hd => ?_, ?_⟩
              · obtain ⟨h1, h4, _⟩ := hd
                skip
                skip
                replace h1 : V 1 = (.slice (some ⟨b, 0, none⟩) l.length c) := h1
                replace h4 : V 4 = (.int .i64 ((((((p + q) / 2) + m - 1) - ((s + u) / 2)) : Nat) : Int)) := h4
                replace hb := hb.trans (hC.mono hb.size)
                replace hr := Row.ext hr hC
                exact Runs.does (r_ixa (sz := 1) (j := (((((p + q) / 2) + m - 1) - ((s + u) / 2)))) (congrArg some h1) (congrArg some h4) Try.underlying30 (by kernel_rfl) rfl (by omega) rfl) ⟨Below.refl _ _, rfl, nofr rfl⟩
              refine ⟨fun wu6 hC hd => ?_, ?_⟩
              · obtain ⟨h5, _⟩ := hd
                skip
                replace h5 : V 5 = (.pointer (some ⟨b, (0 + (((((p + q) / 2) + m - 1) - ((s + u) / 2))) * 1), none⟩)) := h5
                replace hb := hb.trans (hC.mono hb.size)
                replace hr := Row.ext hr hC
                exact Runs.does (r_load (v := (.float .f64 (l.getD (((((p + q) / 2) + m - 1) - ((s + u) / 2))) 0))) (congrArg some h5) Try.underlying22 rfl (cellsAt_cell (cellsAt_below hel13 hC hlr13) (i := 0) rfl rfl)) ⟨Below.refl _ _, rfl, nofr rfl⟩
              refine ⟨fun wu7 hC hd => ?_, ?_⟩
              · clear hd
                replace hb := hb.trans (hC.mono hb.size)
                replace hr := Row.ext hr hC
                exact Runs.does (r_move rfl) ⟨Below.refl _ _, rfl, nofr rfl⟩
              refine ⟨fun wu8 hC hd => ?_, ?_⟩
              · clear hd
                replace hb := hb.trans (hC.mono hb.size)
                replace hr := Row.ext hr hC
                exact Runs.does (r_move rfl) ⟨Below.refl _ _, rfl, nofr rfl⟩
              refine ⟨fun wu9 hC hd => ?_, ?_⟩
              · obtain ⟨h7, h8, _⟩ := hd
                skip
                skip
                replace h7 : V 7 = (.slice (some ⟨b, 0, none⟩) l.length c) := h7
                replace h8 : V 8 = (.int .i64 ((((s + u) / 2) : Nat) : Int)) := h8
                replace hb := hb.trans (hC.mono hb.size)
                replace hr := Row.ext hr hC
                exact Runs.does (r_ixa (sz := 1) (j := (((s + u) / 2))) (congrArg some h7) (congrArg some h8) Try.underlying30 (by kernel_rfl) rfl (by omega) rfl) ⟨Below.refl _ _, rfl, nofr rfl⟩
              refine ⟨fun wu10 hC hd => ?_, ?_⟩
              · obtain ⟨h9, _⟩ := hd
                skip
                replace h9 : V 9 = (.pointer (some ⟨b, (0 + (((s + u) / 2)) * 1), none⟩)) := h9
                replace hb := hb.trans (hC.mono hb.size)
                replace hr := Row.ext hr hC
                exact Runs.does (r_load (v := (.float .f64 (l.getD (((s + u) / 2)) 0))) (congrArg some h9) Try.underlying22 rfl (cellsAt_cell (cellsAt_below hel14 hC hlr14) (i := 0) rfl rfl)) ⟨Below.refl _ _, rfl, nofr rfl⟩
              refine ⟨fun wu11 hC hd => ?_, ?_⟩
              · obtain ⟨h0, h6, h10, _⟩ := hd
                skip
                skip
                skip
                replace h0 : V 0 = (.func (.func 9) #[] #[]) := h0
                replace h6 : V 6 = (.float .f64 (l.getD (((((p + q) / 2) + m - 1) - ((s + u) / 2))) 0)) := h6
                replace h10 : V 10 = (.float .f64 (l.getD (((s + u) / 2)) 0)) := h10
                replace hb := hb.trans (hC.mono hb.size)
                replace hr := Row.ext hr hC
                refine Does.mono (d_callFB (vs := [(.float .f64 (l.getD (((((p + q) / 2) + m - 1) - ((s + u) / 2))) 0)), (.float .f64 (l.getD (((s + u) / 2)) 0))]) (congrArg some h0) (show [some (V 6), some (V 10)] = [some (.float .f64 (l.getD (((((p + q) / 2) + m - 1) - ((s + u) / 2))) 0)), some (.float .f64 (l.getD (((s + u) / 2)) 0))] from by rw [h6, h10]) (enters Try.func9 (by kernel_rfl) (by kernel_rfl)) (order_any (l.getD (((((p + q) / 2) + m - 1) - ((s + u) / 2))) 0) (l.getD (((s + u) / 2)) 0) (allW_getD hW _) (allW_getD hW _) _)) (fun _ _ h => ⟨h.2, h.1, nofr rfl⟩)
              refine ⟨fun wu12 hC hd => ?_, ?_⟩
              · obtain ⟨h11, _⟩ := hd
                skip
                replace h11 : V 11 = (.int .i64 (ordN (l.getD (((((p + q) / 2) + m - 1) - ((s + u) / 2))) 0) (l.getD (((s + u) / 2)) 0))) := h11
                replace hb := hb.trans (hC.mono hb.size)
                replace hr := Row.ext hr hC
                exact Runs.does (r_lt (congrArg some h11) rfl) ⟨Below.refl _ _, rfl, nofr rfl⟩
              refine ⟨fun wu13 hC hd => ?_, ?_⟩
              · obtain ⟨h12, _⟩ := hd
                skip
                replace h12 : V 12 = (.bool (decide ((ordN (l.getD (((((p + q) / 2) + m - 1) - ((s + u) / 2))) 0) (l.getD (((s + u) / 2)) 0)) < (0 : Int)))) := h12
                replace hb := hb.trans (hC.mono hb.size)
                replace hr := Row.ext hr hC
                exact Runs.does (r_not (congrArg some h12)) ⟨Below.refl _ _, rfl, nofr rfl⟩
              trivial
            · skip
              clear hf fa; intro V w13 fa he5 hp hnb hf
              have hv0 : V 0 = (.func (.func 9) #[] #[]) := postsHold_at hp 0 rfl
              have hv1 : V 1 = (.slice (some ⟨b, 0, none⟩) l.length c) := postsHold_at hp 1 rfl
              have hv2 : V 2 = (.int .i64 (((((p + q) / 2) + m - 1) : Nat) : Int)) := postsHold_at hp 2 rfl
              have hv3 : V 3 = (.int .i64 ((((s + u) / 2) : Nat) : Int)) := postsHold_at hp 3 rfl
              have hv4 : V 4 = (.int .i64 ((((((p + q) / 2) + m - 1) - ((s + u) / 2)) : Nat) : Int)) := postsHold_at hp 4 rfl
              have hv5 : V 5 = (.pointer (some ⟨b, (0 + (((((p + q) / 2) + m - 1) - ((s + u) / 2))) * 1), none⟩)) := postsHold_at hp 5 rfl
              have hv6 : V 6 = (.float .f64 (l.getD (((((p + q) / 2) + m - 1) - ((s + u) / 2))) 0)) := postsHold_at hp 6 rfl
              have hv7 : V 7 = (.slice (some ⟨b, 0, none⟩) l.length c) := postsHold_at hp 7 rfl
              have hv8 : V 8 = (.int .i64 ((((s + u) / 2) : Nat) : Int)) := postsHold_at hp 8 rfl
              have hv9 : V 9 = (.pointer (some ⟨b, (0 + (((s + u) / 2)) * 1), none⟩)) := postsHold_at hp 9 rfl
              have hv10 : V 10 = (.float .f64 (l.getD (((s + u) / 2)) 0)) := postsHold_at hp 10 rfl
              have hv11 : V 11 = (.int .i64 (ordN (l.getD (((((p + q) / 2) + m - 1) - ((s + u) / 2))) 0) (l.getD (((s + u) / 2)) 0))) := postsHold_at hp 11 rfl
              have hv12 : V 12 = (.bool (decide ((ordN (l.getD (((((p + q) / 2) + m - 1) - ((s + u) / 2))) 0) (l.getD (((s + u) / 2)) 0)) < (0 : Int)))) := postsHold_at hp 12 rfl
              have hv13 : V 13 = (.bool (!(decide ((ordN (l.getD (((((p + q) / 2) + m - 1) - ((s + u) / 2))) 0) (l.getD (((s + u) / 2)) 0)) < (0 : Int))))) := postsHold_at hp 13 rfl
              simp only [List.take_succ_cons, List.take_zero, insAll, ins, hv0, hv1, hv2, hv3, hv4, hv5, hv6, hv7, hv8, hv9, hv10, hv11, hv12, hv13] at hf
              clear hp hnb hv0 hv1 hv2 hv3 hv4 hv5 hv6 hv7 hv8 hv9 hv10 hv11 hv12 hv13
              replace hr := Row.ext hr he5
              replace hb := hb.trans (Below.mono he5 hb.size)
              (try simp only [Exit.then, Exit.inBlock, ↓reduceIte, Nat.reduceEqDiff])
              refine hK41 _ _ ?_
              refine wp_cond_split (t := (!(decide ((ordN (l.getD (((((p + q) / 2) + m - 1) - ((s + u) / 2))) 0) (l.getD (((s + u) / 2)) 0)) < (0 : Int))))) (hf.ev rfl) (fun hqt171_1 => ?_) (fun hqt171_1 => ?_)
              · have hqt171_1b := hqt171_1
                try simp only [decide_eq_true_eq, Bool.and_eq_true, Bool.or_eq_true, Bool.not_eq_true', decide_eq_false_iff_not, ne_eq, Bool.not_eq_true] at hqt171_1
                refine wp_region_lit ?_
                refine sqv hf (r_move rfl) rfl rfl rfl ?_; clear hf fa; intro fa hf
                refine sqv hf (r_add (C := (((((s + u) / 2) + 1) : Nat) : Int)) rfl rfl (by rw [IntKind.wrap_i64]; omega)) rfl rfl rfl ?_; clear hf fa; intro fa hf
                refine sqv hf (r_assign rfl) rfl rfl rfl ?_; clear hf fa; intro fa hf
                apply wpList_nil
                (try simp only [Exit.then, Exit.inBlock, ↓reduceIte, Nat.reduceEqDiff])
                refine hKL5 _ _ _ (by omega) ⟨(((s + u) / 2) + 1), u, rfl, hf.sub ⟨rfl, rfl, rfl, rfl, rfl, rfl, rfl, rfl, rfl, rfl, trivial⟩, hb, hr, (by omega), (by omega), (by omega), (fun x h1 h2 => by have hx := hqt171_1; rw [ord_kk] at hx; have a1 := hsl x ((s + u) / 2) (by omega) (by omega) (by omega); have a2 := hsr ((((p + q) / 2) + m - 1) - ((s + u) / 2)) ((((p + q) / 2) + m - 1) - x) (by omega) (by omega) (by omega); omega), hhi⟩
              · have hqt171_1b := hqt171_1
                replace hqt171_1 := Bool.eq_false_iff.1 hqt171_1
                try simp only [ne_eq, decide_eq_true_eq, Bool.and_eq_true, Bool.or_eq_true, Bool.not_eq_true', decide_eq_false_iff_not] at hqt171_1
                refine wp_region_lit ?_
                refine sqv hf (r_move rfl) rfl rfl rfl ?_; clear hf fa; intro fa hf
                refine sqv hf (r_assign rfl) rfl rfl rfl ?_; clear hf fa; intro fa hf
                apply wpList_nil
                (try simp only [Exit.then, Exit.inBlock, ↓reduceIte, Nat.reduceEqDiff])
                refine hKL5 _ _ _ (by omega) ⟨s, ((s + u) / 2), rfl, hf.sub ⟨rfl, rfl, rfl, rfl, rfl, rfl, rfl, rfl, rfl, rfl, trivial⟩, hb, hr, (by omega), (by omega), (by omega), hlo, (fun x h1 h2 => by have hx := hqt171_1; simp only [Decidable.not_not] at hx; rw [ord_kk] at hx; have a1 := hsl ((s + u) / 2) x (by omega) (by omega) (by omega); have a2 := hsr ((((p + q) / 2) + m - 1) - x) ((((p + q) / 2) + m - 1) - ((s + u) / 2)) (by omega) (by omega) (by omega); omega)⟩
          · have hqt151_1b := hqt151_1
            replace hqt151_1 := Bool.eq_false_iff.1 hqt151_1
            try simp only [ne_eq, decide_eq_true_eq, Bool.and_eq_true, Bool.or_eq_true, Bool.not_eq_true', decide_eq_false_iff_not] at hqt151_1
            refine wp_exit ?_
            (try simp only [Exit.then, Exit.inBlock, ↓reduceIte, Nat.reduceEqDiff])
            refine hK37 _ _ ?_
            refine wp_seq_k (fun K42 hK42 => ?_)
            refine wp_region_lit ?_
            refine sqv hf (r_move rfl) rfl rfl rfl ?_; clear hf fa; intro fa hf
            refine sqv hf (r_move rfl) rfl rfl rfl ?_; clear hf fa; intro fa hf
            refine sqv hf (r_sub (C := (((((p + q) / 2) + m - s) : Nat) : Int)) rfl rfl (by rw [IntKind.wrap_i64]; omega)) rfl rfl rfl ?_; clear hf fa; intro fa hf
            refine sqv hf (r_assign rfl) rfl rfl rfl ?_; clear hf fa; intro fa hf
            apply wpList_nil
            (try simp only [Exit.then, Exit.inBlock, ↓reduceIte, Nat.reduceEqDiff])
            refine hK42 _ _ ?_
            refine wp_cut_k (fun fa wr => ∃ (s : Nat) (cur : List Nat), Fr 220 fa [(0, (.slice (some ⟨b, 0, none⟩) l.length c)), (1, (.int .i64 ((p : Nat) : Int))), (2, (.int .i64 ((m : Nat) : Int))), (3, (.int .i64 ((q : Nat) : Int))), (4, (.func (.func 9) #[] #[])), (18, (.int .i64 ((((p + q) / 2) : Nat) : Int))), (20, (.int .i64 ((s : Nat) : Int))), (24, (.int .i64 (((((p + q) / 2) + m - s) : Nat) : Int)))] ∧ Below w0.heap.size w0 wr ∧ Row 1 vFlt 22 (w0.heap.size) wr (.slice (some ⟨b, 0, none⟩) (l.length) c) cur ∧ (p ≤ s) ∧ (s ≤ ((p + q) / 2)) ∧ (s ≤ m) ∧ ((((p + q) / 2) + m - s) ≤ q) ∧ (MidR p s ((p + q) / 2) (((p + q) / 2) + m - s) q l cur)) (fun KC2 hKC2 => ?_) ?_
            · skip
              refine wp_seq_k (fun K44 hK44 => ?_)
              refine wp_region_lit ?_
              refine sqv hf (r_move rfl) rfl rfl rfl ?_; clear hf fa; intro fa hf
              refine sqv hf (r_move rfl) rfl rfl rfl ?_; clear hf fa; intro fa hf
              refine sqv hf (r_lt rfl rfl) rfl rfl rfl ?_; clear hf fa; intro fa hf
              refine sqv hf (r_move rfl) rfl rfl rfl ?_; clear hf fa; intro fa hf
              refine sqgT (act := (decide (((s : Nat) : Int) < ((m : Nat) : Int)))) (ag := true) (c := (decide (((s : Nat) : Int) < ((m : Nat) : Int)))) (v := (.int .i64 ((m : Nat) : Int))) hf rfl rfl rfl (fun hact => (r_move rfl)) rfl rfl ?_; clear hf fa; intro fa hf
              refine sqgT (act := (decide (((s : Nat) : Int) < ((m : Nat) : Int)))) (ag := true) (c := (decide (((s : Nat) : Int) < ((m : Nat) : Int)))) (v := (.int .i64 (((((p + q) / 2) + m - s) : Nat) : Int))) hf rfl rfl rfl (fun hact => (r_move rfl)) rfl rfl ?_; clear hf fa; intro fa hf
              refine sqgT (act := (decide (((s : Nat) : Int) < ((m : Nat) : Int)))) (ag := true) (c := (decide (((s : Nat) : Int) < ((m : Nat) : Int)))) (v := (.bool (decide (((m : Nat) : Int) < (((((p + q) / 2) + m - s) : Nat) : Int))))) hf rfl rfl rfl (fun hact => (r_lt (gb_ev hact rfl) (gb_ev hact rfl))) rfl rfl ?_; clear hf fa; intro fa hf
              refine sqv hf (r_pickA (b := (decide (((s : Nat) : Int) < ((m : Nat) : Int)))) (e := (decide (((m : Nat) : Int) < (((((p + q) / 2) + m - s) : Nat) : Int)))) rfl rfl rfl) rfl rfl rfl ?_; clear hf fa; intro fa hf
              apply wpList_nil
              (try simp only [Exit.then, Exit.inBlock, ↓reduceIte, Nat.reduceEqDiff])
              refine hK44 _ _ ?_
              refine wp_cond_split (t := ((decide (((s : Nat) : Int) < ((m : Nat) : Int))) && (decide (((m : Nat) : Int) < (((((p + q) / 2) + m - s) : Nat) : Int))))) (hf.ev rfl) (fun hqt185_1 => ?_) (fun hqt185_1 => ?_)
              · have hqt185_1b := hqt185_1
                try simp only [decide_eq_true_eq, Bool.and_eq_true, Bool.or_eq_true, Bool.not_eq_true', decide_eq_false_iff_not, ne_eq, Bool.not_eq_true] at hqt185_1
                refine wp_region_lit ?_
                refine sqv hf (r_move rfl) rfl rfl rfl ?_; clear hf fa; intro fa hf
                refine sqv hf (r_move rfl) rfl rfl rfl ?_; clear hf fa; intro fa hf
                refine sqv hf (r_move rfl) rfl rfl rfl ?_; clear hf fa; intro fa hf
                refine sqv hf (r_move rfl) rfl rfl rfl ?_; clear hf fa; intro fa hf
                refine sqv hf (r_move rfl) rfl rfl rfl ?_; clear hf fa; intro fa hf
                refine sqdt hf (d_callX (R := fun vz wz => vz = .tuple #[] ∧ ∃ l' : List Nat, Row 1 vFlt 22 w0.heap.size wz (.slice (some ⟨b, 0, none⟩) l.length c) l' ∧ Via (rot s m ((((p + q) / 2) + m - s))) l l' ∧ Below w0.heap.size w0 wz) (vs := [(.slice (some ⟨b, 0, none⟩) l.length c), (.int .i64 ((s : Nat) : Int)), (.int .i64 ((m : Nat) : Int)), (.int .i64 (((((p + q) / 2) + m - s) : Nat) : Int)), (.func (.func 9) #[] #[])]) rfl Try.func41 (by kernel_rfl) (by kernel_rfl) (Calls.mono (rot_cur b c l l rfl s m ((((p + q) / 2) + m - s)) (by omega) (by omega) (by omega) (by omega) w0 _ hb hr hW) (fun e w2 h => ⟨_, h.1, rfl, h.2⟩))) rfl rfl rfl ?_; clear hf fa; rintro fa _ w14 ⟨rfl, lv1, hr5, hv1, hb1⟩ hf
                clear hb hr
                have hb := hb1
                clear hb1
                apply wpList_nil
                (try simp only [Exit.then, Exit.inBlock, ↓reduceIte, Nat.reduceEqDiff])
                exact hKC2 _ _ ⟨s, lv1, hf.sub ⟨rfl, rfl, rfl, rfl, rfl, rfl, rfl, rfl, trivial⟩, hb, hr5, (by omega), (by omega), (by omega), (by omega), (merge_mid hpm hmq g1 g3 g4 g5 g6 g7 (by omega) (by omega) (by omega) hsl hsr hlo (fun c h1 h2 => hhi c (by omega) h2) hv1)⟩
              · have hqt185_1b := hqt185_1
                replace hqt185_1 := Bool.eq_false_iff.1 hqt185_1
                try simp only [ne_eq, decide_eq_true_eq, Bool.and_eq_true, Bool.or_eq_true, Bool.not_eq_true', decide_eq_false_iff_not] at hqt185_1
                refine wp_skip ?_
                (try simp only [Exit.then, Exit.inBlock, ↓reduceIte, Nat.reduceEqDiff])
                exact hKC2 _ _ ⟨s, l, hf.sub ⟨rfl, rfl, rfl, rfl, rfl, rfl, rfl, rfl, trivial⟩, hb, hr, (by omega), (by omega), (by omega), (by omega), (merge_mid hpm hmq g1 g3 g4 g5 g6 g7 (by omega) (by omega) (by omega) hsl hsr hlo (fun c h1 h2 => hhi c (by omega) h2) ((Via.refl l).congr (fun k => (rot_id (by omega) (by omega) (by omega) k).symm)))⟩
            · clear hf hb fa hr
              rintro fa w15 ⟨s, cur, hf, hb, hr, e1, e2, e3, e4, hM⟩
              have hcr := Row.caps hr
              have hcl := hM.mg.len
              refine wp_cut_k (fun fa wr => ∃ (s : Nat) (cur : List Nat) (cur2 : List Nat), Fr 220 fa [(0, (.slice (some ⟨b, 0, none⟩) l.length c)), (1, (.int .i64 ((p : Nat) : Int))), (2, (.int .i64 ((m : Nat) : Int))), (3, (.int .i64 ((q : Nat) : Int))), (4, (.func (.func 9) #[] #[])), (18, (.int .i64 ((((p + q) / 2) : Nat) : Int))), (24, (.int .i64 (((((p + q) / 2) + m - s) : Nat) : Int)))] ∧ Below w0.heap.size w0 wr ∧ Row 1 vFlt 22 (w0.heap.size) wr (.slice (some ⟨b, 0, none⟩) (l.length) c) cur2 ∧ (p ≤ s) ∧ (s ≤ ((p + q) / 2)) ∧ (s ≤ m) ∧ ((((p + q) / 2) + m - s) ≤ q) ∧ (MidR p s ((p + q) / 2) (((p + q) / 2) + m - s) q l cur) ∧ (MG p ((p + q) / 2) cur cur2) ∧ (Srt cur2 p ((p + q) / 2))) (fun KC3 hKC3 => ?_) ?_
              · skip
                refine wp_seq_k (fun K46 hK46 => ?_)
                refine wp_region_lit ?_
                refine sqv hf (r_move rfl) rfl rfl rfl ?_; clear hf fa; intro fa hf
                refine sqv hf (r_move rfl) rfl rfl rfl ?_; clear hf fa; intro fa hf
                refine sqv hf (r_lt rfl rfl) rfl rfl rfl ?_; clear hf fa; intro fa hf
                refine sqv hf (r_move rfl) rfl rfl rfl ?_; clear hf fa; intro fa hf
                refine sqgT (act := (decide (((p : Nat) : Int) < ((s : Nat) : Int)))) (ag := true) (c := (decide (((p : Nat) : Int) < ((s : Nat) : Int)))) (v := (.int .i64 ((s : Nat) : Int))) hf rfl rfl rfl (fun hact => (r_move rfl)) rfl rfl ?_; clear hf fa; intro fa hf
                refine sqgT (act := (decide (((p : Nat) : Int) < ((s : Nat) : Int)))) (ag := true) (c := (decide (((p : Nat) : Int) < ((s : Nat) : Int)))) (v := (.int .i64 ((((p + q) / 2) : Nat) : Int))) hf rfl rfl rfl (fun hact => (r_move rfl)) rfl rfl ?_; clear hf fa; intro fa hf
                refine sqgT (act := (decide (((p : Nat) : Int) < ((s : Nat) : Int)))) (ag := true) (c := (decide (((p : Nat) : Int) < ((s : Nat) : Int)))) (v := (.bool (decide (((s : Nat) : Int) < ((((p + q) / 2) : Nat) : Int))))) hf rfl rfl rfl (fun hact => (r_lt (gb_ev hact rfl) (gb_ev hact rfl))) rfl rfl ?_; clear hf fa; intro fa hf
                refine sqv hf (r_pickA (b := (decide (((p : Nat) : Int) < ((s : Nat) : Int)))) (e := (decide (((s : Nat) : Int) < ((((p + q) / 2) : Nat) : Int)))) rfl rfl rfl) rfl rfl rfl ?_; clear hf fa; intro fa hf
                apply wpList_nil
                (try simp only [Exit.then, Exit.inBlock, ↓reduceIte, Nat.reduceEqDiff])
                refine hK46 _ _ ?_
                refine wp_cond_split (t := ((decide (((p : Nat) : Int) < ((s : Nat) : Int))) && (decide (((s : Nat) : Int) < ((((p + q) / 2) : Nat) : Int))))) (hf.ev rfl) (fun hqt199_1 => ?_) (fun hqt199_1 => ?_)
                · have hqt199_1b := hqt199_1
                  try simp only [decide_eq_true_eq, Bool.and_eq_true, Bool.or_eq_true, Bool.not_eq_true', decide_eq_false_iff_not, ne_eq, Bool.not_eq_true] at hqt199_1
                  refine wp_region_lit ?_
                  refine sqv hf (r_move rfl) rfl rfl rfl ?_; clear hf fa; intro fa hf
                  refine sqv hf (r_move rfl) rfl rfl rfl ?_; clear hf fa; intro fa hf
                  refine sqv hf (r_move rfl) rfl rfl rfl ?_; clear hf fa; intro fa hf
                  refine sqv hf (r_move rfl) rfl rfl rfl ?_; clear hf fa; intro fa hf
                  refine sqv hf (r_move rfl) rfl rfl rfl ?_; clear hf fa; intro fa hf
                  refine sqdt hf (d_callX (R := fun vz wz => vz = .tuple #[] ∧ ∃ l' : List Nat, Row 1 vFlt 22 w0.heap.size wz (.slice (some ⟨b, 0, none⟩) l.length c) l' ∧ (MG p (((p + q) / 2)) cur l' ∧ Srt l' p (((p + q) / 2))) ∧ Below w0.heap.size w0 wz) (vs := [(.slice (some ⟨b, 0, none⟩) l.length c), (.int .i64 ((p : Nat) : Int)), (.int .i64 ((s : Nat) : Int)), (.int .i64 ((((p + q) / 2) : Nat) : Int)), (.func (.func 9) #[] #[])]) rfl Try.func39 (by kernel_rfl) (by kernel_rfl) (Calls.mono (IH b c l.length cur hcl p s (((p + q) / 2)) (by omega) (by omega) (by omega) (by omega) (by omega) hM.s1 hM.s2 w0 _ hb hr (hM.mg.allW hW)) (fun e w2 h => ⟨_, h.1, rfl, h.2⟩))) rfl rfl rfl ?_; clear hf fa; rintro fa _ w16 ⟨rfl, lv2, hr6, hv2, hb2⟩ hf
                  clear hb hr
                  have hb := hb2
                  clear hb2
                  apply wpList_nil
                  (try simp only [Exit.then, Exit.inBlock, ↓reduceIte, Nat.reduceEqDiff])
                  exact hKC3 _ _ ⟨s, cur, lv2, hf.sub ⟨rfl, rfl, rfl, rfl, rfl, rfl, rfl, trivial⟩, hb, hr6, e1, e2, e3, e4, hM, hv2.1, hv2.2⟩
                · have hqt199_1b := hqt199_1
                  replace hqt199_1 := Bool.eq_false_iff.1 hqt199_1
                  try simp only [ne_eq, decide_eq_true_eq, Bool.and_eq_true, Bool.or_eq_true, Bool.not_eq_true', decide_eq_false_iff_not] at hqt199_1
                  refine wp_skip ?_
                  (try simp only [Exit.then, Exit.inBlock, ↓reduceIte, Nat.reduceEqDiff])
                  exact hKC3 _ _ ⟨s, cur, cur, hf.sub ⟨rfl, rfl, rfl, rfl, rfl, rfl, rfl, trivial⟩, hb, hr, e1, e2, e3, e4, hM, (MG.refl _ _ _), (hM.left (by omega) e1 e2)⟩
              · clear hf hb fa hr
                rintro fa w17 ⟨s, cur, cur2, hf, hb, hr, e1, e2, e3, e4, hM, hm2, hs2⟩
                have hcr := Row.caps hr
                have hcl := hM.mg.len
                have hcl2 := hm2.len
                refine wp_seq_k (fun K47 hK47 => ?_)
                refine wp_region_lit ?_
                refine sqv hf (r_move rfl) rfl rfl rfl ?_; clear hf fa; intro fa hf
                refine sqv hf (r_move rfl) rfl rfl rfl ?_; clear hf fa; intro fa hf
                refine sqv hf (r_lt rfl rfl) rfl rfl rfl ?_; clear hf fa; intro fa hf
                refine sqv hf (r_move rfl) rfl rfl rfl ?_; clear hf fa; intro fa hf
                refine sqgT (act := (decide (((((p + q) / 2) : Nat) : Int) < (((((p + q) / 2) + m - s) : Nat) : Int)))) (ag := true) (c := (decide (((((p + q) / 2) : Nat) : Int) < (((((p + q) / 2) + m - s) : Nat) : Int)))) (v := (.int .i64 (((((p + q) / 2) + m - s) : Nat) : Int))) hf rfl rfl rfl (fun hact => (r_move rfl)) rfl rfl ?_; clear hf fa; intro fa hf
                refine sqgT (act := (decide (((((p + q) / 2) : Nat) : Int) < (((((p + q) / 2) + m - s) : Nat) : Int)))) (ag := true) (c := (decide (((((p + q) / 2) : Nat) : Int) < (((((p + q) / 2) + m - s) : Nat) : Int)))) (v := (.int .i64 ((q : Nat) : Int))) hf rfl rfl rfl (fun hact => (r_move rfl)) rfl rfl ?_; clear hf fa; intro fa hf
                refine sqgT (act := (decide (((((p + q) / 2) : Nat) : Int) < (((((p + q) / 2) + m - s) : Nat) : Int)))) (ag := true) (c := (decide (((((p + q) / 2) : Nat) : Int) < (((((p + q) / 2) + m - s) : Nat) : Int)))) (v := (.bool (decide ((((((p + q) / 2) + m - s) : Nat) : Int) < ((q : Nat) : Int))))) hf rfl rfl rfl (fun hact => (r_lt (gb_ev hact rfl) (gb_ev hact rfl))) rfl rfl ?_; clear hf fa; intro fa hf
                refine sqv hf (r_pickA (b := (decide (((((p + q) / 2) : Nat) : Int) < (((((p + q) / 2) + m - s) : Nat) : Int)))) (e := (decide ((((((p + q) / 2) + m - s) : Nat) : Int) < ((q : Nat) : Int)))) rfl rfl rfl) rfl rfl rfl ?_; clear hf fa; intro fa hf
                apply wpList_nil
                (try simp only [Exit.then, Exit.inBlock, ↓reduceIte, Nat.reduceEqDiff])
                refine hK47 _ _ ?_
                refine wp_cond_split (t := ((decide (((((p + q) / 2) : Nat) : Int) < (((((p + q) / 2) + m - s) : Nat) : Int))) && (decide ((((((p + q) / 2) + m - s) : Nat) : Int) < ((q : Nat) : Int))))) (hf.ev rfl) (fun hqt213_1 => ?_) (fun hqt213_1 => ?_)
                · have hqt213_1b := hqt213_1
                  try simp only [decide_eq_true_eq, Bool.and_eq_true, Bool.or_eq_true, Bool.not_eq_true', decide_eq_false_iff_not, ne_eq, Bool.not_eq_true] at hqt213_1
                  refine wp_region_lit ?_
                  refine sqv hf (r_move rfl) rfl rfl rfl ?_; clear hf fa; intro fa hf
                  refine sqv hf (r_move rfl) rfl rfl rfl ?_; clear hf fa; intro fa hf
                  refine sqv hf (r_move rfl) rfl rfl rfl ?_; clear hf fa; intro fa hf
                  refine sqv hf (r_move rfl) rfl rfl rfl ?_; clear hf fa; intro fa hf
                  refine sqv hf (r_move rfl) rfl rfl rfl ?_; clear hf fa; intro fa hf
                  refine sqdt hf (d_callX (R := fun vz wz => vz = .tuple #[] ∧ ∃ l' : List Nat, Row 1 vFlt 22 w0.heap.size wz (.slice (some ⟨b, 0, none⟩) l.length c) l' ∧ (MG (((p + q) / 2)) q cur2 l' ∧ Srt l' (((p + q) / 2)) q) ∧ Below w0.heap.size w0 wz) (vs := [(.slice (some ⟨b, 0, none⟩) l.length c), (.int .i64 ((((p + q) / 2) : Nat) : Int)), (.int .i64 (((((p + q) / 2) + m - s) : Nat) : Int)), (.int .i64 ((q : Nat) : Int)), (.func (.func 9) #[] #[])]) rfl Try.func39 (by kernel_rfl) (by kernel_rfl) (Calls.mono (IH b c l.length cur2 (by omega) (((p + q) / 2)) ((((p + q) / 2) + m - s)) q (by omega) (by omega) (by omega) (by omega) (by omega) (hm2.srt hM.s3 (.inr (Nat.le_refl _))) (hm2.srt hM.s4 (.inr (by omega))) w0 _ hb hr (hm2.allW (hM.mg.allW hW))) (fun e w2 h => ⟨_, h.1, rfl, h.2⟩))) rfl rfl rfl ?_; clear hf fa; rintro fa _ w18 ⟨rfl, lv3, hr7, hv3, hb3⟩ hf
                  clear hb hr
                  have hb := hb3
                  clear hb3
                  apply wpList_nil
                  (try simp only [Exit.then, Exit.inBlock, ↓reduceIte, Nat.reduceEqDiff])
                  refine end0 hf rfl ?_
                  exact ⟨rfl, _, hr7, (merge_end hM (by omega) (by omega) hm2 hs2 hv3.1 hv3.2), hb⟩
                · have hqt213_1b := hqt213_1
                  replace hqt213_1 := Bool.eq_false_iff.1 hqt213_1
                  try simp only [ne_eq, decide_eq_true_eq, Bool.and_eq_true, Bool.or_eq_true, Bool.not_eq_true', decide_eq_false_iff_not] at hqt213_1
                  refine wp_skip ?_
                  (try simp only [Exit.then, Exit.inBlock, ↓reduceIte, Nat.reduceEqDiff])
                  refine end0 hf rfl ?_
                  exact ⟨rfl, _, hr, (merge_end hM (by omega) (by omega) hm2 hs2 (MG.refl _ _ _) (hm2.srt (hM.right (by omega) (by omega) e4) (.inr (Nat.le_refl _)))), hb⟩

theorem symm_any : ∀ N, SymOK N
  | 0 => fun b c n l hn p m q hN hpm hmq => by omega
  | N + 1 => fun b c n l hn p m q hN hpm hmq hq hl hsl hsr w0 w hb hR hW => by
    subst hn
    exact symm_step N (symm_any N) b c l p m q hN hpm hmq hq hl hsl hsr w0 w hb hR hW
end Go.Proofs.Ytbllifhcfgjdlaa
