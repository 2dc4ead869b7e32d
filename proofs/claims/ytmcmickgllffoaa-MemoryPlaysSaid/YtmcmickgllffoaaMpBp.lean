/- What is proved here: a memory: Sum of the reference, width, Load, Place. -/
import Derived.Test.YtmcmickgllffoaaMpAp
namespace Go.Proofs.Ytmcmickgllffoaa
open Go.RowKit
set_option linter.unusedVariables false
set_option linter.unusedSimpArgs false
def nIn (l : List MCe) (a : Int) : Bool := l.all (fun c => decide (c.1 ≠ a))
theorem nIn_take {D : List MCe} {m : Nat} {z : MCe} (h : D[m]? = some z) (a : Int) : nIn (D.take (m + 1)) a = (nIn (D.take m) a && decide (z.1 ≠ a)) := by
  unfold nIn
  rw [List.take_add_one, h, List.all_append]
  simp
def cP (y : MCe) : Int := y.2 * (y.1 + 1)
theorem cP_ok {y : MCe} (h1 : 0 ≤ y.1 ∧ y.1 < 16777216) (h2 : 0 ≤ y.2 ∧ y.2 < 256) : 0 ≤ cP y ∧ cP y < 4294967296 := by
  unfold cP
  refine ⟨Int.mul_nonneg h2.1 (by omega), ?_⟩
  have h3 : y.2 * (y.1 + 1) ≤ 255 * (y.1 + 1) := Int.mul_le_mul_of_nonneg_right (by omega) (by omega)
  omega
/-- The reference's sum of the first k cells: of each place the last one. -/
def sumG (C : List MCe) : Nat → Int
  | 0 => 0
  | i + 1 => if nIn (C.drop (i + 1)) (C.getD i zCe).1 = true then (sumG C i + cP (C.getD i zCe)) % 18446744073709551616 else sumG C i
theorem sumG_ok (C : List MCe) (h : ∀ c ∈ C, (0 ≤ c.1 ∧ c.1 < 16777216) ∧ (0 ≤ c.2 ∧ c.2 < 256)) : ∀ i, 0 ≤ sumG C i ∧ sumG C i < 18446744073709551616
  | 0 => by unfold sumG; omega
  | i + 1 => by
    have := sumG_ok C h i
    unfold sumG
    split <;> omega

set_option maxHeartbeats 1000000 in
set_option maxRecDepth 100000 in
theorem rsum26 (ln : Nat) (mo : Int) (ca : Option Addr) (C : List MCe) (cc : Nat) (w : World) (hC : RdS 2 vCe w ca C) (hln : ln ≤ 16777216) (hCl : C.length ≤ 1000000) (hCr : ∀ c ∈ C, (0 ≤ c.1 ∧ c.1 < 16777216) ∧ (0 ≤ c.2 ∧ c.2 < 256)) : Calls Try.prog 63 #[(.agg #[(.int .i64 ((ln : Nat) : Int)), (.int .i64 mo), (.slice ca C.length cc)])] w fun e w' => e = .returned (.int .u64 (sumG C C.length)) ∧ Below w.heap.size w w' := by
  refine sx_enter (L := [(0, (.agg #[(.int .i64 ((ln : Nat) : Int)), (.int .i64 mo), (.slice ca C.length cc)]))]) Try.func63 rfl rfl rfl rfl (fun fa hf => ?_)
  have hb : Below w.heap.size w w := Below.refl _ _
  refine wp_seq_k (fun K1 hK1 => ?_)
  refine wp_region_lit ?_
  refine sqdt hf (d_box (cs := #[(.int .i64 ((ln : Nat) : Int)), (.int .i64 mo), (.slice ca C.length cc)]) rfl rfl) rfl rfl rfl ?_; clear hf fa; rintro fa _ w1 ⟨b1, rfl, hle1, hk1, he1⟩ hf
  have hBb1 : w.heap.size ≤ b1 := Nat.le_trans hb.size hle1
  replace hb := hb.trans (Below.mono he1 hb.size)
  refine sqv hf (r_assign rfl) rfl rfl rfl ?_; clear hf fa; intro fa hf
  apply wpList_nil
  (try simp only [Exit.then, Exit.inBlock, ↓reduceIte, Nat.reduceEqDiff])
  refine hK1 _ _ ?_
  refine wp_seq_k (fun K2 hK2 => ?_)
  refine wp_region_lit ?_
  refine sqv hf (r_assign rfl) rfl rfl rfl ?_; clear hf fa; intro fa hf
  apply wpList_nil
  (try simp only [Exit.then, Exit.inBlock, ↓reduceIte, Nat.reduceEqDiff])
  refine hK2 _ _ ?_
  refine wp_seq_k (fun K3 hK3 => ?_)
  refine wp_seq_k (fun K4 hK4 => ?_)
  refine wp_region_lit ?_
  refine sqv hf (r_assign rfl) rfl rfl rfl ?_; clear hf fa; intro fa hf
  apply wpList_nil
  (try simp only [Exit.then, Exit.inBlock, ↓reduceIte, Nat.reduceEqDiff])
  refine hK4 _ _ ?_
  refine wp_block ?_
  refine wp_loop_k (fun mq fa wr => ∃ (i : Nat), mq = C.length - i ∧ Fr 59 fa [(1, (.pointer (some ⟨b1, 0, none⟩))), (3, (.int .u64 ((sumG C i)))), (4, (.int .i64 ((i : Nat) : Int)))] ∧ Below w.heap.size w wr ∧ wr.heap[b1]? = some (.cells #[(.int .i64 ((ln : Nat) : Int)), (.int .i64 mo), (.slice ca C.length cc)] 111 (0, 0)) ∧ (i ≤ C.length)) ?_ ?_
  · skip
    exact ⟨_, 0, rfl, hf.sub ⟨rfl, (some_int (by first | rfl | omega)), (some_int (by first | rfl | omega)), trivial⟩, hb, hk1, by omega⟩
  · skip
    clear hf fa; intro mq1 fa w2 hI KL1 hKL1
    clear hb
    clear hk1
    obtain ⟨i, hmq1, hf, hb, hkb1, hi⟩ := hI
    have hsg := sumG_ok C hCr i
    refine wp_seq_k (fun K5 hK5 => ?_)
    refine wp_seq_k (fun K6 hK6 => ?_)
    refine wp_region_lit ?_
    refine sqv hf (r_move rfl) rfl rfl rfl ?_; clear hf fa; intro fa hf
    refine sqv hf (r_fa rfl Try.underlying111 (f := 2) (q := 2) rfl (by kernel_rfl) rfl) rfl rfl rfl ?_; clear hf fa; intro fa hf
    refine sqv hf (r_load (v := (.slice ca C.length cc)) rfl Try.underlying109 rfl (cell_blk hkb1 rfl)) rfl rfl rfl ?_; clear hf fa; intro fa hf
    refine sqv hf (r_lensl rfl Try.underlying109) rfl rfl rfl ?_; clear hf fa; intro fa hf
    refine sqv hf (r_lt rfl rfl) rfl rfl rfl ?_; clear hf fa; intro fa hf
    apply wpList_nil
    (try simp only [Exit.then, Exit.inBlock, ↓reduceIte, Nat.reduceEqDiff])
    refine hK6 _ _ ?_
    refine wp_cond_split (t := (decide (((i : Nat) : Int) < ((C.length : Nat) : Int)))) (hf.ev rfl) (fun hqt11_1 => ?_) (fun hqt11_1 => ?_)
    · have hqt11_1b := hqt11_1
      try simp only [decide_eq_true_eq, Bool.and_eq_true, Bool.or_eq_true, Bool.not_eq_true', decide_eq_false_iff_not, ne_eq, Bool.not_eq_true] at hqt11_1
      refine wp_skip ?_
      (try simp only [Exit.then, Exit.inBlock, ↓reduceIte, Nat.reduceEqDiff])
      refine hK5 _ _ ?_
      refine wp_seq_k (fun K7 hK7 => ?_)
      refine wp_block ?_
      refine wp_seq_k (fun K8 hK8 => ?_)
      obtain ⟨y, hy⟩ : ∃ x, C[i]? = some x := ⟨_, List.getElem?_eq_getElem (by omega)⟩
      have hyr := hCr y (List.mem_of_getElem? hy)
      have hcp := cP_ok hyr.1 hyr.2
      refine wp_region_lit ?_
      refine sqv hf (r_assign rfl) rfl rfl rfl ?_; clear hf fa; intro fa hf
      apply wpList_nil
      (try simp only [Exit.then, Exit.inBlock, ↓reduceIte, Nat.reduceEqDiff])
      refine hK8 _ _ ?_
      refine wp_seq_k (fun K9 hK9 => ?_)
      refine wp_seq_k (fun K10 hK10 => ?_)
      refine wp_region_lit ?_
      refine sqv hf (r_move rfl) rfl rfl rfl ?_; clear hf fa; intro fa hf
      refine sqv hf (r_add (C := (((i : Nat) : Int) + (1 : Int))) rfl rfl (by rw [IntKind.wrap_i64]; omega)) rfl rfl rfl ?_; clear hf fa; intro fa hf
      refine sqv hf (r_assign rfl) rfl rfl rfl ?_; clear hf fa; intro fa hf
      apply wpList_nil
      (try simp only [Exit.then, Exit.inBlock, ↓reduceIte, Nat.reduceEqDiff])
      refine hK10 _ _ ?_
      refine wp_block ?_
      refine wp_loop_k (fun mq fa wr => ∃ (m : Nat) (lb : Bool), mq = C.length - (i + 1 + m) ∧ Fr 59 fa [(1, (.pointer (some ⟨b1, 0, none⟩))), (3, (.int .u64 ((sumG C i)))), (4, (.int .i64 ((i : Nat) : Int))), (5, (.bool lb)), (6, (.int .i64 (((i + 1 + m) : Nat) : Int)))] ∧ Below w.heap.size w wr ∧ wr.heap[b1]? = some (.cells #[(.int .i64 ((ln : Nat) : Int)), (.int .i64 mo), (.slice ca C.length cc)] 111 (0, 0)) ∧ (i + 1 + m ≤ C.length) ∧ (lb = nIn ((C.drop (i + 1)).take m) y.1)) ?_ ?_
      · skip
        exact ⟨_, 0, true, rfl, hf.sub ⟨rfl, rfl, rfl, rfl, (some_int (by first | rfl | omega)), trivial⟩, hb, hkb1, by omega, rfl⟩
      · skip
        clear hf fa; intro mq2 fa w3 hI KL2 hKL2
        clear hb
        clear hkb1
        obtain ⟨m, lb, hmq2, hf, hb, hkb1, hm2, hlb⟩ := hI
        refine wp_seq_k (fun K11 hK11 => ?_)
        refine wp_seq_k (fun K12 hK12 => ?_)
        refine wp_region_lit ?_
        refine sqv hf (r_move rfl) rfl rfl rfl ?_; clear hf fa; intro fa hf
        refine sqv hf (r_fa rfl Try.underlying111 (f := 2) (q := 2) rfl (by kernel_rfl) rfl) rfl rfl rfl ?_; clear hf fa; intro fa hf
        refine sqv hf (r_load (v := (.slice ca C.length cc)) rfl Try.underlying109 rfl (cell_blk hkb1 rfl)) rfl rfl rfl ?_; clear hf fa; intro fa hf
        refine sqv hf (r_lensl rfl Try.underlying109) rfl rfl rfl ?_; clear hf fa; intro fa hf
        refine sqv hf (r_lt rfl rfl) rfl rfl rfl ?_; clear hf fa; intro fa hf
        apply wpList_nil
        (try simp only [Exit.then, Exit.inBlock, ↓reduceIte, Nat.reduceEqDiff])
        refine hK12 _ _ ?_
        refine wp_cond_split (t := (decide ((((i + 1 + m) : Nat) : Int) < ((C.length : Nat) : Int)))) (hf.ev rfl) (fun hqt20_1 => ?_) (fun hqt20_1 => ?_)
        · have hqt20_1b := hqt20_1
          try simp only [decide_eq_true_eq, Bool.and_eq_true, Bool.or_eq_true, Bool.not_eq_true', decide_eq_false_iff_not, ne_eq, Bool.not_eq_true] at hqt20_1
          refine wp_skip ?_
          (try simp only [Exit.then, Exit.inBlock, ↓reduceIte, Nat.reduceEqDiff])
          refine hK11 _ _ ?_
          refine wp_seq_k (fun K13 hK13 => ?_)
          refine wp_block ?_
          obtain ⟨z, hz⟩ : ∃ x, C[i + 1 + m]? = some x := ⟨_, List.getElem?_eq_getElem (by omega)⟩
          have hzD : (C.drop (i + 1))[m]? = some z := by rw [List.getElem?_drop]; exact hz
          have hy1 : (C)[((i + 1 + m))]? = some z := hz
          obtain ⟨ab1, aoff1, hat1, hlb1, hel1⟩ := RdS.at hC hy1
          have hy2 : (C)[i]? = some y := hy
          obtain ⟨_, _, hab1, hlb2, hel2⟩ := RdS.at hC hy2
          rw [hat1] at hab1; cases hab1
          refine wp_region_un (fun wq => Below w3.heap.size w3 wq) (fun w w' => Below w.heap.size w w')
            (fun V => [(fun x _ => x = (.bool lb)), (fun x _ => x = (.bool lb)), (fun x _ => x = (gb lb (.pointer (some ⟨b1, 2, none⟩)))), (fun x _ => x = (gb lb (.slice ca C.length cc))), (fun x _ => x = (gb lb (.int .i64 (((i + 1 + m) : Nat) : Int)))), (fun x _ => x = (gb lb (.pointer (some ⟨ab1, (aoff1 + ((i + 1 + m)) * 2), none⟩)))), (fun x _ => x = (gb lb (.pointer (some ⟨ab1, (aoff1 + ((i + 1 + m)) * 2), none⟩)))), (fun x _ => x = (gb lb (.int .i64 z.1))), (fun x _ => x = (gb lb (.pointer (some ⟨b1, 2, none⟩)))), (fun x _ => x = (gb lb (.slice ca C.length cc))), (fun x _ => x = (gb lb (.int .i64 ((i : Nat) : Int)))), (fun x _ => x = (gb lb (.pointer (some ⟨ab1, (aoff1 + i * 2), none⟩)))), (fun x _ => x = (gb lb (.pointer (some ⟨ab1, (aoff1 + i * 2), none⟩)))), (fun x _ => x = (gb lb (.int .i64 y.1))), (fun x _ => x = (gb lb (.bool (decide (z.1 ≠ y.1))))), (fun x _ => x = (.bool (lb && (decide (z.1 ≠ y.1))))), (fun x _ => x = (.bool (lb && (decide (z.1 ≠ y.1)))))])
            []
            [[], [0], [1], [1, 2], [1], [1, 3, 4], [1, 5], [1, 6], [1], [1, 8], [1], [1, 9, 10], [1, 11], [1, 12], [1, 7, 13], [1, 14], [0, 1, 2, 3, 4, 5, 6, 7, 8, 9, 10, 11, 12, 13, 14, 15]]
            hf (by kernel_rfl) (by kernel_rfl) (fun _ => rfl) ((Below.refl _ _).drew) (fun a b h1 h2 => h1.trans (h2.mono h1.size)) (fun _ _ h => h.size) (fun V => ⟨kept_eq, kept_eq, kept_eq, kept_eq, kept_eq, kept_eq, kept_eq, kept_eq, kept_eq, kept_eq, kept_eq, kept_eq, kept_eq, kept_eq, kept_eq, kept_eq, kept_eq, trivial⟩) (fun _ _ _ _ _ => rfl) ?_ ?_
          · skip
            intro V
            refine ⟨fun wu0 hC hd => ?_, ?_⟩
            · clear hd
              replace hb := hb.trans (hC.mono hb.size)
              replace hkb1 := blk_ext hkb1 hC
              exact Runs.does (r_move rfl) ⟨Below.refl _ _, rfl, nofr rfl⟩
            refine ⟨fun wu1 hC hd => ?_, ?_⟩
            · obtain ⟨h0, _⟩ := hd
              skip
              replace h0 : V 0 = (.bool lb) := h0
              replace hb := hb.trans (hC.mono hb.size)
              replace hkb1 := blk_ext hkb1 hC
              exact Runs.does (r_move (congrArg some h0)) ⟨Below.refl _ _, rfl, nofr rfl⟩
            refine ⟨fun wu2 hC hd => ?_, ?_⟩
            · obtain ⟨h1, _⟩ := hd
              skip
              replace h1 : V 1 = (.bool lb) := h1
              replace hb := hb.trans (hC.mono hb.size)
              replace hkb1 := blk_ext hkb1 hC
              refine ⟨true, lb, congrArg some h1, fun hact => ?_, fun hact => ?_⟩
              · replace hact : lb = true := by simpa using hact
                refine Runs.does (v := (.pointer (some ⟨b1, 2, none⟩))) (r_fa rfl Try.underlying111 (f := 2) (q := 2) rfl (by kernel_rfl) rfl) ⟨Below.refl _ _, ?_, nofr rfl⟩
                show _ = gb _ _; rw [hact]; rfl
              · replace hact : lb = false := by simpa using hact
                refine ⟨Below.refl _ _, ?_, nofr rfl⟩
                show _ = gb _ _; rw [hact]; rfl
            refine ⟨fun wu3 hC hd => ?_, ?_⟩
            · obtain ⟨h1, h2, _⟩ := hd
              skip
              skip
              replace h1 : V 1 = (.bool lb) := h1
              replace h2 : V 2 = (gb lb (.pointer (some ⟨b1, 2, none⟩))) := h2
              replace hb := hb.trans (hC.mono hb.size)
              replace hkb1 := blk_ext hkb1 hC
              refine ⟨true, lb, congrArg some h1, fun hact => ?_, fun hact => ?_⟩
              · replace hact : lb = true := by simpa using hact
                refine Runs.does (v := (.slice ca C.length cc)) (r_load (v := (.slice ca C.length cc)) (gb_ev hact (congrArg some h2)) Try.underlying109 rfl (cell_blk hkb1 rfl)) ⟨Below.refl _ _, ?_, nofr rfl⟩
                show _ = gb _ _; rw [hact]; rfl
              · replace hact : lb = false := by simpa using hact
                refine ⟨Below.refl _ _, ?_, nofr rfl⟩
                show _ = gb _ _; rw [hact]; rfl
            refine ⟨fun wu4 hC hd => ?_, ?_⟩
            · obtain ⟨h1, _⟩ := hd
              skip
              replace h1 : V 1 = (.bool lb) := h1
              replace hb := hb.trans (hC.mono hb.size)
              replace hkb1 := blk_ext hkb1 hC
              refine ⟨true, lb, congrArg some h1, fun hact => ?_, fun hact => ?_⟩
              · replace hact : lb = true := by simpa using hact
                refine Runs.does (v := (.int .i64 (((i + 1 + m) : Nat) : Int))) (r_move rfl) ⟨Below.refl _ _, ?_, nofr rfl⟩
                show _ = gb _ _; rw [hact]; rfl
              · replace hact : lb = false := by simpa using hact
                refine ⟨Below.refl _ _, ?_, nofr rfl⟩
                show _ = gb _ _; rw [hact]; rfl
            refine ⟨fun wu5 hC hd => ?_, ?_⟩
            · obtain ⟨h1, h3, h4, _⟩ := hd
              skip
              skip
              skip
              replace h1 : V 1 = (.bool lb) := h1
              replace h3 : V 3 = (gb lb (.slice ca C.length cc)) := h3
              replace h4 : V 4 = (gb lb (.int .i64 (((i + 1 + m) : Nat) : Int))) := h4
              replace hb := hb.trans (hC.mono hb.size)
              replace hkb1 := blk_ext hkb1 hC
              refine ⟨true, lb, congrArg some h1, fun hact => ?_, fun hact => ?_⟩
              · replace hact : lb = true := by simpa using hact
                refine Runs.does (v := (.pointer (some ⟨ab1, (aoff1 + ((i + 1 + m)) * 2), none⟩))) (by have hact0 := hact; (try simp only [Bool.and_eq_true, Bool.not_eq_true', Bool.or_eq_false_iff, Bool.or_eq_true, Bool.and_eq_false_iff, ne_eq, decide_eq_true_eq, decide_eq_false_iff_not] at hact0); exact (r_ixa (sz := 2) (j := ((i + 1 + m))) (evAt (gb_ev hact (congrArg some h3)) hat1) (gb_ev hact (congrArg some h4)) Try.underlying109 (by kernel_rfl) rfl (by omega) rfl)) ⟨Below.refl _ _, ?_, nofr rfl⟩
                show _ = gb _ _; rw [hact]; rfl
              · replace hact : lb = false := by simpa using hact
                refine ⟨Below.refl _ _, ?_, nofr rfl⟩
                show _ = gb _ _; rw [hact]; rfl
            refine ⟨fun wu6 hC hd => ?_, ?_⟩
            · obtain ⟨h1, h5, _⟩ := hd
              skip
              skip
              replace h1 : V 1 = (.bool lb) := h1
              replace h5 : V 5 = (gb lb (.pointer (some ⟨ab1, (aoff1 + ((i + 1 + m)) * 2), none⟩))) := h5
              replace hb := hb.trans (hC.mono hb.size)
              replace hkb1 := blk_ext hkb1 hC
              refine ⟨true, lb, congrArg some h1, fun hact => ?_, fun hact => ?_⟩
              · replace hact : lb = true := by simpa using hact
                refine Runs.does (v := (.pointer (some ⟨ab1, (aoff1 + ((i + 1 + m)) * 2), none⟩))) (r_fa (gb_ev hact (congrArg some h5)) Try.underlying162 (f := 0) (q := (aoff1 + ((i + 1 + m)) * 2)) rfl (by kernel_rfl) rfl) ⟨Below.refl _ _, ?_, nofr rfl⟩
                show _ = gb _ _; rw [hact]; rfl
              · replace hact : lb = false := by simpa using hact
                refine ⟨Below.refl _ _, ?_, nofr rfl⟩
                show _ = gb _ _; rw [hact]; rfl
            refine ⟨fun wu7 hC hd => ?_, ?_⟩
            · obtain ⟨h1, h6, _⟩ := hd
              skip
              skip
              replace h1 : V 1 = (.bool lb) := h1
              replace h6 : V 6 = (gb lb (.pointer (some ⟨ab1, (aoff1 + ((i + 1 + m)) * 2), none⟩))) := h6
              replace hb := hb.trans (hC.mono hb.size)
              replace hkb1 := blk_ext hkb1 hC
              refine ⟨true, lb, congrArg some h1, fun hact => ?_, fun hact => ?_⟩
              · replace hact : lb = true := by simpa using hact
                refine Runs.does (v := (.int .i64 z.1)) (r_load (v := (.int .i64 z.1)) (gb_ev hact (congrArg some h6)) Try.underlying3 rfl (cellsAt_cell (cellsAt_below hel1 hb hlb1) (i := 0) rfl rfl)) ⟨Below.refl _ _, ?_, nofr rfl⟩
                show _ = gb _ _; rw [hact]; rfl
              · replace hact : lb = false := by simpa using hact
                refine ⟨Below.refl _ _, ?_, nofr rfl⟩
                show _ = gb _ _; rw [hact]; rfl
            refine ⟨fun wu8 hC hd => ?_, ?_⟩
            · obtain ⟨h1, _⟩ := hd
              skip
              replace h1 : V 1 = (.bool lb) := h1
              replace hb := hb.trans (hC.mono hb.size)
              replace hkb1 := blk_ext hkb1 hC
              refine ⟨true, lb, congrArg some h1, fun hact => ?_, fun hact => ?_⟩
              · replace hact : lb = true := by simpa using hact
                refine Runs.does (v := (.pointer (some ⟨b1, 2, none⟩))) (r_fa rfl Try.underlying111 (f := 2) (q := 2) rfl (by kernel_rfl) rfl) ⟨Below.refl _ _, ?_, nofr rfl⟩
                show _ = gb _ _; rw [hact]; rfl
              · replace hact : lb = false := by simpa using hact
                refine ⟨Below.refl _ _, ?_, nofr rfl⟩
                show _ = gb _ _; rw [hact]; rfl
            refine ⟨fun wu9 hC hd => ?_, ?_⟩
            · obtain ⟨h1, h8, _⟩ := hd
              skip
              skip
              replace h1 : V 1 = (.bool lb) := h1
              replace h8 : V 8 = (gb lb (.pointer (some ⟨b1, 2, none⟩))) := h8
              replace hb := hb.trans (hC.mono hb.size)
              replace hkb1 := blk_ext hkb1 hC
              refine ⟨true, lb, congrArg some h1, fun hact => ?_, fun hact => ?_⟩
              · replace hact : lb = true := by simpa using hact
                refine Runs.does (v := (.slice ca C.length cc)) (r_load (v := (.slice ca C.length cc)) (gb_ev hact (congrArg some h8)) Try.underlying109 rfl (cell_blk hkb1 rfl)) ⟨Below.refl _ _, ?_, nofr rfl⟩
                show _ = gb _ _; rw [hact]; rfl
              · replace hact : lb = false := by simpa using hact
                refine ⟨Below.refl _ _, ?_, nofr rfl⟩
                show _ = gb _ _; rw [hact]; rfl
            refine ⟨fun wu10 hC hd => ?_, ?_⟩
            · obtain ⟨h1, _⟩ := hd
              skip
              replace h1 : V 1 = (.bool lb) := h1
              replace hb := hb.trans (hC.mono hb.size)
              replace hkb1 := blk_ext hkb1 hC
              refine ⟨true, lb, congrArg some h1, fun hact => ?_, fun hact => ?_⟩
              · replace hact : lb = true := by simpa using hact
                refine Runs.does (v := (.int .i64 ((i : Nat) : Int))) (r_move rfl) ⟨Below.refl _ _, ?_, nofr rfl⟩
                show _ = gb _ _; rw [hact]; rfl
              · replace hact : lb = false := by simpa using hact
                refine ⟨Below.refl _ _, ?_, nofr rfl⟩
                show _ = gb _ _; rw [hact]; rfl
            refine ⟨fun wu11 hC hd => ?_, ?_⟩
            · obtain ⟨h1, h9, h10, _⟩ := hd
              skip
              skip
              skip
              replace h1 : V 1 = (.bool lb) := h1
              replace h9 : V 9 = (gb lb (.slice ca C.length cc)) := h9
              replace h10 : V 10 = (gb lb (.int .i64 ((i : Nat) : Int))) := h10
              replace hb := hb.trans (hC.mono hb.size)
              replace hkb1 := blk_ext hkb1 hC
              refine ⟨true, lb, congrArg some h1, fun hact => ?_, fun hact => ?_⟩
              · replace hact : lb = true := by simpa using hact
                refine Runs.does (v := (.pointer (some ⟨ab1, (aoff1 + i * 2), none⟩))) (by have hact0 := hact; (try simp only [Bool.and_eq_true, Bool.not_eq_true', Bool.or_eq_false_iff, Bool.or_eq_true, Bool.and_eq_false_iff, ne_eq, decide_eq_true_eq, decide_eq_false_iff_not] at hact0); exact (r_ixa (sz := 2) (j := i) (evAt (gb_ev hact (congrArg some h9)) hat1) (gb_ev hact (congrArg some h10)) Try.underlying109 (by kernel_rfl) rfl (by omega) rfl)) ⟨Below.refl _ _, ?_, nofr rfl⟩
                show _ = gb _ _; rw [hact]; rfl
              · replace hact : lb = false := by simpa using hact
                refine ⟨Below.refl _ _, ?_, nofr rfl⟩
                show _ = gb _ _; rw [hact]; rfl
            refine ⟨fun wu12 hC hd => ?_, ?_⟩
            · obtain ⟨h1, h11, _⟩ := hd
              skip
              skip
              replace h1 : V 1 = (.bool lb) := h1
              replace h11 : V 11 = (gb lb (.pointer (some ⟨ab1, (aoff1 + i * 2), none⟩))) := h11
              replace hb := hb.trans (hC.mono hb.size)
              replace hkb1 := blk_ext hkb1 hC
              refine ⟨true, lb, congrArg some h1, fun hact => ?_, fun hact => ?_⟩
              · replace hact : lb = true := by simpa using hact
                refine Runs.does (v := (.pointer (some ⟨ab1, (aoff1 + i * 2), none⟩))) (r_fa (gb_ev hact (congrArg some h11)) Try.underlying162 (f := 0) (q := (aoff1 + i * 2)) rfl (by kernel_rfl) rfl) ⟨Below.refl _ _, ?_, nofr rfl⟩
                show _ = gb _ _; rw [hact]; rfl
              · replace hact : lb = false := by simpa using hact
                refine ⟨Below.refl _ _, ?_, nofr rfl⟩
                show _ = gb _ _; rw [hact]; rfl
            refine ⟨fun wu13 hC hd => ?_, ?_⟩
            · obtain ⟨h1, h12, _⟩ := hd
              skip
              skip
              replace h1 : V 1 = (.bool lb) := h1
              replace h12 : V 12 = (gb lb (.pointer (some ⟨ab1, (aoff1 + i * 2), none⟩))) := h12
              replace hb := hb.trans (hC.mono hb.size)
              replace hkb1 := blk_ext hkb1 hC
              refine ⟨true, lb, congrArg some h1, fun hact => ?_, fun hact => ?_⟩
              · replace hact : lb = true := by simpa using hact
                refine Runs.does (v := (.int .i64 y.1)) (r_load (v := (.int .i64 y.1)) (gb_ev hact (congrArg some h12)) Try.underlying3 rfl (cellsAt_cell (cellsAt_below hel2 hb hlb2) (i := 0) rfl rfl)) ⟨Below.refl _ _, ?_, nofr rfl⟩
                show _ = gb _ _; rw [hact]; rfl
              · replace hact : lb = false := by simpa using hact
                refine ⟨Below.refl _ _, ?_, nofr rfl⟩
                show _ = gb _ _; rw [hact]; rfl
            refine ⟨fun wu14 hC hd => ?_, ?_⟩
            · obtain ⟨h1, h7, h13, _⟩ := hd
              skip
              skip
              skip
              replace h1 : V 1 = (.bool lb) := h1
              replace h7 : V 7 = (gb lb (.int .i64 z.1)) := h7
              replace h13 : V 13 = (gb lb (.int .i64 y.1)) := h13
              replace hb := hb.trans (hC.mono hb.size)
              replace hkb1 := blk_ext hkb1 hC
              refine ⟨true, lb, congrArg some h1, fun hact => ?_, fun hact => ?_⟩
              · replace hact : lb = true := by simpa using hact
                refine Runs.does (v := (.bool (decide (z.1 ≠ y.1)))) (r_ne (gb_ev hact (congrArg some h7)) (gb_ev hact (congrArg some h13))) ⟨Below.refl _ _, ?_, nofr rfl⟩
                show _ = gb _ _; rw [hact]; rfl
              · replace hact : lb = false := by simpa using hact
                refine ⟨Below.refl _ _, ?_, nofr rfl⟩
                show _ = gb _ _; rw [hact]; rfl
            refine ⟨fun wu15 hC hd => ?_, ?_⟩
            · obtain ⟨h1, h14, _⟩ := hd
              skip
              skip
              replace h1 : V 1 = (.bool lb) := h1
              replace h14 : V 14 = (gb lb (.bool (decide (z.1 ≠ y.1)))) := h14
              replace hb := hb.trans (hC.mono hb.size)
              replace hkb1 := blk_ext hkb1 hC
              exact Runs.does (r_pickA (b := lb) (e := (decide (z.1 ≠ y.1))) (congrArg some h1) (congrArg some h14) rfl) ⟨Below.refl _ _, rfl, nofr rfl⟩
            refine ⟨fun wu16 hC hd => ?_, ?_⟩
            · obtain ⟨h0, h1, h2, h3, h4, h5, h6, h7, h8, h9, h10, h11, h12, h13, h14, h15, _⟩ := hd
              skip
              skip
              skip
              skip
              skip
              skip
              skip
              skip
              skip
              skip
              skip
              skip
              skip
              skip
              skip
              skip
              replace h0 : V 0 = (.bool lb) := h0
              replace h1 : V 1 = (.bool lb) := h1
              replace h2 : V 2 = (gb lb (.pointer (some ⟨b1, 2, none⟩))) := h2
              replace h3 : V 3 = (gb lb (.slice ca C.length cc)) := h3
              replace h4 : V 4 = (gb lb (.int .i64 (((i + 1 + m) : Nat) : Int))) := h4
              replace h5 : V 5 = (gb lb (.pointer (some ⟨ab1, (aoff1 + ((i + 1 + m)) * 2), none⟩))) := h5
              replace h6 : V 6 = (gb lb (.pointer (some ⟨ab1, (aoff1 + ((i + 1 + m)) * 2), none⟩))) := h6
              replace h7 : V 7 = (gb lb (.int .i64 z.1)) := h7
              replace h8 : V 8 = (gb lb (.pointer (some ⟨b1, 2, none⟩))) := h8
              replace h9 : V 9 = (gb lb (.slice ca C.length cc)) := h9
              replace h10 : V 10 = (gb lb (.int .i64 ((i : Nat) : Int))) := h10
              replace h11 : V 11 = (gb lb (.pointer (some ⟨ab1, (aoff1 + i * 2), none⟩))) := h11
              replace h12 : V 12 = (gb lb (.pointer (some ⟨ab1, (aoff1 + i * 2), none⟩))) := h12
              replace h13 : V 13 = (gb lb (.int .i64 y.1)) := h13
              replace h14 : V 14 = (gb lb (.bool (decide (z.1 ≠ y.1)))) := h14
              replace h15 : V 15 = (.bool (lb && (decide (z.1 ≠ y.1)))) := h15
              replace hb := hb.trans (hC.mono hb.size)
              replace hkb1 := blk_ext hkb1 hC
              exact Runs.does (r_assign (congrArg some h15)) ⟨Below.refl _ _, rfl, nofr rfl⟩
            trivial
          · skip
            clear hf fa; intro V w4 fa he2 hp hnb hf
            have hv0 : V 0 = (.bool lb) := postsHold_at hp 0 rfl
            have hv1 : V 1 = (.bool lb) := postsHold_at hp 1 rfl
            have hv2 : V 2 = (gb lb (.pointer (some ⟨b1, 2, none⟩))) := postsHold_at hp 2 rfl
            have hv3 : V 3 = (gb lb (.slice ca C.length cc)) := postsHold_at hp 3 rfl
            have hv4 : V 4 = (gb lb (.int .i64 (((i + 1 + m) : Nat) : Int))) := postsHold_at hp 4 rfl
            have hv5 : V 5 = (gb lb (.pointer (some ⟨ab1, (aoff1 + ((i + 1 + m)) * 2), none⟩))) := postsHold_at hp 5 rfl
            have hv6 : V 6 = (gb lb (.pointer (some ⟨ab1, (aoff1 + ((i + 1 + m)) * 2), none⟩))) := postsHold_at hp 6 rfl
            have hv7 : V 7 = (gb lb (.int .i64 z.1)) := postsHold_at hp 7 rfl
            have hv8 : V 8 = (gb lb (.pointer (some ⟨b1, 2, none⟩))) := postsHold_at hp 8 rfl
            have hv9 : V 9 = (gb lb (.slice ca C.length cc)) := postsHold_at hp 9 rfl
            have hv10 : V 10 = (gb lb (.int .i64 ((i : Nat) : Int))) := postsHold_at hp 10 rfl
            have hv11 : V 11 = (gb lb (.pointer (some ⟨ab1, (aoff1 + i * 2), none⟩))) := postsHold_at hp 11 rfl
            have hv12 : V 12 = (gb lb (.pointer (some ⟨ab1, (aoff1 + i * 2), none⟩))) := postsHold_at hp 12 rfl
            have hv13 : V 13 = (gb lb (.int .i64 y.1)) := postsHold_at hp 13 rfl
            have hv14 : V 14 = (gb lb (.bool (decide (z.1 ≠ y.1)))) := postsHold_at hp 14 rfl
            have hv15 : V 15 = (.bool (lb && (decide (z.1 ≠ y.1)))) := postsHold_at hp 15 rfl
            have hv16 : V 16 = (.bool (lb && (decide (z.1 ≠ y.1)))) := postsHold_at hp 16 rfl
            simp only [List.take_succ_cons, List.take_zero, insAll, ins, hv0, hv1, hv2, hv3, hv4, hv5, hv6, hv7, hv8, hv9, hv10, hv11, hv12, hv13, hv14, hv15, hv16] at hf
            clear hp hnb hv0 hv1 hv2 hv3 hv4 hv5 hv6 hv7 hv8 hv9 hv10 hv11 hv12 hv13 hv14 hv15 hv16
            replace hkb1 := blk_ext hkb1 he2
            replace hb := hb.trans (Below.mono he2 hb.size)
            (try simp only [Exit.then, Exit.inBlock, ↓reduceIte, Nat.reduceEqDiff])
            refine hK13 _ _ ?_
            refine wp_region_lit ?_
            refine sqv hf (r_move rfl) rfl rfl rfl ?_; clear hf fa; intro fa hf
            refine sqv hf (r_add (C := ((((i + 1 + m) : Nat) : Int) + (1 : Int))) rfl rfl (by rw [IntKind.wrap_i64]; omega)) rfl rfl rfl ?_; clear hf fa; intro fa hf
            refine sqv hf (r_assign rfl) rfl rfl rfl ?_; clear hf fa; intro fa hf
            apply wpList_nil
            (try simp only [Exit.then, Exit.inBlock, ↓reduceIte, Nat.reduceEqDiff])
            have hlb2 := nIn_take hzD y.1
            refine hKL2 _ _ _ (by omega) ⟨(m + 1), (lb && (decide (z.1 ≠ y.1))), rfl, hf.sub ⟨rfl, rfl, rfl, rfl, (some_int (by first | rfl | omega)), trivial⟩, hb, hkb1, by omega, by rw [hlb2, ← hlb]⟩
        · have hqt20_1b := hqt20_1
          replace hqt20_1 := Bool.eq_false_iff.1 hqt20_1
          try simp only [ne_eq, decide_eq_true_eq, Bool.and_eq_true, Bool.or_eq_true, Bool.not_eq_true', decide_eq_false_iff_not] at hqt20_1
          refine wp_exit ?_
          (try simp only [Exit.then, Exit.inBlock, ↓reduceIte, Nat.reduceEqDiff])
          refine hK9 _ _ ?_
          refine wp_seq_k (fun K14 hK14 => ?_)
          refine wp_region_lit ?_
          refine sqv hf (r_move rfl) rfl rfl rfl ?_; clear hf fa; intro fa hf
          apply wpList_nil
          (try simp only [Exit.then, Exit.inBlock, ↓reduceIte, Nat.reduceEqDiff])
          refine hK14 _ _ ?_
          refine wp_cond_split (t := lb) (hf.ev rfl) (fun hqt39_1 => ?_) (fun hqt39_1 => ?_)
          · have hqt39_1b := hqt39_1
            try simp only [decide_eq_true_eq, Bool.and_eq_true, Bool.or_eq_true, Bool.not_eq_true', decide_eq_false_iff_not, ne_eq, Bool.not_eq_true] at hqt39_1
            have hy3 : (C)[i]? = some y := hy
            obtain ⟨ab2, aoff2, hat2, hlb3, hel3⟩ := RdS.at hC hy3
            refine wp_region_un (fun wq => Below w3.heap.size w3 wq) (fun w w' => Below w.heap.size w w')
              (fun V => [(fun x _ => x = (.int .u64 ((sumG C i)))), (fun x _ => x = (.pointer (some ⟨b1, 2, none⟩))), (fun x _ => x = (.slice ca C.length cc)), (fun x _ => x = (.int .i64 ((i : Nat) : Int))), (fun x _ => x = (.pointer (some ⟨ab2, (aoff2 + i * 2), none⟩))), (fun x _ => x = (.pointer (some ⟨ab2, ((aoff2 + i * 2) + 1), none⟩))), (fun x _ => x = (.int .u8 y.2)), (fun x _ => x = (.int .u64 y.2)), (fun x _ => x = (.pointer (some ⟨b1, 2, none⟩))), (fun x _ => x = (.slice ca C.length cc)), (fun x _ => x = (.int .i64 ((i : Nat) : Int))), (fun x _ => x = (.pointer (some ⟨ab2, (aoff2 + i * 2), none⟩))), (fun x _ => x = (.pointer (some ⟨ab2, (aoff2 + i * 2), none⟩))), (fun x _ => x = (.int .i64 y.1)), (fun x _ => x = (.int .i64 (y.1 + (1 : Int)))), (fun x _ => x = (.int .u64 (y.1 + (1 : Int)))), (fun x _ => x = (.int .u64 ((cP y)))), (fun x _ => x = (.int .u64 (((sumG C i + cP y) % 18446744073709551616)))), (fun x _ => x = (.int .u64 (((sumG C i + cP y) % 18446744073709551616))))])
              []
              [[], [], [1], [], [2, 3], [4], [5], [6], [], [8], [], [9, 10], [11], [12], [13], [14], [7, 15], [0, 16], [0, 1, 2, 3, 4, 5, 6, 7, 8, 9, 10, 11, 12, 13, 14, 15, 16, 17]]
              hf (by kernel_rfl) (by kernel_rfl) (fun _ => rfl) ((Below.refl _ _).drew) (fun a b h1 h2 => h1.trans (h2.mono h1.size)) (fun _ _ h => h.size) (fun V => ⟨kept_eq, kept_eq, kept_eq, kept_eq, kept_eq, kept_eq, kept_eq, kept_eq, kept_eq, kept_eq, kept_eq, kept_eq, kept_eq, kept_eq, kept_eq, kept_eq, kept_eq, kept_eq, kept_eq, trivial⟩) (fun _ _ _ _ _ => rfl) ?_ ?_
            · skip
              intro V
              refine ⟨fun wu0 hC hd => ?_, ?_⟩
              · clear hd
                replace hb := hb.trans (hC.mono hb.size)
                replace hkb1 := blk_ext hkb1 hC
                exact Runs.does (r_move rfl) ⟨Below.refl _ _, rfl, nofr rfl⟩
              refine ⟨fun wu1 hC hd => ?_, ?_⟩
              · clear hd
                replace hb := hb.trans (hC.mono hb.size)
                replace hkb1 := blk_ext hkb1 hC
                exact Runs.does (r_fa rfl Try.underlying111 (f := 2) (q := 2) rfl (by kernel_rfl) rfl) ⟨Below.refl _ _, rfl, nofr rfl⟩
              refine ⟨fun wu2 hC hd => ?_, ?_⟩
              · obtain ⟨h1, _⟩ := hd
                skip
                replace h1 : V 1 = (.pointer (some ⟨b1, 2, none⟩)) := h1
                replace hb := hb.trans (hC.mono hb.size)
                replace hkb1 := blk_ext hkb1 hC
                exact Runs.does (r_load (v := (.slice ca C.length cc)) (congrArg some h1) Try.underlying109 rfl (cell_blk hkb1 rfl)) ⟨Below.refl _ _, rfl, nofr rfl⟩
              refine ⟨fun wu3 hC hd => ?_, ?_⟩
              · clear hd
                replace hb := hb.trans (hC.mono hb.size)
                replace hkb1 := blk_ext hkb1 hC
                exact Runs.does (r_move rfl) ⟨Below.refl _ _, rfl, nofr rfl⟩
              refine ⟨fun wu4 hC hd => ?_, ?_⟩
              · obtain ⟨h2, h3, _⟩ := hd
                skip
                skip
                replace h2 : V 2 = (.slice ca C.length cc) := h2
                replace h3 : V 3 = (.int .i64 ((i : Nat) : Int)) := h3
                replace hb := hb.trans (hC.mono hb.size)
                replace hkb1 := blk_ext hkb1 hC
                exact Runs.does (r_ixa (sz := 2) (j := i) (evAt (congrArg some h2) hat2) (congrArg some h3) Try.underlying109 (by kernel_rfl) rfl (by omega) rfl) ⟨Below.refl _ _, rfl, nofr rfl⟩
              refine ⟨fun wu5 hC hd => ?_, ?_⟩
              · obtain ⟨h4, _⟩ := hd
                skip
                replace h4 : V 4 = (.pointer (some ⟨ab2, (aoff2 + i * 2), none⟩)) := h4
                replace hb := hb.trans (hC.mono hb.size)
                replace hkb1 := blk_ext hkb1 hC
                exact Runs.does (r_fa (congrArg some h4) Try.underlying162 (f := 1) (q := ((aoff2 + i * 2) + 1)) rfl (by kernel_rfl) rfl) ⟨Below.refl _ _, rfl, nofr rfl⟩
              refine ⟨fun wu6 hC hd => ?_, ?_⟩
              · obtain ⟨h5, _⟩ := hd
                skip
                replace h5 : V 5 = (.pointer (some ⟨ab2, ((aoff2 + i * 2) + 1), none⟩)) := h5
                replace hb := hb.trans (hC.mono hb.size)
                replace hkb1 := blk_ext hkb1 hC
                exact Runs.does (r_load (v := (.int .u8 y.2)) (congrArg some h5) Try.underlying5 rfl (cellsAt_cell (cellsAt_below hel3 hb hlb3) (i := 1) rfl rfl)) ⟨Below.refl _ _, rfl, nofr rfl⟩
              refine ⟨fun wu7 hC hd => ?_, ?_⟩
              · obtain ⟨h6, _⟩ := hd
                skip
                replace h6 : V 6 = (.int .u8 y.2) := h6
                replace hb := hb.trans (hC.mono hb.size)
                replace hkb1 := blk_ext hkb1 hC
                exact Runs.does (r_conv (C := y.2) (congrArg some h6) Try.underlying5 Try.underlying26 (by rw [IntKind.wrap_u64]; omega)) ⟨Below.refl _ _, rfl, nofr rfl⟩
              refine ⟨fun wu8 hC hd => ?_, ?_⟩
              · clear hd
                replace hb := hb.trans (hC.mono hb.size)
                replace hkb1 := blk_ext hkb1 hC
                exact Runs.does (r_fa rfl Try.underlying111 (f := 2) (q := 2) rfl (by kernel_rfl) rfl) ⟨Below.refl _ _, rfl, nofr rfl⟩
              refine ⟨fun wu9 hC hd => ?_, ?_⟩
              · obtain ⟨h8, _⟩ := hd
                skip
                replace h8 : V 8 = (.pointer (some ⟨b1, 2, none⟩)) := h8
                replace hb := hb.trans (hC.mono hb.size)
                replace hkb1 := blk_ext hkb1 hC
                exact Runs.does (r_load (v := (.slice ca C.length cc)) (congrArg some h8) Try.underlying109 rfl (cell_blk hkb1 rfl)) ⟨Below.refl _ _, rfl, nofr rfl⟩
              refine ⟨fun wu10 hC hd => ?_, ?_⟩
              · clear hd
                replace hb := hb.trans (hC.mono hb.size)
                replace hkb1 := blk_ext hkb1 hC
                exact Runs.does (r_move rfl) ⟨Below.refl _ _, rfl, nofr rfl⟩
              refine ⟨fun wu11 hC hd => ?_, ?_⟩
              · obtain ⟨h9, h10, _⟩ := hd
                skip
                skip
                replace h9 : V 9 = (.slice ca C.length cc) := h9
                replace h10 : V 10 = (.int .i64 ((i : Nat) : Int)) := h10
                replace hb := hb.trans (hC.mono hb.size)
                replace hkb1 := blk_ext hkb1 hC
                exact Runs.does (r_ixa (sz := 2) (j := i) (evAt (congrArg some h9) hat2) (congrArg some h10) Try.underlying109 (by kernel_rfl) rfl (by omega) rfl) ⟨Below.refl _ _, rfl, nofr rfl⟩
              refine ⟨fun wu12 hC hd => ?_, ?_⟩
              · obtain ⟨h11, _⟩ := hd
                skip
                replace h11 : V 11 = (.pointer (some ⟨ab2, (aoff2 + i * 2), none⟩)) := h11
                replace hb := hb.trans (hC.mono hb.size)
                replace hkb1 := blk_ext hkb1 hC
                exact Runs.does (r_fa (congrArg some h11) Try.underlying162 (f := 0) (q := (aoff2 + i * 2)) rfl (by kernel_rfl) rfl) ⟨Below.refl _ _, rfl, nofr rfl⟩
              refine ⟨fun wu13 hC hd => ?_, ?_⟩
              · obtain ⟨h12, _⟩ := hd
                skip
                replace h12 : V 12 = (.pointer (some ⟨ab2, (aoff2 + i * 2), none⟩)) := h12
                replace hb := hb.trans (hC.mono hb.size)
                replace hkb1 := blk_ext hkb1 hC
                exact Runs.does (r_load (v := (.int .i64 y.1)) (congrArg some h12) Try.underlying3 rfl (cellsAt_cell (cellsAt_below hel3 hb hlb3) (i := 0) rfl rfl)) ⟨Below.refl _ _, rfl, nofr rfl⟩
              refine ⟨fun wu14 hC hd => ?_, ?_⟩
              · obtain ⟨h13, _⟩ := hd
                skip
                replace h13 : V 13 = (.int .i64 y.1) := h13
                replace hb := hb.trans (hC.mono hb.size)
                replace hkb1 := blk_ext hkb1 hC
                exact Runs.does (r_add (C := (y.1 + (1 : Int))) (congrArg some h13) rfl (by rw [IntKind.wrap_i64]; omega)) ⟨Below.refl _ _, rfl, nofr rfl⟩
              refine ⟨fun wu15 hC hd => ?_, ?_⟩
              · obtain ⟨h14, _⟩ := hd
                skip
                replace h14 : V 14 = (.int .i64 (y.1 + (1 : Int))) := h14
                replace hb := hb.trans (hC.mono hb.size)
                replace hkb1 := blk_ext hkb1 hC
                exact Runs.does (r_conv (C := (y.1 + (1 : Int))) (congrArg some h14) Try.underlying3 Try.underlying26 (by rw [IntKind.wrap_u64]; omega)) ⟨Below.refl _ _, rfl, nofr rfl⟩
              refine ⟨fun wu16 hC hd => ?_, ?_⟩
              · obtain ⟨h7, h15, _⟩ := hd
                skip
                skip
                replace h7 : V 7 = (.int .u64 y.2) := h7
                replace h15 : V 15 = (.int .u64 (y.1 + (1 : Int))) := h15
                replace hb := hb.trans (hC.mono hb.size)
                replace hkb1 := blk_ext hkb1 hC
                exact Runs.does (r_mul (C := ((cP y))) (congrArg some h7) (congrArg some h15) (show IntKind.u64.wrap (cP y) = cP y by rw [IntKind.wrap_u64]; omega)) ⟨Below.refl _ _, rfl, nofr rfl⟩
              refine ⟨fun wu17 hC hd => ?_, ?_⟩
              · obtain ⟨h0, h16, _⟩ := hd
                skip
                skip
                replace h0 : V 0 = (.int .u64 ((sumG C i))) := h0
                replace h16 : V 16 = (.int .u64 ((cP y))) := h16
                replace hb := hb.trans (hC.mono hb.size)
                replace hkb1 := blk_ext hkb1 hC
                exact Runs.does (r_add (C := (((sumG C i + cP y) % 18446744073709551616))) (congrArg some h0) (congrArg some h16) (by rw [IntKind.wrap_u64])) ⟨Below.refl _ _, rfl, nofr rfl⟩
              refine ⟨fun wu18 hC hd => ?_, ?_⟩
              · obtain ⟨h0, h1, h2, h3, h4, h5, h6, h7, h8, h9, h10, h11, h12, h13, h14, h15, h16, h17, _⟩ := hd
                skip
                skip
                skip
                skip
                skip
                skip
                skip
                skip
                skip
                skip
                skip
                skip
                skip
                skip
                skip
                skip
                skip
                skip
                replace h0 : V 0 = (.int .u64 ((sumG C i))) := h0
                replace h1 : V 1 = (.pointer (some ⟨b1, 2, none⟩)) := h1
                replace h2 : V 2 = (.slice ca C.length cc) := h2
                replace h3 : V 3 = (.int .i64 ((i : Nat) : Int)) := h3
                replace h4 : V 4 = (.pointer (some ⟨ab2, (aoff2 + i * 2), none⟩)) := h4
                replace h5 : V 5 = (.pointer (some ⟨ab2, ((aoff2 + i * 2) + 1), none⟩)) := h5
                replace h6 : V 6 = (.int .u8 y.2) := h6
                replace h7 : V 7 = (.int .u64 y.2) := h7
                replace h8 : V 8 = (.pointer (some ⟨b1, 2, none⟩)) := h8
                replace h9 : V 9 = (.slice ca C.length cc) := h9
                replace h10 : V 10 = (.int .i64 ((i : Nat) : Int)) := h10
                replace h11 : V 11 = (.pointer (some ⟨ab2, (aoff2 + i * 2), none⟩)) := h11
                replace h12 : V 12 = (.pointer (some ⟨ab2, (aoff2 + i * 2), none⟩)) := h12
                replace h13 : V 13 = (.int .i64 y.1) := h13
                replace h14 : V 14 = (.int .i64 (y.1 + (1 : Int))) := h14
                replace h15 : V 15 = (.int .u64 (y.1 + (1 : Int))) := h15
                replace h16 : V 16 = (.int .u64 ((cP y))) := h16
                replace h17 : V 17 = (.int .u64 (((sumG C i + cP y) % 18446744073709551616))) := h17
                replace hb := hb.trans (hC.mono hb.size)
                replace hkb1 := blk_ext hkb1 hC
                exact Runs.does (r_assign (congrArg some h17)) ⟨Below.refl _ _, rfl, nofr rfl⟩
              trivial
            · skip
              clear hf fa; intro V w5 fa he3 hp hnb hf
              have hv0 : V 0 = (.int .u64 ((sumG C i))) := postsHold_at hp 0 rfl
              have hv1 : V 1 = (.pointer (some ⟨b1, 2, none⟩)) := postsHold_at hp 1 rfl
              have hv2 : V 2 = (.slice ca C.length cc) := postsHold_at hp 2 rfl
              have hv3 : V 3 = (.int .i64 ((i : Nat) : Int)) := postsHold_at hp 3 rfl
              have hv4 : V 4 = (.pointer (some ⟨ab2, (aoff2 + i * 2), none⟩)) := postsHold_at hp 4 rfl
              have hv5 : V 5 = (.pointer (some ⟨ab2, ((aoff2 + i * 2) + 1), none⟩)) := postsHold_at hp 5 rfl
              have hv6 : V 6 = (.int .u8 y.2) := postsHold_at hp 6 rfl
              have hv7 : V 7 = (.int .u64 y.2) := postsHold_at hp 7 rfl
              have hv8 : V 8 = (.pointer (some ⟨b1, 2, none⟩)) := postsHold_at hp 8 rfl
              have hv9 : V 9 = (.slice ca C.length cc) := postsHold_at hp 9 rfl
              have hv10 : V 10 = (.int .i64 ((i : Nat) : Int)) := postsHold_at hp 10 rfl
              have hv11 : V 11 = (.pointer (some ⟨ab2, (aoff2 + i * 2), none⟩)) := postsHold_at hp 11 rfl
              have hv12 : V 12 = (.pointer (some ⟨ab2, (aoff2 + i * 2), none⟩)) := postsHold_at hp 12 rfl
              have hv13 : V 13 = (.int .i64 y.1) := postsHold_at hp 13 rfl
              have hv14 : V 14 = (.int .i64 (y.1 + (1 : Int))) := postsHold_at hp 14 rfl
              have hv15 : V 15 = (.int .u64 (y.1 + (1 : Int))) := postsHold_at hp 15 rfl
              have hv16 : V 16 = (.int .u64 ((cP y))) := postsHold_at hp 16 rfl
              have hv17 : V 17 = (.int .u64 (((sumG C i + cP y) % 18446744073709551616))) := postsHold_at hp 17 rfl
              have hv18 : V 18 = (.int .u64 (((sumG C i + cP y) % 18446744073709551616))) := postsHold_at hp 18 rfl
              simp only [List.take_succ_cons, List.take_zero, insAll, ins, hv0, hv1, hv2, hv3, hv4, hv5, hv6, hv7, hv8, hv9, hv10, hv11, hv12, hv13, hv14, hv15, hv16, hv17, hv18] at hf
              clear hp hnb hv0 hv1 hv2 hv3 hv4 hv5 hv6 hv7 hv8 hv9 hv10 hv11 hv12 hv13 hv14 hv15 hv16 hv17 hv18
              replace hkb1 := blk_ext hkb1 he3
              replace hb := hb.trans (Below.mono he3 hb.size)
              (try simp only [Exit.then, Exit.inBlock, ↓reduceIte, Nat.reduceEqDiff])
              refine hK7 _ _ ?_
              refine wp_region_lit ?_
              refine sqv hf (r_move rfl) rfl rfl rfl ?_; clear hf fa; intro fa hf
              refine sqv hf (r_add (C := (((i : Nat) : Int) + (1 : Int))) rfl rfl (by rw [IntKind.wrap_i64]; omega)) rfl rfl rfl ?_; clear hf fa; intro fa hf
              refine sqv hf (r_assign rfl) rfl rfl rfl ?_; clear hf fa; intro fa hf
              apply wpList_nil
              (try simp only [Exit.then, Exit.inBlock, ↓reduceIte, Nat.reduceEqDiff])
              have hdd : (C.drop (i + 1)).take m = C.drop (i + 1) := List.take_of_length_le (by rw [List.length_drop]; omega)
              rw [hdd] at hlb
              have hgi : C.getD i zCe = y := by rw [List.getD_eq_getElem?_getD, hy]; rfl
              have hst : sumG C (i + 1) = (sumG C i + cP y) % 18446744073709551616 := by rw [sumG, hgi, ← hlb, if_pos hqt39_1]
              refine hKL1 _ _ _ (by omega) ⟨(i + 1), rfl, hf.sub ⟨rfl, (some_int (by first | rfl | omega)), (some_int (by first | rfl | omega)), trivial⟩, hb, hkb1, by omega⟩
          · have hqt39_1b := hqt39_1
            replace hqt39_1 := Bool.eq_false_iff.1 hqt39_1
            try simp only [ne_eq, decide_eq_true_eq, Bool.and_eq_true, Bool.or_eq_true, Bool.not_eq_true', decide_eq_false_iff_not] at hqt39_1
            refine wp_skip ?_
            (try simp only [Exit.then, Exit.inBlock, ↓reduceIte, Nat.reduceEqDiff])
            refine hK7 _ _ ?_
            refine wp_region_lit ?_
            refine sqv hf (r_move rfl) rfl rfl rfl ?_; clear hf fa; intro fa hf
            refine sqv hf (r_add (C := (((i : Nat) : Int) + (1 : Int))) rfl rfl (by rw [IntKind.wrap_i64]; omega)) rfl rfl rfl ?_; clear hf fa; intro fa hf
            refine sqv hf (r_assign rfl) rfl rfl rfl ?_; clear hf fa; intro fa hf
            apply wpList_nil
            (try simp only [Exit.then, Exit.inBlock, ↓reduceIte, Nat.reduceEqDiff])
            have hdd : (C.drop (i + 1)).take m = C.drop (i + 1) := List.take_of_length_le (by rw [List.length_drop]; omega)
            rw [hdd] at hlb
            have hgi : C.getD i zCe = y := by rw [List.getD_eq_getElem?_getD, hy]; rfl
            have hst : sumG C (i + 1) = sumG C i := by rw [sumG, hgi, ← hlb, if_neg hqt39_1]
            refine hKL1 _ _ _ (by omega) ⟨(i + 1), rfl, hf.sub ⟨rfl, (some_int (by first | rfl | omega)), (some_int (by first | rfl | omega)), trivial⟩, hb, hkb1, by omega⟩
    · have hqt11_1b := hqt11_1
      replace hqt11_1 := Bool.eq_false_iff.1 hqt11_1
      try simp only [ne_eq, decide_eq_true_eq, Bool.and_eq_true, Bool.or_eq_true, Bool.not_eq_true', decide_eq_false_iff_not] at hqt11_1
      refine wp_exit ?_
      (try simp only [Exit.then, Exit.inBlock, ↓reduceIte, Nat.reduceEqDiff])
      refine hK3 _ _ ?_
      refine wp_seq_k (fun K15 hK15 => ?_)
      refine wp_region_lit ?_
      refine sqv hf (r_move rfl) rfl rfl rfl ?_; clear hf fa; intro fa hf
      refine sqv hf (r_assign rfl) rfl rfl rfl ?_; clear hf fa; intro fa hf
      apply wpList_nil
      (try simp only [Exit.then, Exit.inBlock, ↓reduceIte, Nat.reduceEqDiff])
      refine hK15 _ _ ?_
      refine wp_ret ?_
      (try simp only [Exit.then, Exit.inBlock])
      refine ret1 hf rfl rfl ?_
      obtain rfl : i = C.length := by omega
      exact ⟨rfl, hb⟩

def okL (op : Nat) : Bool := (accT op).2.2.2.2 && !(accT op).2.2.1
def wl (j : Nat) : Nat := ([1, 2, 4, 8] : List Nat).getD j 0
theorem wl_at {j : Nat} (h : j < 4) : (#[Value.int .i64 1, .int .i64 2, .int .i64 4, .int .i64 8] : Array Value)[j]? = some (.int .i64 ((wl j : Nat) : Int)) := by
  rcases j with _ | _ | _ | _ | j
  · rfl
  · rfl
  · rfl
  · rfl
  · omega
theorem wl_ok {j : Nat} (h : j < 4) : 1 ≤ wl j ∧ wl j ≤ 8 := by
  rcases j with _ | _ | _ | _ | j
  · decide
  · decide
  · decide
  · decide
  · omega
theorem acc_wl {op : Nat} (hop : op < 256) (h : (accT op).2.2.2.2 = true) : ∃ j, j < 4 ∧ ((wl j : Nat) : Int) = (accT op).1 := by
  have key : ∀ k : Fin 256, (accT k.val).2.2.2.2 = true → (accT k.val).1 = 1 ∨ (accT k.val).1 = 2 ∨ (accT k.val).1 = 4 ∨ (accT k.val).1 = 8 := by decide +kernel
  rcases key ⟨op, hop⟩ h with h1 | h1 | h1 | h1
  · exact ⟨0, by omega, h1.symm⟩
  · exact ⟨1, by omega, h1.symm⟩
  · exact ⟨2, by omega, h1.symm⟩
  · exact ⟨3, by omega, h1.symm⟩
/-- What width tells of a reading. -/
def widT (op : Nat) : Int × Bool := if (writeT op 0).2 = true then ((((writeT op 0).1.length : Nat) : Int), false) else if okL op = true then ((accT op).1, true) else (0, false)
theorem read_to (op : Nat) (a : Option Addr) (l : List Int) (n c : Nat) (w : World) (hl : RdS 1 (vInt .u8) w a l) (hb6 : ∀ y ∈ l, 0 ≤ y ∧ y < 256) (hlc : l.length ≤ 9223372036854775807) (hop : op < 256) (hn : n = l.length) : Calls Try.prog 44 #[(.int .u8 ((op : Nat) : Int)), (.slice a n c)] w fun e w' => e = .returned (.tuple #[.agg #[.int .u8 (readT op l).1, .int .u64 (((readT op l).2.1 : Nat) : Int)], .bool (readT op l).2.2]) ∧ Below w.heap.size w w' := by
  subst hn
  exact read_any op a l c w hl hb6 hlc hop
theorem readT_ok (op : Nat) (l : List Int) : (readT op l).2.2 = (okL op && decide (((l.length : Nat) : Int) = (accT op).1)) := by
  unfold readT okL
  split
  · rename_i h
    obtain ⟨h1, h2, h3⟩ := h
    rw [h1, h2, decide_eq_true h3]; rfl
  · rename_i h
    cases h1 : (accT op).2.2.2.2 with
    | false => rfl
    | true =>
      cases h2 : (accT op).2.2.1 with
      | true => rfl
      | false => rw [decide_eq_false (fun e => h ⟨h1, h2, e⟩)]; rfl
theorem zer6 (n : Nat) : ∀ x ∈ List.replicate n (0 : Int), 0 ≤ x ∧ x < 256 := by intro x hx; rw [List.eq_of_mem_replicate hx]; omega

set_option maxHeartbeats 1000000 in
set_option maxRecDepth 100000 in
theorem width_any (op : Nat) (w : World) (hop : op < 256) : Calls Try.prog 93 #[(.int .u8 ((op : Nat) : Int)), (.bool false)] w fun e w' => e = .returned (.tuple #[.int .i64 (widT op).1, .bool (widT op).2]) ∧ Below w.heap.size w w' := by
  refine sx_enter (L := [(0, (.int .u8 ((op : Nat) : Int))), (1, (.bool false))]) Try.func93 rfl rfl rfl rfl (fun fa hf => ?_)
  have hb : Below w.heap.size w w := Below.refl _ _
  refine wp_seq_k (fun K1 hK1 => ?_)
  refine wp_region_lit ?_
  refine sqv hf (r_assign rfl) rfl rfl rfl ?_; clear hf fa; intro fa hf
  refine sqv hf (r_assign rfl) rfl rfl rfl ?_; clear hf fa; intro fa hf
  apply wpList_nil
  (try simp only [Exit.then, Exit.inBlock, ↓reduceIte, Nat.reduceEqDiff])
  refine hK1 _ _ ?_
  refine wp_seq_k (fun K2 hK2 => ?_)
  refine wp_seq_k (fun K3 hK3 => ?_)
  refine wp_region_lit ?_
  refine sqv hf (r_move rfl) rfl rfl rfl ?_; clear hf fa; intro fa hf
  refine sqdt hf (d_callX (vs := [(.int .u8 ((op : Nat) : Int)), (.int .u64 (0 : Int))]) rfl Try.func46 (by kernel_rfl) (by kernel_rfl) (write_any op 0 _ (by omega) hop)) rfl rfl rfl ?_; clear hf fa; rintro fa _ w1 ⟨wa, wc, rfl, hrw, he1⟩ hf
  replace hrw := Row.rebase hrw hb.size
  have hcw := Row.caps hrw
  have hwl := writeT_len op 0
  replace hb := hb.trans (Below.mono he1 hb.size)
  refine sqv hf (r_move rfl) rfl rfl rfl ?_; clear hf fa; intro fa hf
  refine sqv hf (r_extract rfl (i := 0) rfl) rfl rfl rfl ?_; clear hf fa; intro fa hf
  refine sqv hf (r_extract rfl (i := 1) rfl) rfl rfl rfl ?_; clear hf fa; intro fa hf
  refine sqv hf (r_assign rfl) rfl rfl rfl ?_; clear hf fa; intro fa hf
  refine sqv hf (r_assign rfl) rfl rfl rfl ?_; clear hf fa; intro fa hf
  apply wpList_nil
  (try simp only [Exit.then, Exit.inBlock, ↓reduceIte, Nat.reduceEqDiff])
  refine hK3 _ _ ?_
  refine wp_seq_k (fun K4 hK4 => ?_)
  refine wp_region_lit ?_
  refine sqv hf (r_move rfl) rfl rfl rfl ?_; clear hf fa; intro fa hf
  apply wpList_nil
  (try simp only [Exit.then, Exit.inBlock, ↓reduceIte, Nat.reduceEqDiff])
  refine hK4 _ _ ?_
  refine wp_cond_split (t := (writeT op 0).2) (hf.ev rfl) (fun hqt17_1 => ?_) (fun hqt17_1 => ?_)
  · have hqt17_1b := hqt17_1
    try simp only [decide_eq_true_eq, Bool.and_eq_true, Bool.or_eq_true, Bool.not_eq_true', decide_eq_false_iff_not, ne_eq, Bool.not_eq_true] at hqt17_1
    refine wp_seq_k (fun K5 hK5 => ?_)
    refine wp_region_lit ?_
    refine sqv hf (r_move rfl) rfl rfl rfl ?_; clear hf fa; intro fa hf
    refine sqv hf (r_lensl rfl Try.underlying84) rfl rfl rfl ?_; clear hf fa; intro fa hf
    refine sqv hf (r_move rfl) rfl rfl rfl ?_; clear hf fa; intro fa hf
    refine sqv hf (r_assign rfl) rfl rfl rfl ?_; clear hf fa; intro fa hf
    refine sqv hf (r_assign rfl) rfl rfl rfl ?_; clear hf fa; intro fa hf
    apply wpList_nil
    (try simp only [Exit.then, Exit.inBlock, ↓reduceIte, Nat.reduceEqDiff])
    refine hK5 _ _ ?_
    refine wp_ret ?_
    (try simp only [Exit.then, Exit.inBlock])
    refine ret2 hf rfl rfl rfl ?_
    have hD : widT op = ((((writeT op 0).1.length : Nat) : Int), false) := by unfold widT; rw [if_pos (by have h := hqt17_1; exact h)]
    rw [hD]; exact ⟨rfl, hb⟩
  · have hqt17_1b := hqt17_1
    replace hqt17_1 := Bool.eq_false_iff.1 hqt17_1
    try simp only [ne_eq, decide_eq_true_eq, Bool.and_eq_true, Bool.or_eq_true, Bool.not_eq_true', decide_eq_false_iff_not] at hqt17_1
    refine wp_skip ?_
    (try simp only [Exit.then, Exit.inBlock, ↓reduceIte, Nat.reduceEqDiff])
    refine hK2 _ _ ?_
    refine wp_seq_k (fun K6 hK6 => ?_)
    refine wp_seq_k (fun K7 hK7 => ?_)
    refine wp_region_lit ?_
    refine sqv hf (r_build (vs := [(0, (.int .i64 (1 : Int))), (1, (.int .i64 (2 : Int))), (2, (.int .i64 (4 : Int))), (3, (.int .i64 (8 : Int)))]) (cs := #[(.int .i64 (1 : Int)), (.int .i64 (2 : Int)), (.int .i64 (4 : Int)), (.int .i64 (8 : Int))]) rfl (fun _ => by kernel_rfl)) rfl rfl rfl ?_; clear hf fa; intro fa hf
    refine sqv hf (r_move rfl) rfl rfl rfl ?_; clear hf fa; intro fa hf
    apply wpList_nil
    (try simp only [Exit.then, Exit.inBlock, ↓reduceIte, Nat.reduceEqDiff])
    refine hK7 _ _ ?_
    refine wp_block ?_
    refine wp_loop_k (fun mq fa wr => ∃ (j : Nat), mq = 4 - j ∧ Fr 37 fa [(0, (.int .u8 ((op : Nat) : Int))), (1, (.bool false)), (21, (.agg #[(.int .i64 (1 : Int)), (.int .i64 (2 : Int)), (.int .i64 (4 : Int)), (.int .i64 (8 : Int))])), (22, (.int .i64 ((j : Nat) : Int)))] ∧ Below w.heap.size w wr ∧ (j ≤ 4) ∧ (∀ i, i < j → ¬ (okL op = true ∧ ((wl i : Nat) : Int) = (accT op).1))) ?_ ?_
    · skip
      exact ⟨_, 0, rfl, hf.sub ⟨rfl, rfl, rfl, (some_int (by first | rfl | omega)), trivial⟩, hb, by omega, fun i hi => by omega⟩
    · skip
      clear hf fa; intro mq1 fa w2 hI KL1 hKL1
      clear hb
      clear hrw
      obtain ⟨j, hmq1, hf, hb, hj, hno⟩ := hI
      refine wp_seq_k (fun K8 hK8 => ?_)
      refine wp_region_lit ?_
      refine sqv hf (r_lt rfl rfl) rfl rfl rfl ?_; clear hf fa; intro fa hf
      apply wpList_nil
      (try simp only [Exit.then, Exit.inBlock, ↓reduceIte, Nat.reduceEqDiff])
      refine hK8 _ _ ?_
      refine wp_seq_k (fun K9 hK9 => ?_)
      refine wp_cond_split (t := (decide (((j : Nat) : Int) < (4 : Int)))) (hf.ev rfl) (fun hqt23_1 => ?_) (fun hqt23_1 => ?_)
      · have hqt23_1b := hqt23_1
        try simp only [decide_eq_true_eq, Bool.and_eq_true, Bool.or_eq_true, Bool.not_eq_true', decide_eq_false_iff_not, ne_eq, Bool.not_eq_true] at hqt23_1
        refine wp_skip ?_
        (try simp only [Exit.then, Exit.inBlock, ↓reduceIte, Nat.reduceEqDiff])
        refine hK9 _ _ ?_
        refine wp_seq_k (fun K10 hK10 => ?_)
        refine wp_block ?_
        refine wp_seq_k (fun K11 hK11 => ?_)
        have hwj := wl_ok (show j < 4 by omega)
        refine wp_region_lit ?_
        refine sqv hf (r_agindex (j := j) (v := .int .i64 ((wl j : Nat) : Int)) rfl rfl Try.underlying180 (by kernel_rfl) (by kernel_rfl) rfl (by omega) (wl_at (by omega))) rfl rfl rfl ?_; clear hf fa; intro fa hf
        refine sqv hf (r_assign rfl) rfl rfl rfl ?_; clear hf fa; intro fa hf
        apply wpList_nil
        (try simp only [Exit.then, Exit.inBlock, ↓reduceIte, Nat.reduceEqDiff])
        refine hK11 _ _ ?_
        refine wp_seq_k (fun K12 hK12 => ?_)
        refine wp_region_lit ?_
        refine sqv hf (r_move rfl) rfl rfl rfl ?_; clear hf fa; intro fa hf
        refine sqv hf (r_move rfl) rfl rfl rfl ?_; clear hf fa; intro fa hf
        refine sqdt hf (d_make (V := (vInt .u8)) (bytes := 1) (z := (.int .u8 (0 : Int))) (n := (wl j)) (zr := (0 : Int)) rfl rfl Try.underlying84 (by kernel_rfl) rfl (by intros; rfl) (by omega) (by unfold maxLen; omega)) rfl rfl rfl ?_; clear hf fa; rintro fa _ w3 ⟨mb1, rfl, hle1, hr1, he2⟩ hf
        have hBmb1 : w.heap.size ≤ mb1 := Nat.le_trans hb.size hle1
        replace hr1 := Row.rebase hr1 hb.size
        replace hb := hb.trans (Below.mono he2 hb.size)
        skip
        refine sqdt hf (d_callB (vs := [(.int .u8 ((op : Nat) : Int)), (.slice (some ⟨mb1, 0, none⟩) ((wl j)) (wl j))]) rfl Try.func44 (by kernel_rfl) (by kernel_rfl) (read_to op _ (List.replicate (wl j) (0 : Int)) _ _ _ (Row.rd (by intros; rfl) hr1) (zer6 _) (by rw [List.length_replicate]; omega) hop (by rw [List.length_replicate]))) rfl rfl rfl ?_; clear hf fa; rintro fa _ w4 ⟨rfl, he3⟩ hf
        replace hr1 := Row.ext hr1 he3
        replace hb := hb.trans (Below.mono he3 hb.size)
        refine sqv hf (r_move rfl) rfl rfl rfl ?_; clear hf fa; intro fa hf
        refine sqv hf (r_extract rfl (i := 0) rfl) rfl rfl rfl ?_; clear hf fa; intro fa hf
        refine sqv hf (r_extract rfl (i := 1) rfl) rfl rfl rfl ?_; clear hf fa; intro fa hf
        refine sqdt hf (d_alloc (z := (.agg #[(.int .u8 (0 : Int)), (.int .u64 (0 : Int))])) (cs := #[(.int .u8 (0 : Int)), (.int .u64 (0 : Int))]) (by kernel_rfl) rfl) rfl rfl rfl ?_; clear hf fa; rintro fa _ w5 ⟨b1, rfl, hle2, hk1, he4⟩ hf
        have hBb1 : w.heap.size ≤ b1 := Nat.le_trans hb.size hle2
        have : mb1 < b1 := Nat.lt_of_lt_of_le (Row.lt hr1 _ rfl).2 hle2
        replace hr1 := Row.ext hr1 he4
        replace hb := hb.trans (Below.mono he4 hb.size)
        refine sqn hf (d_storeK (T := 86) (v := (.agg #[(.int .u8 ((readT op (List.replicate (wl j) (0 : Int))).1)), (.int .u64 (((readT op (List.replicate (wl j) (0 : Int))).2.1 : Nat) : Int))])) (cs := #[(.int .u8 (0 : Int)), (.int .u64 (0 : Int))]) (cs' := #[(.int .u8 ((readT op (List.replicate (wl j) (0 : Int))).1)), (.int .u64 (((readT op (List.replicate (wl j) (0 : Int))).2.1 : Nat) : Int))]) rfl rfl (by kernel_rfl) (by kernel_rfl) hk1 (by kernel_rfl) (by kernel_rfl)) rfl rfl ?_; clear hf fa; rintro fa _ w6 ⟨hk2, hg1⟩ hf
        replace hr1 := Row.grown hr1 hg1 (Row.ne_type hr1 hk1 rfl)
        replace hb := hb.trans (grown_below hg1 hb.size hBb1)
        refine sqv hf (r_assign rfl) rfl rfl rfl ?_; clear hf fa; intro fa hf
        apply wpList_nil
        (try simp only [Exit.then, Exit.inBlock, ↓reduceIte, Nat.reduceEqDiff])
        refine hK12 _ _ ?_
        refine wp_seq_k (fun K13 hK13 => ?_)
        refine wp_region_lit ?_
        refine sqv hf (r_move rfl) rfl rfl rfl ?_; clear hf fa; intro fa hf
        apply wpList_nil
        (try simp only [Exit.then, Exit.inBlock, ↓reduceIte, Nat.reduceEqDiff])
        refine hK13 _ _ ?_
        refine wp_cond_split (t := (readT op (List.replicate (wl j) (0 : Int))).2.2) (hf.ev rfl) (fun hqt32_1 => ?_) (fun hqt32_1 => ?_)
        · have hqt32_1b := hqt32_1
          try simp only [decide_eq_true_eq, Bool.and_eq_true, Bool.or_eq_true, Bool.not_eq_true', decide_eq_false_iff_not, ne_eq, Bool.not_eq_true] at hqt32_1
          refine wp_seq_k (fun K14 hK14 => ?_)
          refine wp_region_lit ?_
          refine sqv hf (r_move rfl) rfl rfl rfl ?_; clear hf fa; intro fa hf
          refine sqv hf (r_move rfl) rfl rfl rfl ?_; clear hf fa; intro fa hf
          refine sqv hf (Runs.veq (v' := (.bool true)) (r_not rfl) rfl) rfl rfl rfl ?_; clear hf fa; intro fa hf
          refine sqv hf (r_assign rfl) rfl rfl rfl ?_; clear hf fa; intro fa hf
          refine sqv hf (r_assign rfl) rfl rfl rfl ?_; clear hf fa; intro fa hf
          apply wpList_nil
          (try simp only [Exit.then, Exit.inBlock, ↓reduceIte, Nat.reduceEqDiff])
          refine hK14 _ _ ?_
          refine wp_ret ?_
          (try simp only [Exit.then, Exit.inBlock])
          refine ret2 hf rfl rfl rfl ?_
          have hrd := hqt32_1
          rw [readT_ok, Bool.and_eq_true, List.length_replicate] at hrd
          have hwn : ((wl j : Nat) : Int) = (accT op).1 := by have h := of_decide_eq_true hrd.2; omega
          have hD : widT op = (((wl j : Nat) : Int), true) := by unfold widT; rw [if_neg (by have h := hqt17_1; exact h), if_pos hrd.1, hwn]
          rw [hD]; exact ⟨rfl, hb⟩
        · have hqt32_1b := hqt32_1
          replace hqt32_1 := Bool.eq_false_iff.1 hqt32_1
          try simp only [ne_eq, decide_eq_true_eq, Bool.and_eq_true, Bool.or_eq_true, Bool.not_eq_true', decide_eq_false_iff_not] at hqt32_1
          refine wp_skip ?_
          (try simp only [Exit.then, Exit.inBlock, ↓reduceIte, Nat.reduceEqDiff])
          refine hK10 _ _ ?_
          refine wp_region_lit ?_
          refine sqv hf (r_add (C := (((j : Nat) : Int) + (1 : Int))) rfl rfl (by rw [IntKind.wrap_i64]; omega)) rfl rfl rfl ?_; clear hf fa; intro fa hf
          refine sqv hf (r_move rfl) rfl rfl rfl ?_; clear hf fa; intro fa hf
          apply wpList_nil
          (try simp only [Exit.then, Exit.inBlock, ↓reduceIte, Nat.reduceEqDiff])
          have hno2 : ∀ i, i < j + 1 → ¬ (okL op = true ∧ ((wl i : Nat) : Int) = (accT op).1) := by
            intro i hi
            by_cases e : i = j
            · subst e
              intro hz
              have h := hqt32_1
              rw [readT_ok, hz.1, List.length_replicate] at h
              exact h (by rw [decide_eq_true hz.2]; rfl)
            · exact hno i (by omega)
          refine hKL1 _ _ _ (by omega) ⟨(j + 1), rfl, hf.sub ⟨rfl, rfl, rfl, (some_int (by first | rfl | omega)), trivial⟩, hb, by omega, hno2⟩
      · have hqt23_1b := hqt23_1
        replace hqt23_1 := Bool.eq_false_iff.1 hqt23_1
        try simp only [ne_eq, decide_eq_true_eq, Bool.and_eq_true, Bool.or_eq_true, Bool.not_eq_true', decide_eq_false_iff_not] at hqt23_1
        refine wp_exit ?_
        (try simp only [Exit.then, Exit.inBlock, ↓reduceIte, Nat.reduceEqDiff])
        refine hK6 _ _ ?_
        refine wp_seq_k (fun K15 hK15 => ?_)
        refine wp_region_lit ?_
        refine sqv hf (r_assign rfl) rfl rfl rfl ?_; clear hf fa; intro fa hf
        refine sqv hf (r_assign rfl) rfl rfl rfl ?_; clear hf fa; intro fa hf
        apply wpList_nil
        (try simp only [Exit.then, Exit.inBlock, ↓reduceIte, Nat.reduceEqDiff])
        refine hK15 _ _ ?_
        refine wp_ret ?_
        (try simp only [Exit.then, Exit.inBlock])
        refine ret2 hf rfl rfl rfl ?_
        have hok : ¬ okL op = true := by
          intro hz
          have h2 := hz
          unfold okL at h2
          rw [Bool.and_eq_true] at h2
          obtain ⟨i, hi, hw⟩ := acc_wl hop h2.1
          exact hno i (by omega) ⟨hz, hw⟩
        have hD : widT op = (0, false) := by unfold widT; rw [if_neg (by have h := hqt17_1; exact h), if_neg hok]
        rw [hD]; exact ⟨rfl, hb⟩

set_option maxHeartbeats 1000000 in
set_option maxRecDepth 100000 in
theorem mlen_p (p mg cap : Nat) (L : List Int) (mo : Int) (B : Nat) (w : World) (hpb : w.heap[p]? = some (.cells #[.slice (some ⟨mg, 0, none⟩) L.length cap, .int .i64 mo] 152 (0, 0))) (hRM : Row 1 (vInt .u8) 5 B w (.slice (some ⟨mg, 0, none⟩) L.length cap) L) (hL : L.length ≤ 16777216) (hL6 : ∀ x ∈ L, 0 ≤ x ∧ x < 256) : Calls Try.prog 61 #[(.pointer (some ⟨p, 0, none⟩))] w fun e w' => e = .returned (.int .i64 ((L.length : Nat) : Int)) ∧ Below w.heap.size w w' := by
  have hcM := Row.caps hRM
  have hpl := (Array.getElem?_eq_some_iff.1 hpb).1
  refine sx_enter (L := [(0, (.pointer (some ⟨p, 0, none⟩)))]) Try.func61 rfl rfl rfl rfl (fun fa hf => ?_)
  have hb : Below w.heap.size w w := Below.refl _ _
  refine wp_seq_k (fun K1 hK1 => ?_)
  refine wp_region_lit ?_
  refine sqv hf (r_assign rfl) rfl rfl rfl ?_; clear hf fa; intro fa hf
  apply wpList_nil
  (try simp only [Exit.then, Exit.inBlock, ↓reduceIte, Nat.reduceEqDiff])
  refine hK1 _ _ ?_
  refine wp_seq_k (fun K2 hK2 => ?_)
  refine wp_region_lit ?_
  refine sqv hf (r_move rfl) rfl rfl rfl ?_; clear hf fa; intro fa hf
  refine sqv hf (r_nilCheck rfl) rfl rfl rfl ?_; clear hf fa; intro fa hf
  refine sqv hf (r_fa rfl Try.underlying152 (f := 0) (q := 0) rfl (by kernel_rfl) rfl) rfl rfl rfl ?_; clear hf fa; intro fa hf
  refine sqv hf (r_load (v := (.slice (some ⟨mg, 0, none⟩) L.length cap)) rfl Try.underlying84 rfl (cell_blk hpb rfl)) rfl rfl rfl ?_; clear hf fa; intro fa hf
  refine sqv hf (r_lensl rfl Try.underlying84) rfl rfl rfl ?_; clear hf fa; intro fa hf
  refine sqv hf (r_assign rfl) rfl rfl rfl ?_; clear hf fa; intro fa hf
  apply wpList_nil
  (try simp only [Exit.then, Exit.inBlock, ↓reduceIte, Nat.reduceEqDiff])
  refine hK2 _ _ ?_
  refine wp_ret ?_
  (try simp only [Exit.then, Exit.inBlock])
  refine ret1 hf rfl rfl ?_
  exact ⟨rfl, hb⟩

set_option maxHeartbeats 1000000 in
set_option maxRecDepth 100000 in
theorem mmost_p (p mg cap : Nat) (L : List Int) (mo : Int) (B : Nat) (w : World) (hpb : w.heap[p]? = some (.cells #[.slice (some ⟨mg, 0, none⟩) L.length cap, .int .i64 mo] 152 (0, 0))) (hRM : Row 1 (vInt .u8) 5 B w (.slice (some ⟨mg, 0, none⟩) L.length cap) L) (hL : L.length ≤ 16777216) (hL6 : ∀ x ∈ L, 0 ≤ x ∧ x < 256) : Calls Try.prog 59 #[(.pointer (some ⟨p, 0, none⟩))] w fun e w' => e = .returned (.int .i64 mo) ∧ Below w.heap.size w w' := by
  have hcM := Row.caps hRM
  have hpl := (Array.getElem?_eq_some_iff.1 hpb).1
  refine sx_enter (L := [(0, (.pointer (some ⟨p, 0, none⟩)))]) Try.func59 rfl rfl rfl rfl (fun fa hf => ?_)
  have hb : Below w.heap.size w w := Below.refl _ _
  refine wp_seq_k (fun K1 hK1 => ?_)
  refine wp_region_lit ?_
  refine sqv hf (r_assign rfl) rfl rfl rfl ?_; clear hf fa; intro fa hf
  apply wpList_nil
  (try simp only [Exit.then, Exit.inBlock, ↓reduceIte, Nat.reduceEqDiff])
  refine hK1 _ _ ?_
  refine wp_seq_k (fun K2 hK2 => ?_)
  refine wp_region_lit ?_
  refine sqv hf (r_move rfl) rfl rfl rfl ?_; clear hf fa; intro fa hf
  refine sqv hf (r_nilCheck rfl) rfl rfl rfl ?_; clear hf fa; intro fa hf
  refine sqv hf (r_fa rfl Try.underlying152 (f := 1) (q := 1) rfl (by kernel_rfl) rfl) rfl rfl rfl ?_; clear hf fa; intro fa hf
  refine sqv hf (r_load (v := (.int .i64 mo)) rfl Try.underlying3 rfl (cell_blk hpb rfl)) rfl rfl rfl ?_; clear hf fa; intro fa hf
  refine sqv hf (r_assign rfl) rfl rfl rfl ?_; clear hf fa; intro fa hf
  apply wpList_nil
  (try simp only [Exit.then, Exit.inBlock, ↓reduceIte, Nat.reduceEqDiff])
  refine hK2 _ _ ?_
  refine wp_ret ?_
  (try simp only [Exit.then, Exit.inBlock])
  refine ret1 hf rfl rfl ?_
  exact ⟨rfl, hb⟩

/-- What Load tells. -/
def loadT (op b o : Nat) (L : List Int) : Int × Nat × Int :=
  if okL op = true then (if (plP b o (accT op).1.toNat L.length).2 = true then ((readT op ((L.drop (plP b o (accT op).1.toNat L.length).1).take (accT op).1.toNat)).1, (readT op ((L.drop (plP b o (accT op).1.toNat L.length).1).take (accT op).1.toNat)).2.1, 0) else (0, 0, 63)) else (0, 0, 9)
theorem widT_snd (op : Nat) : (widT op).2 = okL op := by
  unfold widT
  split
  · rename_i h
    rw [writeT_snd] at h
    unfold okL
    rw [Bool.and_eq_true] at h
    rw [h.1, h.2]; rfl
  · split
    · rename_i h; rw [h]
    · rename_i h; exact (Bool.eq_false_iff.2 h).symm
theorem widT_fst {op : Nat} (h : okL op = true) : (widT op).1 = (accT op).1 := by
  unfold widT
  rw [if_neg ?_, if_pos h]
  rw [writeT_snd]
  unfold okL at h
  rw [Bool.and_eq_true] at h
  intro hz
  rw [Bool.and_eq_true] at hz
  rw [hz.2] at h
  exact absurd h.2 (by decide)
theorem plP_in {b o n s : Nat} (h : (plP b o n s).2 = true) : (plP b o n s).1 ≤ s ∧ n ≤ s - (plP b o n s).1 := by
  unfold plP at h ⊢
  exact of_decide_eq_true h
theorem width_L {op : Nat} (w : World) (hop : op < 256) : Calls Try.prog 93 #[.int .u8 ((op : Nat) : Int), .bool false] w fun e w' => e = .returned (.tuple #[.int .i64 (widT op).1, .bool (okL op)]) ∧ Below w.heap.size w w' := by
  have h := width_any op w hop
  rw [widT_snd] at h
  exact h

set_option maxHeartbeats 1000000 in
set_option maxRecDepth 100000 in
theorem load_p (p mg cap : Nat) (L : List Int) (mo : Int) (B : Nat) (w : World) (hpb : w.heap[p]? = some (.cells #[.slice (some ⟨mg, 0, none⟩) L.length cap, .int .i64 mo] 152 (0, 0))) (hRM : Row 1 (vInt .u8) 5 B w (.slice (some ⟨mg, 0, none⟩) L.length cap) L) (hL : L.length ≤ 16777216) (hL6 : ∀ x ∈ L, 0 ≤ x ∧ x < 256) (op b o : Nat) (hop : op < 256) (hb0 : b < 18446744073709551616) (ho0 : o < 18446744073709551616) : Calls Try.prog 90 #[(.pointer (some ⟨p, 0, none⟩)), (.int .u8 ((op : Nat) : Int)), (.int .u64 ((b : Nat) : Int)), (.int .u64 ((o : Nat) : Int))] w fun e w' => e = .returned (.tuple #[.agg #[.int .u8 (loadT op b o L).1, .int .u64 (((loadT op b o L).2.1 : Nat) : Int)], .int .i64 (loadT op b o L).2.2]) ∧ Below w.heap.size w w' := by
  have hcM := Row.caps hRM
  have hpl := (Array.getElem?_eq_some_iff.1 hpb).1
  refine sx_enter (L := [(0, (.pointer (some ⟨p, 0, none⟩))), (1, (.int .u8 ((op : Nat) : Int))), (2, (.int .u64 ((b : Nat) : Int))), (3, (.int .u64 ((o : Nat) : Int)))]) Try.func90 rfl rfl rfl rfl (fun fa hf => ?_)
  have hb : Below w.heap.size w w := Below.refl _ _
  refine wp_seq_k (fun K1 hK1 => ?_)
  refine wp_region_lit ?_
  refine sqdt hf (d_alloc (z := (.agg #[(.int .u8 (0 : Int)), (.int .u64 (0 : Int))])) (cs := #[(.int .u8 (0 : Int)), (.int .u64 (0 : Int))]) (by kernel_rfl) rfl) rfl rfl rfl ?_; clear hf fa; rintro fa _ w1 ⟨b1, rfl, hle1, hk1, he1⟩ hf
  have hBb1 : w.heap.size ≤ b1 := Nat.le_trans hb.size hle1
  have : p < b1 := Nat.lt_of_lt_of_le (blk_lt hpb) hle1
  have : mg < b1 := Nat.lt_of_lt_of_le (Row.lt hRM _ rfl).2 hle1
  replace hpb := blk_ext hpb he1
  replace hRM := Row.ext hRM he1
  replace hb := hb.trans (Below.mono he1 hb.size)
  refine sqv hf (r_assign rfl) rfl rfl rfl ?_; clear hf fa; intro fa hf
  apply wpList_nil
  (try simp only [Exit.then, Exit.inBlock, ↓reduceIte, Nat.reduceEqDiff])
  refine hK1 _ _ ?_
  refine wp_seq_k (fun K2 hK2 => ?_)
  refine wp_region_lit ?_
  refine sqv hf (r_move rfl) rfl rfl rfl ?_; clear hf fa; intro fa hf
  refine sqdt hf (d_callB (vs := [(.int .u8 ((op : Nat) : Int)), (.bool false)]) rfl Try.func93 (by kernel_rfl) (by kernel_rfl) (width_L _ hop)) rfl rfl rfl ?_; clear hf fa; rintro fa _ w2 ⟨rfl, he2⟩ hf
  replace hpb := blk_ext hpb he2
  replace hk1 := blk_ext hk1 he2
  replace hRM := Row.ext hRM he2
  replace hb := hb.trans (Below.mono he2 hb.size)
  refine sqv hf (r_move rfl) rfl rfl rfl ?_; clear hf fa; intro fa hf
  refine sqv hf (r_extract rfl (i := 0) rfl) rfl rfl rfl ?_; clear hf fa; intro fa hf
  refine sqv hf (r_extract rfl (i := 1) rfl) rfl rfl rfl ?_; clear hf fa; intro fa hf
  refine sqv hf (r_assign rfl) rfl rfl rfl ?_; clear hf fa; intro fa hf
  refine sqv hf (r_assign rfl) rfl rfl rfl ?_; clear hf fa; intro fa hf
  apply wpList_nil
  (try simp only [Exit.then, Exit.inBlock, ↓reduceIte, Nat.reduceEqDiff])
  refine hK2 _ _ ?_
  refine wp_seq_k (fun K3 hK3 => ?_)
  refine wp_seq_k (fun K4 hK4 => ?_)
  refine wp_region_lit ?_
  refine sqv hf (r_move rfl) rfl rfl rfl ?_; clear hf fa; intro fa hf
  refine sqv hf (r_not rfl) rfl rfl rfl ?_; clear hf fa; intro fa hf
  apply wpList_nil
  (try simp only [Exit.then, Exit.inBlock, ↓reduceIte, Nat.reduceEqDiff])
  refine hK4 _ _ ?_
  refine wp_cond_split (t := (!(okL op))) (hf.ev rfl) (fun hqt22_1 => ?_) (fun hqt22_1 => ?_)
  · have hqt22_1b := hqt22_1
    try simp only [decide_eq_true_eq, Bool.and_eq_true, Bool.or_eq_true, Bool.not_eq_true', decide_eq_false_iff_not, ne_eq, Bool.not_eq_true] at hqt22_1
    refine wp_seq_k (fun K5 hK5 => ?_)
    refine wp_region_lit ?_
    refine sqv hf (r_build (vs := []) (cs := #[(.int .u8 (0 : Int)), (.int .u64 (0 : Int))]) rfl (fun _ => by kernel_rfl)) rfl rfl rfl ?_; clear hf fa; intro fa hf
    refine sqn hf (d_storeK (T := 86) (v := (.agg #[(.int .u8 (0 : Int)), (.int .u64 (0 : Int))])) (cs := #[(.int .u8 (0 : Int)), (.int .u64 (0 : Int))]) (cs' := #[(.int .u8 (0 : Int)), (.int .u64 (0 : Int))]) rfl rfl (by kernel_rfl) (by kernel_rfl) hk1 (by kernel_rfl) (by kernel_rfl)) rfl rfl ?_; clear hf fa; rintro fa _ w3 ⟨hk2, hg1⟩ hf
    replace hpb := blk_grown hpb hg1 (by omega)
    replace hRM := Row.grown hRM hg1 (Row.ne_type hRM hk1 rfl)
    replace hb := hb.trans (grown_below hg1 hb.size hBb1)
    refine sqv hf (r_assign rfl) rfl rfl rfl ?_; clear hf fa; intro fa hf
    apply wpList_nil
    (try simp only [Exit.then, Exit.inBlock, ↓reduceIte, Nat.reduceEqDiff])
    refine hK5 _ _ ?_
    refine wp_ret ?_
    (try simp only [Exit.then, Exit.inBlock])
    refine retCT hf rfl rfl hk2 Try.underlying86 rfl (by kernel_rfl) rfl ?_
    have hok : ¬ okL op = true := by have h := hqt22_1; simpa using h
    have hD : loadT op b o L = (0, 0, 9) := by unfold loadT; rw [if_neg hok]
    rw [hD]; exact ⟨rfl, hb⟩
  · have hqt22_1b := hqt22_1
    replace hqt22_1 := Bool.eq_false_iff.1 hqt22_1
    try simp only [ne_eq, decide_eq_true_eq, Bool.and_eq_true, Bool.or_eq_true, Bool.not_eq_true', decide_eq_false_iff_not] at hqt22_1
    refine wp_skip ?_
    (try simp only [Exit.then, Exit.inBlock, ↓reduceIte, Nat.reduceEqDiff])
    refine hK3 _ _ ?_
    refine wp_seq_k (fun K6 hK6 => ?_)
    have hok : okL op = true := by have h := hqt22_1; simpa using h
    obtain ⟨hA1, hA2, hA3, hA4, hA5⟩ := accT_ok hop
    have hok5 : (accT op).2.2.2.2 = true := by have h := hok; unfold okL at h; rw [Bool.and_eq_true] at h; exact h.1
    have hA6 := hA5 hok5
    obtain ⟨n0, hn0⟩ : ∃ n : Nat, (accT op).1.toNat = n := ⟨_, rfl⟩
    have hnI : (widT op).1 = ((n0 : Nat) : Int) := by rw [widT_fst hok]; omega
    rw [hnI] at hf
    skip
    refine wp_region_lit ?_
    refine sqv hf (r_move rfl) rfl rfl rfl ?_; clear hf fa; intro fa hf
    refine sqv hf (r_move rfl) rfl rfl rfl ?_; clear hf fa; intro fa hf
    refine sqv hf (r_move rfl) rfl rfl rfl ?_; clear hf fa; intro fa hf
    refine sqv hf (r_move rfl) rfl rfl rfl ?_; clear hf fa; intro fa hf
    refine sqv hf (r_nilCheck rfl) rfl rfl rfl ?_; clear hf fa; intro fa hf
    refine sqv hf (r_fa rfl Try.underlying152 (f := 0) (q := 0) rfl (by kernel_rfl) rfl) rfl rfl rfl ?_; clear hf fa; intro fa hf
    refine sqv hf (r_load (v := (.slice (some ⟨mg, 0, none⟩) L.length cap)) rfl Try.underlying84 rfl (cell_blk hpb rfl)) rfl rfl rfl ?_; clear hf fa; intro fa hf
    refine sqv hf (r_lensl rfl Try.underlying84) rfl rfl rfl ?_; clear hf fa; intro fa hf
    refine sqv hf (r_conv (C := ((L.length : Nat) : Int)) rfl Try.underlying3 Try.underlying26 (by rw [IntKind.wrap_u64]; omega)) rfl rfl rfl ?_; clear hf fa; intro fa hf
    refine sqdt hf (d_callB (vs := [(.int .u64 ((b : Nat) : Int)), (.int .u64 ((o : Nat) : Int)), (.int .i64 ((n0 : Nat) : Int)), (.int .u64 ((L.length : Nat) : Int))]) rfl Try.func94 (by kernel_rfl) (by kernel_rfl) (place_any b o n0 L.length _ (by omega) (by omega) (by omega) (by omega))) rfl rfl rfl ?_; clear hf fa; rintro fa _ w4 ⟨rfl, he3⟩ hf
    replace hpb := blk_ext hpb he3
    replace hk1 := blk_ext hk1 he3
    replace hRM := Row.ext hRM he3
    replace hb := hb.trans (Below.mono he3 hb.size)
    refine sqv hf (r_move rfl) rfl rfl rfl ?_; clear hf fa; intro fa hf
    refine sqv hf (r_extract rfl (i := 0) rfl) rfl rfl rfl ?_; clear hf fa; intro fa hf
    refine sqv hf (r_extract rfl (i := 1) rfl) rfl rfl rfl ?_; clear hf fa; intro fa hf
    refine sqv hf (r_assign rfl) rfl rfl rfl ?_; clear hf fa; intro fa hf
    refine sqv hf (r_assign rfl) rfl rfl rfl ?_; clear hf fa; intro fa hf
    apply wpList_nil
    (try simp only [Exit.then, Exit.inBlock, ↓reduceIte, Nat.reduceEqDiff])
    refine hK6 _ _ ?_
    refine wp_seq_k (fun K7 hK7 => ?_)
    refine wp_seq_k (fun K8 hK8 => ?_)
    refine wp_region_lit ?_
    refine sqv hf (r_move rfl) rfl rfl rfl ?_; clear hf fa; intro fa hf
    refine sqv hf (r_not rfl) rfl rfl rfl ?_; clear hf fa; intro fa hf
    apply wpList_nil
    (try simp only [Exit.then, Exit.inBlock, ↓reduceIte, Nat.reduceEqDiff])
    refine hK8 _ _ ?_
    refine wp_cond_split (t := (!(plP b o n0 L.length).2)) (hf.ev rfl) (fun hqt38_1 => ?_) (fun hqt38_1 => ?_)
    · have hqt38_1b := hqt38_1
      try simp only [decide_eq_true_eq, Bool.and_eq_true, Bool.or_eq_true, Bool.not_eq_true', decide_eq_false_iff_not, ne_eq, Bool.not_eq_true] at hqt38_1
      refine wp_seq_k (fun K9 hK9 => ?_)
      refine wp_region_lit ?_
      refine sqv hf (r_build (vs := []) (cs := #[(.int .u8 (0 : Int)), (.int .u64 (0 : Int))]) rfl (fun _ => by kernel_rfl)) rfl rfl rfl ?_; clear hf fa; intro fa hf
      refine sqn hf (d_storeK (T := 86) (v := (.agg #[(.int .u8 (0 : Int)), (.int .u64 (0 : Int))])) (cs := #[(.int .u8 (0 : Int)), (.int .u64 (0 : Int))]) (cs' := #[(.int .u8 (0 : Int)), (.int .u64 (0 : Int))]) rfl rfl (by kernel_rfl) (by kernel_rfl) hk1 (by kernel_rfl) (by kernel_rfl)) rfl rfl ?_; clear hf fa; rintro fa _ w5 ⟨hk3, hg2⟩ hf
      replace hpb := blk_grown hpb hg2 (by omega)
      replace hRM := Row.grown hRM hg2 (Row.ne_type hRM hk1 rfl)
      replace hb := hb.trans (grown_below hg2 hb.size hBb1)
      refine sqv hf (r_assign rfl) rfl rfl rfl ?_; clear hf fa; intro fa hf
      apply wpList_nil
      (try simp only [Exit.then, Exit.inBlock, ↓reduceIte, Nat.reduceEqDiff])
      refine hK9 _ _ ?_
      refine wp_ret ?_
      (try simp only [Exit.then, Exit.inBlock])
      refine retCT hf rfl rfl hk3 Try.underlying86 rfl (by kernel_rfl) rfl ?_
      have hni : ¬ (plP b o (accT op).1.toNat L.length).2 = true := by have h := hqt38_1; rw [hn0]; simpa using h
      have hD : loadT op b o L = (0, 0, 63) := by unfold loadT; rw [if_pos hok, if_neg hni]
      rw [hD]; exact ⟨rfl, hb⟩
    · have hqt38_1b := hqt38_1
      replace hqt38_1 := Bool.eq_false_iff.1 hqt38_1
      try simp only [ne_eq, decide_eq_true_eq, Bool.and_eq_true, Bool.or_eq_true, Bool.not_eq_true', decide_eq_false_iff_not] at hqt38_1
      refine wp_skip ?_
      (try simp only [Exit.then, Exit.inBlock, ↓reduceIte, Nat.reduceEqDiff])
      refine hK7 _ _ ?_
      refine wp_seq_k (fun K10 hK10 => ?_)
      have hin : (plP b o n0 L.length).2 = true := by have h := hqt38_1; simpa using h
      have hpi := plP_in hin
      have hXl : ((L.drop (plP b o n0 L.length).1).take n0).length = n0 := by rw [List.length_take, List.length_drop]; omega
      refine wp_region_lit ?_
      refine sqv hf (r_move rfl) rfl rfl rfl ?_; clear hf fa; intro fa hf
      refine sqv hf (r_move rfl) rfl rfl rfl ?_; clear hf fa; intro fa hf
      refine sqv hf (r_nilCheck rfl) rfl rfl rfl ?_; clear hf fa; intro fa hf
      refine sqv hf (r_fa rfl Try.underlying152 (f := 0) (q := 0) rfl (by kernel_rfl) rfl) rfl rfl rfl ?_; clear hf fa; intro fa hf
      refine sqv hf (r_load (v := (.slice (some ⟨mg, 0, none⟩) L.length cap)) rfl Try.underlying84 rfl (cell_blk hpb rfl)) rfl rfl rfl ?_; clear hf fa; intro fa hf
      refine sqv hf (r_move rfl) rfl rfl rfl ?_; clear hf fa; intro fa hf
      refine sqv hf (r_move rfl) rfl rfl rfl ?_; clear hf fa; intro fa hf
      refine sqv hf (r_move rfl) rfl rfl rfl ?_; clear hf fa; intro fa hf
      refine sqv hf (r_conv (C := ((n0 : Nat) : Int)) rfl Try.underlying3 Try.underlying26 (by rw [IntKind.wrap_u64]; omega)) rfl rfl rfl ?_; clear hf fa; intro fa hf
      refine sqv hf (r_add (C := ((((plP b o n0 L.length).1 : Nat) : Int) + ((n0 : Nat) : Int))) rfl rfl (by rw [IntKind.wrap_u64]; omega)) rfl rfl rfl ?_; clear hf fa; intro fa hf
      refine sqv hf (r_slab (l := ((plP b o n0 L.length).1)) (h := (((plP b o n0 L.length).1) + n0)) (sz := 1) rfl rfl rfl Try.underlying84 (by kernel_rfl) rfl rfl (by omega) (by omega)) rfl rfl rfl ?_; clear hf fa; intro fa hf
      refine sqdt hf (d_callB (vs := [(.int .u8 ((op : Nat) : Int)), (.slice (slAt (some ⟨mg, 0, none⟩) cap ((plP b o n0 L.length).1) 1) (((((plP b o n0 L.length).1) + n0) - ((plP b o n0 L.length).1))) (cap - ((plP b o n0 L.length).1)))]) rfl Try.func44 (by kernel_rfl) (by kernel_rfl) (read_to op _ ((L.drop (plP b o n0 L.length).1).take n0) _ _ _ (slAt_rd (X := ((L.drop (plP b o n0 L.length).1).take n0)) (by intros; rfl) hRM (by rw [hXl]) (by rw [hXl]; omega)) (fun x hx => hL6 x (List.mem_of_mem_drop (List.mem_of_mem_take hx))) (by rw [hXl]; omega) hop (by rw [hXl]; omega))) rfl rfl rfl ?_; clear hf fa; rintro fa _ w6 ⟨rfl, he4⟩ hf
      replace hpb := blk_ext hpb he4
      replace hk1 := blk_ext hk1 he4
      replace hRM := Row.ext hRM he4
      replace hb := hb.trans (Below.mono he4 hb.size)
      refine sqv hf (r_move rfl) rfl rfl rfl ?_; clear hf fa; intro fa hf
      refine sqv hf (r_extract rfl (i := 0) rfl) rfl rfl rfl ?_; clear hf fa; intro fa hf
      refine sqv hf (r_extract rfl (i := 1) rfl) rfl rfl rfl ?_; clear hf fa; intro fa hf
      refine sqdt hf (d_alloc (z := (.agg #[(.int .u8 (0 : Int)), (.int .u64 (0 : Int))])) (cs := #[(.int .u8 (0 : Int)), (.int .u64 (0 : Int))]) (by kernel_rfl) rfl) rfl rfl rfl ?_; clear hf fa; rintro fa _ w7 ⟨b2, rfl, hle2, hk4, he5⟩ hf
      have hBb2 : w.heap.size ≤ b2 := Nat.le_trans hb.size hle2
      have : p < b2 := Nat.lt_of_lt_of_le (blk_lt hpb) hle2
      have : b1 < b2 := Nat.lt_of_lt_of_le (blk_lt hk1) hle2
      have : mg < b2 := Nat.lt_of_lt_of_le (Row.lt hRM _ rfl).2 hle2
      replace hpb := blk_ext hpb he5
      replace hk1 := blk_ext hk1 he5
      replace hRM := Row.ext hRM he5
      replace hb := hb.trans (Below.mono he5 hb.size)
      refine sqn hf (d_storeK (T := 86) (v := (.agg #[(.int .u8 ((readT op ((L.drop (plP b o n0 L.length).1).take n0)).1)), (.int .u64 (((readT op ((L.drop (plP b o n0 L.length).1).take n0)).2.1 : Nat) : Int))])) (cs := #[(.int .u8 (0 : Int)), (.int .u64 (0 : Int))]) (cs' := #[(.int .u8 ((readT op ((L.drop (plP b o n0 L.length).1).take n0)).1)), (.int .u64 (((readT op ((L.drop (plP b o n0 L.length).1).take n0)).2.1 : Nat) : Int))]) rfl rfl (by kernel_rfl) (by kernel_rfl) hk4 (by kernel_rfl) (by kernel_rfl)) rfl rfl ?_; clear hf fa; rintro fa _ w8 ⟨hk5, hg3⟩ hf
      replace hpb := blk_grown hpb hg3 (by omega)
      replace hk1 := blk_grown hk1 hg3 (by omega)
      replace hRM := Row.grown hRM hg3 (Row.ne_type hRM hk4 rfl)
      replace hb := hb.trans (grown_below hg3 hb.size hBb2)
      refine sqv hf (r_assign rfl) rfl rfl rfl ?_; clear hf fa; intro fa hf
      apply wpList_nil
      (try simp only [Exit.then, Exit.inBlock, ↓reduceIte, Nat.reduceEqDiff])
      refine hK10 _ _ ?_
      refine wp_seq_k (fun K11 hK11 => ?_)
      refine wp_region_lit ?_
      refine sqv hf (r_loadA (cs := [(.int .u8 ((readT op ((L.drop (plP b o n0 L.length).1).take n0)).1)), (.int .u64 (((readT op ((L.drop (plP b o n0 L.length).1).take n0)).2.1 : Nat) : Int))]) rfl Try.underlying86 rfl (by kernel_rfl) (cellsAt_blk hk5)) rfl rfl rfl ?_; clear hf fa; intro fa hf
      refine sqn hf (d_storeK (T := 86) (v := (.agg #[(.int .u8 ((readT op ((L.drop (plP b o n0 L.length).1).take n0)).1)), (.int .u64 (((readT op ((L.drop (plP b o n0 L.length).1).take n0)).2.1 : Nat) : Int))])) (cs := #[(.int .u8 (0 : Int)), (.int .u64 (0 : Int))]) (cs' := #[(.int .u8 ((readT op ((L.drop (plP b o n0 L.length).1).take n0)).1)), (.int .u64 (((readT op ((L.drop (plP b o n0 L.length).1).take n0)).2.1 : Nat) : Int))]) rfl rfl (by kernel_rfl) (by kernel_rfl) hk1 (by kernel_rfl) (by kernel_rfl)) rfl rfl ?_; clear hf fa; rintro fa _ w9 ⟨hk6, hg4⟩ hf
      replace hpb := blk_grown hpb hg4 (by omega)
      replace hk5 := blk_grown hk5 hg4 (by omega)
      replace hRM := Row.grown hRM hg4 (Row.ne_type hRM hk1 rfl)
      replace hb := hb.trans (grown_below hg4 hb.size hBb1)
      refine sqv hf (r_assign rfl) rfl rfl rfl ?_; clear hf fa; intro fa hf
      apply wpList_nil
      (try simp only [Exit.then, Exit.inBlock, ↓reduceIte, Nat.reduceEqDiff])
      refine hK11 _ _ ?_
      refine wp_ret ?_
      (try simp only [Exit.then, Exit.inBlock])
      refine retCT hf rfl rfl hk6 Try.underlying86 rfl (by kernel_rfl) rfl ?_
      have hD : loadT op b o L = ((readT op ((L.drop (plP b o n0 L.length).1).take n0)).1, (readT op ((L.drop (plP b o n0 L.length).1).take n0)).2.1, 0) := by unfold loadT; rw [if_pos hok, hn0, if_pos (by rw [← hn0] at hin ⊢; exact hin)]
      rw [hD]; exact ⟨rfl, hb⟩

/-- What Place tells. -/
def placT (op b o v : Nat) (L : List Int) : Nat × List Int × Int :=
  if (writeT op v).2 = true then (if (plP b o (writeT op v).1.length L.length).2 = true then ((plP b o (writeT op v).1.length L.length).1, (writeT op v).1, 0) else (0, [], 63)) else (0, [], 9)

set_option maxHeartbeats 1000000 in
set_option maxRecDepth 100000 in
theorem mplace_p (p mg cap : Nat) (L : List Int) (mo : Int) (B : Nat) (w : World) (hpb : w.heap[p]? = some (.cells #[.slice (some ⟨mg, 0, none⟩) L.length cap, .int .i64 mo] 152 (0, 0))) (hRM : Row 1 (vInt .u8) 5 B w (.slice (some ⟨mg, 0, none⟩) L.length cap) L) (hL : L.length ≤ 16777216) (hL6 : ∀ x ∈ L, 0 ≤ x ∧ x < 256) (op b o v : Nat) (hop : op < 256) (hb0 : b < 18446744073709551616) (ho0 : o < 18446744073709551616) (hv0 : v < 18446744073709551616) : Calls Try.prog 92 #[(.pointer (some ⟨p, 0, none⟩)), (.int .u8 ((op : Nat) : Int)), (.int .u64 ((b : Nat) : Int)), (.int .u64 ((o : Nat) : Int)), (.int .u64 ((v : Nat) : Int))] w fun e w' => ∃ x, e = .returned x ∧ ∃ va vc, x = .tuple #[.int .u64 (((placT op b o v L).1 : Nat) : Int), .slice va (placT op b o v L).2.1.length vc, .int .i64 (placT op b o v L).2.2] ∧ Row 1 (vInt .u8) 5 w.heap.size w' (.slice va (placT op b o v L).2.1.length vc) (placT op b o v L).2.1 ∧ Below w.heap.size w w' := by
  have hcM := Row.caps hRM
  have hpl := (Array.getElem?_eq_some_iff.1 hpb).1
  refine sx_enter (L := [(0, (.pointer (some ⟨p, 0, none⟩))), (1, (.int .u8 ((op : Nat) : Int))), (2, (.int .u64 ((b : Nat) : Int))), (3, (.int .u64 ((o : Nat) : Int))), (4, (.int .u64 ((v : Nat) : Int)))]) Try.func92 rfl rfl rfl rfl (fun fa hf => ?_)
  have hb : Below w.heap.size w w := Below.refl _ _
  refine wp_seq_k (fun K1 hK1 => ?_)
  refine wp_region_lit ?_
  refine sqv hf (r_assign rfl) rfl rfl rfl ?_; clear hf fa; intro fa hf
  refine sqv hf (r_assign rfl) rfl rfl rfl ?_; clear hf fa; intro fa hf
  refine sqv hf (r_assign rfl) rfl rfl rfl ?_; clear hf fa; intro fa hf
  apply wpList_nil
  (try simp only [Exit.then, Exit.inBlock, ↓reduceIte, Nat.reduceEqDiff])
  refine hK1 _ _ ?_
  refine wp_seq_k (fun K2 hK2 => ?_)
  refine wp_region_lit ?_
  refine sqv hf (r_move rfl) rfl rfl rfl ?_; clear hf fa; intro fa hf
  refine sqv hf (r_move rfl) rfl rfl rfl ?_; clear hf fa; intro fa hf
  refine sqdt hf (d_callX (vs := [(.int .u8 ((op : Nat) : Int)), (.int .u64 ((v : Nat) : Int))]) rfl Try.func46 (by kernel_rfl) (by kernel_rfl) (write_any op v _ (by omega) hop)) rfl rfl rfl ?_; clear hf fa; rintro fa _ w1 ⟨wa, wc, rfl, hrw, he1⟩ hf
  replace hrw := Row.rebase hrw hb.size
  have hcw := Row.caps hrw
  have hwl := writeT_len op v
  replace hpb := blk_ext hpb he1
  replace hb := hb.trans (Below.mono he1 hb.size)
  refine sqv hf (r_move rfl) rfl rfl rfl ?_; clear hf fa; intro fa hf
  refine sqv hf (r_extract rfl (i := 0) rfl) rfl rfl rfl ?_; clear hf fa; intro fa hf
  refine sqv hf (r_extract rfl (i := 1) rfl) rfl rfl rfl ?_; clear hf fa; intro fa hf
  refine sqv hf (r_assign rfl) rfl rfl rfl ?_; clear hf fa; intro fa hf
  refine sqv hf (r_assign rfl) rfl rfl rfl ?_; clear hf fa; intro fa hf
  apply wpList_nil
  (try simp only [Exit.then, Exit.inBlock, ↓reduceIte, Nat.reduceEqDiff])
  refine hK2 _ _ ?_
  refine wp_seq_k (fun K3 hK3 => ?_)
  refine wp_seq_k (fun K4 hK4 => ?_)
  refine wp_region_lit ?_
  refine sqv hf (r_move rfl) rfl rfl rfl ?_; clear hf fa; intro fa hf
  refine sqv hf (r_not rfl) rfl rfl rfl ?_; clear hf fa; intro fa hf
  apply wpList_nil
  (try simp only [Exit.then, Exit.inBlock, ↓reduceIte, Nat.reduceEqDiff])
  refine hK4 _ _ ?_
  refine wp_cond_split (t := (!(writeT op v).2)) (hf.ev rfl) (fun hqt24_1 => ?_) (fun hqt24_1 => ?_)
  · have hqt24_1b := hqt24_1
    try simp only [decide_eq_true_eq, Bool.and_eq_true, Bool.or_eq_true, Bool.not_eq_true', decide_eq_false_iff_not, ne_eq, Bool.not_eq_true] at hqt24_1
    refine wp_seq_k (fun K5 hK5 => ?_)
    refine wp_region_lit ?_
    refine sqv hf (r_assign rfl) rfl rfl rfl ?_; clear hf fa; intro fa hf
    refine sqv hf (r_assign rfl) rfl rfl rfl ?_; clear hf fa; intro fa hf
    refine sqv hf (r_assign rfl) rfl rfl rfl ?_; clear hf fa; intro fa hf
    apply wpList_nil
    (try simp only [Exit.then, Exit.inBlock, ↓reduceIte, Nat.reduceEqDiff])
    refine hK5 _ _ ?_
    refine wp_ret ?_
    (try simp only [Exit.then, Exit.inBlock])
    refine ret3 hf rfl rfl rfl rfl ?_
    have hD : placT op b o v L = (0, [], 9) := by unfold placT; rw [if_neg (by have h := hqt24_1; simpa using h)]
    rw [hD]; exact ⟨_, rfl, none, 0, rfl, Row.nil, hb⟩
  · have hqt24_1b := hqt24_1
    replace hqt24_1 := Bool.eq_false_iff.1 hqt24_1
    try simp only [ne_eq, decide_eq_true_eq, Bool.and_eq_true, Bool.or_eq_true, Bool.not_eq_true', decide_eq_false_iff_not] at hqt24_1
    refine wp_skip ?_
    (try simp only [Exit.then, Exit.inBlock, ↓reduceIte, Nat.reduceEqDiff])
    refine hK3 _ _ ?_
    refine wp_seq_k (fun K6 hK6 => ?_)
    refine wp_region_lit ?_
    refine sqv hf (r_move rfl) rfl rfl rfl ?_; clear hf fa; intro fa hf
    refine sqv hf (r_move rfl) rfl rfl rfl ?_; clear hf fa; intro fa hf
    refine sqv hf (r_move rfl) rfl rfl rfl ?_; clear hf fa; intro fa hf
    refine sqv hf (r_lensl rfl Try.underlying84) rfl rfl rfl ?_; clear hf fa; intro fa hf
    refine sqv hf (r_move rfl) rfl rfl rfl ?_; clear hf fa; intro fa hf
    refine sqv hf (r_nilCheck rfl) rfl rfl rfl ?_; clear hf fa; intro fa hf
    refine sqv hf (r_fa rfl Try.underlying152 (f := 0) (q := 0) rfl (by kernel_rfl) rfl) rfl rfl rfl ?_; clear hf fa; intro fa hf
    refine sqv hf (r_load (v := (.slice (some ⟨mg, 0, none⟩) L.length cap)) rfl Try.underlying84 rfl (cell_blk hpb rfl)) rfl rfl rfl ?_; clear hf fa; intro fa hf
    refine sqv hf (r_lensl rfl Try.underlying84) rfl rfl rfl ?_; clear hf fa; intro fa hf
    refine sqv hf (r_conv (C := ((L.length : Nat) : Int)) rfl Try.underlying3 Try.underlying26 (by rw [IntKind.wrap_u64]; omega)) rfl rfl rfl ?_; clear hf fa; intro fa hf
    refine sqdt hf (d_callB (vs := [(.int .u64 ((b : Nat) : Int)), (.int .u64 ((o : Nat) : Int)), (.int .i64 (((writeT op v).1.length : Nat) : Int)), (.int .u64 ((L.length : Nat) : Int))]) rfl Try.func94 (by kernel_rfl) (by kernel_rfl) (place_any b o ((writeT op v).1.length) L.length _ (by omega) (by omega) (by omega) (by omega))) rfl rfl rfl ?_; clear hf fa; rintro fa _ w2 ⟨rfl, he2⟩ hf
    replace hpb := blk_ext hpb he2
    replace hrw := Row.ext hrw he2
    replace hb := hb.trans (Below.mono he2 hb.size)
    refine sqv hf (r_move rfl) rfl rfl rfl ?_; clear hf fa; intro fa hf
    refine sqv hf (r_extract rfl (i := 0) rfl) rfl rfl rfl ?_; clear hf fa; intro fa hf
    refine sqv hf (r_extract rfl (i := 1) rfl) rfl rfl rfl ?_; clear hf fa; intro fa hf
    refine sqv hf (r_assign rfl) rfl rfl rfl ?_; clear hf fa; intro fa hf
    refine sqv hf (r_assign rfl) rfl rfl rfl ?_; clear hf fa; intro fa hf
    apply wpList_nil
    (try simp only [Exit.then, Exit.inBlock, ↓reduceIte, Nat.reduceEqDiff])
    refine hK6 _ _ ?_
    refine wp_seq_k (fun K7 hK7 => ?_)
    refine wp_seq_k (fun K8 hK8 => ?_)
    refine wp_region_lit ?_
    refine sqv hf (r_move rfl) rfl rfl rfl ?_; clear hf fa; intro fa hf
    refine sqv hf (r_not rfl) rfl rfl rfl ?_; clear hf fa; intro fa hf
    apply wpList_nil
    (try simp only [Exit.then, Exit.inBlock, ↓reduceIte, Nat.reduceEqDiff])
    refine hK8 _ _ ?_
    refine wp_cond_split (t := (!(plP b o ((writeT op v).1.length) L.length).2)) (hf.ev rfl) (fun hqt40_1 => ?_) (fun hqt40_1 => ?_)
    · have hqt40_1b := hqt40_1
      try simp only [decide_eq_true_eq, Bool.and_eq_true, Bool.or_eq_true, Bool.not_eq_true', decide_eq_false_iff_not, ne_eq, Bool.not_eq_true] at hqt40_1
      refine wp_seq_k (fun K9 hK9 => ?_)
      refine wp_region_lit ?_
      refine sqv hf (r_assign rfl) rfl rfl rfl ?_; clear hf fa; intro fa hf
      refine sqv hf (r_assign rfl) rfl rfl rfl ?_; clear hf fa; intro fa hf
      refine sqv hf (r_assign rfl) rfl rfl rfl ?_; clear hf fa; intro fa hf
      apply wpList_nil
      (try simp only [Exit.then, Exit.inBlock, ↓reduceIte, Nat.reduceEqDiff])
      refine hK9 _ _ ?_
      refine wp_ret ?_
      (try simp only [Exit.then, Exit.inBlock])
      refine ret3 hf rfl rfl rfl rfl ?_
      have hD : placT op b o v L = (0, [], 63) := by unfold placT; rw [if_pos (by have h := hqt24_1; simpa using h), if_neg (by have h := hqt40_1; simpa using h)]
      rw [hD]; exact ⟨_, rfl, none, 0, rfl, Row.nil, hb⟩
    · have hqt40_1b := hqt40_1
      replace hqt40_1 := Bool.eq_false_iff.1 hqt40_1
      try simp only [ne_eq, decide_eq_true_eq, Bool.and_eq_true, Bool.or_eq_true, Bool.not_eq_true', decide_eq_false_iff_not] at hqt40_1
      refine wp_skip ?_
      (try simp only [Exit.then, Exit.inBlock, ↓reduceIte, Nat.reduceEqDiff])
      refine hK7 _ _ ?_
      refine wp_seq_k (fun K10 hK10 => ?_)
      refine wp_region_lit ?_
      refine sqv hf (r_move rfl) rfl rfl rfl ?_; clear hf fa; intro fa hf
      refine sqv hf (r_move rfl) rfl rfl rfl ?_; clear hf fa; intro fa hf
      refine sqv hf (r_assign rfl) rfl rfl rfl ?_; clear hf fa; intro fa hf
      refine sqv hf (r_assign rfl) rfl rfl rfl ?_; clear hf fa; intro fa hf
      refine sqv hf (r_assign rfl) rfl rfl rfl ?_; clear hf fa; intro fa hf
      apply wpList_nil
      (try simp only [Exit.then, Exit.inBlock, ↓reduceIte, Nat.reduceEqDiff])
      refine hK10 _ _ ?_
      refine wp_ret ?_
      (try simp only [Exit.then, Exit.inBlock])
      refine ret3 hf rfl rfl rfl rfl ?_
      have hD : placT op b o v L = ((plP b o (writeT op v).1.length L.length).1, (writeT op v).1, 0) := by unfold placT; rw [if_pos (by have h := hqt24_1; simpa using h), if_pos (by have h := hqt40_1; simpa using h)]
      rw [hD]; exact ⟨_, rfl, wa, wc, rfl, hrw, hb⟩

set_option maxHeartbeats 1000000 in
set_option maxRecDepth 100000 in
theorem mnewF (pg mo : Int) (w : World) (h0 : pg < 0 ∨ mo < pg ∨ 256 < mo) : Calls Try.prog 57 #[(.int .i64 pg), (.int .i64 mo)] w fun e w' => e = .returned (.tuple #[.pointer none, .int .i64 26]) ∧ Below w.heap.size w w' := by
  refine sx_enter (L := [(0, (.int .i64 pg)), (1, (.int .i64 mo))]) Try.func57 rfl rfl rfl rfl (fun fa hf => ?_)
  have hb : Below w.heap.size w w := Below.refl _ _
  refine wp_seq_k (fun K1 hK1 => ?_)
  refine wp_region_lit ?_
  refine sqv hf (r_assign rfl) rfl rfl rfl ?_; clear hf fa; intro fa hf
  refine sqv hf (r_assign rfl) rfl rfl rfl ?_; clear hf fa; intro fa hf
  apply wpList_nil
  (try simp only [Exit.then, Exit.inBlock, ↓reduceIte, Nat.reduceEqDiff])
  refine hK1 _ _ ?_
  refine wp_seq_k (fun K2 hK2 => ?_)
  refine wp_seq_k (fun K3 hK3 => ?_)
  refine wp_region_lit ?_
  refine sqv hf (r_move rfl) rfl rfl rfl ?_; clear hf fa; intro fa hf
  refine sqv hf (r_lt rfl rfl) rfl rfl rfl ?_; clear hf fa; intro fa hf
  refine sqv hf (r_move rfl) rfl rfl rfl ?_; clear hf fa; intro fa hf
  refine sqgF (act := (!(decide (pg < (0 : Int))))) (ag := true) (c := (decide (pg < (0 : Int)))) (v := (.int .i64 mo)) hf rfl rfl rfl (fun hact => (r_move rfl)) rfl rfl ?_; clear hf fa; intro fa hf
  refine sqgF (act := (!(decide (pg < (0 : Int))))) (ag := true) (c := (decide (pg < (0 : Int)))) (v := (.int .i64 pg)) hf rfl rfl rfl (fun hact => (r_move rfl)) rfl rfl ?_; clear hf fa; intro fa hf
  refine sqgF (act := (!(decide (pg < (0 : Int))))) (ag := true) (c := (decide (pg < (0 : Int)))) (v := (.bool (decide (mo < pg)))) hf rfl rfl rfl (fun hact => (r_lt (gb_ev hact rfl) (gb_ev hact rfl))) rfl rfl ?_; clear hf fa; intro fa hf
  refine sqv hf (r_pickO (b := (decide (pg < (0 : Int)))) (e := (decide (mo < pg))) rfl rfl rfl) rfl rfl rfl ?_; clear hf fa; intro fa hf
  refine sqv hf (r_move rfl) rfl rfl rfl ?_; clear hf fa; intro fa hf
  refine sqgF (act := (!((decide (pg < (0 : Int))) || (decide (mo < pg))))) (ag := true) (c := ((decide (pg < (0 : Int))) || (decide (mo < pg)))) (v := (.int .i64 mo)) hf rfl rfl rfl (fun hact => (r_move rfl)) rfl rfl ?_; clear hf fa; intro fa hf
  refine sqgF (act := (!((decide (pg < (0 : Int))) || (decide (mo < pg))))) (ag := true) (c := ((decide (pg < (0 : Int))) || (decide (mo < pg)))) (v := (.bool (decide ((256 : Int) < mo)))) hf rfl rfl rfl (fun hact => (r_gt (gb_ev hact rfl) rfl)) rfl rfl ?_; clear hf fa; intro fa hf
  refine sqv hf (Runs.veq (r_pickO (b := ((decide (pg < (0 : Int))) || (decide (mo < pg)))) (e := (decide ((256 : Int) < mo))) rfl rfl rfl) (congrArg Value.bool (show _ = true from (by simp; omega)))) rfl rfl rfl ?_; clear hf fa; intro fa hf
  apply wpList_nil
  (try simp only [Exit.then, Exit.inBlock, ↓reduceIte, Nat.reduceEqDiff])
  refine hK3 _ _ ?_
  refine wp_cond_true (hf.ev rfl) ?_
  refine wp_seq_k (fun K4 hK4 => ?_)
  refine wp_region_lit ?_
  refine sqv hf (r_assign rfl) rfl rfl rfl ?_; clear hf fa; intro fa hf
  refine sqv hf (r_assign rfl) rfl rfl rfl ?_; clear hf fa; intro fa hf
  apply wpList_nil
  (try simp only [Exit.then, Exit.inBlock, ↓reduceIte, Nat.reduceEqDiff])
  refine hK4 _ _ ?_
  refine wp_ret ?_
  (try simp only [Exit.then, Exit.inBlock])
  refine ret2 hf rfl rfl rfl ?_
  exact ⟨rfl, hb⟩
end Go.Proofs.Ytmcmickgllffoaa
