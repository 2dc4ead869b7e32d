/- What is proved here: the stable sort of up to 100 floats. -/
import Derived.Test.YtbllifhcfgjdlaaGgX
import Derived.Test.YtbllifhcfgjdlaaGgI
namespace Go.Proofs.Ytbllifhcfgjdlaa
open Go.RowKit
set_option linter.unusedVariables false
set_option linter.unusedSimpArgs false
theorem ins_cur (b c : Nat) (l cur : List Nat) (hcl : cur.length = l.length) (p q : Nat) (hpq : p ≤ cur.length) (hq : q ≤ cur.length) (hl : cur.length ≤ 4611686018427387903) (w0 w : World) (hb : Below w0.heap.size w0 w) (hR : Row 1 vFlt 22 w0.heap.size w (.slice (some ⟨b, 0, none⟩) l.length c) cur) (hW : allW cur) : Calls Try.prog 38 #[(.slice (some ⟨b, 0, none⟩) l.length c), (.int .i64 ((p : Nat) : Int)), (.int .i64 ((q : Nat) : Int)), (.func (.func 9) #[] #[])] w fun e w' => e = .returned (.tuple #[]) ∧ ∃ l' : List Nat, Row 1 vFlt 22 w0.heap.size w' (.slice (some ⟨b, 0, none⟩) l.length c) l' ∧ (MG p q cur l' ∧ Srt l' p q) ∧ Below w0.heap.size w0 w' := by
  rw [← hcl] at hR ⊢
  exact (ins_any b c cur p q hq hl hpq w0 w hb hR hW).mono (fun e w2 h => ⟨h.1, _, h.2.1, isort_srt hq, h.2.2⟩)

set_option maxHeartbeats 1000000 in
set_option maxRecDepth 100000 in
theorem stable_any (b c : Nat) (l : List Nat) (hl : l.length ≤ 100) (w0 w : World) (hb : Below w0.heap.size w0 w) (hR : Row 1 vFlt 22 w0.heap.size w (.slice (some ⟨b, 0, none⟩) l.length c) l) (hW : allW l) : Calls Try.prog 36 #[(.slice (some ⟨b, 0, none⟩) l.length c), (.int .i64 ((l.length : Nat) : Int)), (.func (.func 9) #[] #[])] w fun e w' => e = .returned (.tuple #[]) ∧ ∃ l' : List Nat, Row 1 vFlt 22 w0.heap.size w' (.slice (some ⟨b, 0, none⟩) l.length c) l' ∧ (l'.Perm l ∧ Srt l' 0 l.length) ∧ Below w0.heap.size w0 w' := by
  refine sx_enter (L := [(0, (.slice (some ⟨b, 0, none⟩) l.length c)), (1, (.int .i64 ((l.length : Nat) : Int))), (2, (.func (.func 9) #[] #[]))]) Try.func36 rfl rfl rfl rfl (fun fa hf => ?_)
  refine wp_seq_k (fun K1 hK1 => ?_)
  refine wp_region_lit ?_
  refine sqv hf (r_assign rfl) rfl rfl rfl ?_; clear hf fa; intro fa hf
  apply wpList_nil
  (try simp only [Exit.then, Exit.inBlock, ↓reduceIte, Nat.reduceEqDiff])
  refine hK1 _ _ ?_
  refine wp_seq_k (fun K2 hK2 => ?_)
  refine wp_region_lit ?_
  refine sqv hf (r_move rfl) rfl rfl rfl ?_; clear hf fa; intro fa hf
  refine sqv hf (r_assign rfl) rfl rfl rfl ?_; clear hf fa; intro fa hf
  refine sqv hf (r_assign rfl) rfl rfl rfl ?_; clear hf fa; intro fa hf
  apply wpList_nil
  (try simp only [Exit.then, Exit.inBlock, ↓reduceIte, Nat.reduceEqDiff])
  refine hK2 _ _ ?_
  refine wp_seq_k (fun K3 hK3 => ?_)
  refine wp_block ?_
  refine wp_loop_k (fun mq fa wr => ∃ (a : Nat) (cur : List Nat), mq = l.length - a ∧ Fr 63 fa [(0, (.slice (some ⟨b, 0, none⟩) l.length c)), (1, (.int .i64 ((l.length : Nat) : Int))), (2, (.func (.func 9) #[] #[])), (6, (.int .i64 (20 : Int))), (7, (.int .i64 ((a : Nat) : Int))), (8, (.int .i64 (((a + 20) : Nat) : Int)))] ∧ Below w0.heap.size w0 wr ∧ Row 1 vFlt 22 (w0.heap.size) wr (.slice (some ⟨b, 0, none⟩) (l.length) c) cur ∧ (a % 20 = 0) ∧ (a ≤ l.length) ∧ (cur.Perm l) ∧ (SB 20 0 a cur)) ?_ ?_
  · skip
    exact ⟨_, 0, l, rfl, hf.sub ⟨rfl, rfl, rfl, rfl, (some_int (by first | rfl | omega)), (some_int (by first | rfl | omega)), trivial⟩, hb, hR, rfl, (by omega), (List.Perm.refl _), (fun i j h1 h2 h3 => by omega)⟩
  · skip
    clear hf fa; intro mq1 fa w1 hI KL1 hKL1
    clear hb
    clear hR
    obtain ⟨a, cur, hmq1, hf, hb, hr, ha, hal, hp, hS⟩ := hI
    have hcr := Row.caps hr
    have hcl := hp.length_eq
    have hw : allW cur := fun x hx => hW x (hp.mem_iff.1 hx)
    refine wp_seq_k (fun K4 hK4 => ?_)
    refine wp_seq_k (fun K5 hK5 => ?_)
    refine wp_region_lit ?_
    refine sqv hf (r_move rfl) rfl rfl rfl ?_; clear hf fa; intro fa hf
    refine sqv hf (r_move rfl) rfl rfl rfl ?_; clear hf fa; intro fa hf
    refine sqv hf (r_le rfl rfl) rfl rfl rfl ?_; clear hf fa; intro fa hf
    apply wpList_nil
    (try simp only [Exit.then, Exit.inBlock, ↓reduceIte, Nat.reduceEqDiff])
    refine hK5 _ _ ?_
    refine wp_cond_split (t := (decide ((((a + 20) : Nat) : Int) ≤ ((l.length : Nat) : Int)))) (hf.ev rfl) (fun hqt13_1 => ?_) (fun hqt13_1 => ?_)
    · have hqt13_1b := hqt13_1
      try simp only [decide_eq_true_eq, Bool.and_eq_true, Bool.or_eq_true, Bool.not_eq_true', decide_eq_false_iff_not, ne_eq, Bool.not_eq_true] at hqt13_1
      refine wp_skip ?_
      (try simp only [Exit.then, Exit.inBlock, ↓reduceIte, Nat.reduceEqDiff])
      refine hK4 _ _ ?_
      refine wp_block ?_
      refine wp_seq_k (fun K6 hK6 => ?_)
      refine wp_region_lit ?_
      refine sqv hf (r_move rfl) rfl rfl rfl ?_; clear hf fa; intro fa hf
      refine sqv hf (r_move rfl) rfl rfl rfl ?_; clear hf fa; intro fa hf
      refine sqv hf (r_move rfl) rfl rfl rfl ?_; clear hf fa; intro fa hf
      refine sqv hf (r_move rfl) rfl rfl rfl ?_; clear hf fa; intro fa hf
      refine sqdt hf (d_callX (R := fun vz wz => vz = .tuple #[] ∧ ∃ l' : List Nat, Row 1 vFlt 22 w0.heap.size wz (.slice (some ⟨b, 0, none⟩) l.length c) l' ∧ (MG a ((a + 20)) cur l' ∧ Srt l' a ((a + 20))) ∧ Below w0.heap.size w0 wz) (vs := [(.slice (some ⟨b, 0, none⟩) l.length c), (.int .i64 ((a : Nat) : Int)), (.int .i64 (((a + 20) : Nat) : Int)), (.func (.func 9) #[] #[])]) rfl Try.func38 (by kernel_rfl) (by kernel_rfl) (Calls.mono (ins_cur b c l cur hcl a ((a + 20)) (by omega) (by omega) (by omega) w0 _ hb hr hw) (fun e w2 h => ⟨_, h.1, rfl, h.2⟩))) rfl rfl rfl ?_; clear hf fa; rintro fa _ w2 ⟨rfl, lv1, hr1, hv1, hb1⟩ hf
      clear hb hr
      have hb := hb1
      clear hb1
      apply wpList_nil
      (try simp only [Exit.then, Exit.inBlock, ↓reduceIte, Nat.reduceEqDiff])
      refine hK6 _ _ ?_
      refine wp_seq_k (fun K7 hK7 => ?_)
      refine wp_region_lit ?_
      refine sqv hf (r_move rfl) rfl rfl rfl ?_; clear hf fa; intro fa hf
      refine sqv hf (r_assign rfl) rfl rfl rfl ?_; clear hf fa; intro fa hf
      apply wpList_nil
      (try simp only [Exit.then, Exit.inBlock, ↓reduceIte, Nat.reduceEqDiff])
      refine hK7 _ _ ?_
      refine wp_region_lit ?_
      refine sqv hf (r_move rfl) rfl rfl rfl ?_; clear hf fa; intro fa hf
      refine sqv hf (r_move rfl) rfl rfl rfl ?_; clear hf fa; intro fa hf
      refine sqv hf (r_add (C := (((a + 20 + 20) : Nat) : Int)) rfl rfl (by rw [IntKind.wrap_i64]; omega)) rfl rfl rfl ?_; clear hf fa; intro fa hf
      refine sqv hf (r_assign rfl) rfl rfl rfl ?_; clear hf fa; intro fa hf
      apply wpList_nil
      (try simp only [Exit.then, Exit.inBlock, ↓reduceIte, Nat.reduceEqDiff])
      refine hKL1 _ _ _ (by omega) ⟨(a + 20), lv1, rfl, hf.sub ⟨rfl, rfl, rfl, rfl, rfl, (some_int (by first | rfl | omega)), trivial⟩, hb, hr1, (by omega), (by omega), (hv1.1.perm.trans hp), (sb_ins ha (by omega) (by omega) hS hv1.1 hv1.2)⟩
    · have hqt13_1b := hqt13_1
      replace hqt13_1 := Bool.eq_false_iff.1 hqt13_1
      try simp only [ne_eq, decide_eq_true_eq, Bool.and_eq_true, Bool.or_eq_true, Bool.not_eq_true', decide_eq_false_iff_not] at hqt13_1
      refine wp_exit ?_
      (try simp only [Exit.then, Exit.inBlock, ↓reduceIte, Nat.reduceEqDiff])
      refine hK3 _ _ ?_
      refine wp_seq_k (fun K8 hK8 => ?_)
      refine wp_region_lit ?_
      refine sqv hf (r_move rfl) rfl rfl rfl ?_; clear hf fa; intro fa hf
      refine sqv hf (r_move rfl) rfl rfl rfl ?_; clear hf fa; intro fa hf
      refine sqv hf (r_move rfl) rfl rfl rfl ?_; clear hf fa; intro fa hf
      refine sqv hf (r_move rfl) rfl rfl rfl ?_; clear hf fa; intro fa hf
      refine sqdt hf (d_callX (R := fun vz wz => vz = .tuple #[] ∧ ∃ l' : List Nat, Row 1 vFlt 22 w0.heap.size wz (.slice (some ⟨b, 0, none⟩) l.length c) l' ∧ (MG a l.length cur l' ∧ Srt l' a l.length) ∧ Below w0.heap.size w0 wz) (vs := [(.slice (some ⟨b, 0, none⟩) l.length c), (.int .i64 ((a : Nat) : Int)), (.int .i64 ((l.length : Nat) : Int)), (.func (.func 9) #[] #[])]) rfl Try.func38 (by kernel_rfl) (by kernel_rfl) (Calls.mono (ins_cur b c l cur hcl a l.length (by omega) (by omega) (by omega) w0 _ hb hr hw) (fun e w2 h => ⟨_, h.1, rfl, h.2⟩))) rfl rfl rfl ?_; clear hf fa; rintro fa _ w3 ⟨rfl, lv2, hr2, hv2, hb2⟩ hf
      clear hb hr
      have hb := hb2
      clear hb2
      apply wpList_nil
      (try simp only [Exit.then, Exit.inBlock, ↓reduceIte, Nat.reduceEqDiff])
      refine hK8 _ _ ?_
      refine wp_block ?_
      refine wp_loop_k (fun mq fa wr => ∃ (B : Nat) (cur : List Nat), mq = l.length - B ∧ Fr 63 fa [(0, (.slice (some ⟨b, 0, none⟩) l.length c)), (1, (.int .i64 ((l.length : Nat) : Int))), (2, (.func (.func 9) #[] #[])), (6, (.int .i64 ((B : Nat) : Int)))] ∧ Below w0.heap.size w0 wr ∧ Row 1 vFlt 22 (w0.heap.size) wr (.slice (some ⟨b, 0, none⟩) (l.length) c) cur ∧ (B = 20 ∨ B = 40 ∨ B = 80 ∨ B = 160) ∧ (cur.Perm l) ∧ (SB B 0 l.length cur)) ?_ ?_
      · skip
        exact ⟨_, 20, lv2, rfl, hf.sub ⟨rfl, rfl, rfl, (some_int (by first | rfl | omega)), trivial⟩, hb, hr2, (.inl rfl), (hv2.1.perm.trans hp), (sb_ins ha (by omega) (by omega) hS hv2.1 hv2.2)⟩
      · skip
        clear hf fa; intro mq2 fa w4 hI KL2 hKL2
        clear hb
        clear hr2
        obtain ⟨B, cur, hmq2, hf, hb, hr, hB, hp, hS⟩ := hI
        have hcr := Row.caps hr
        have hcl := hp.length_eq
        have hw : allW cur := fun x hx => hW x (hp.mem_iff.1 hx)
        refine wp_seq_k (fun K9 hK9 => ?_)
        refine wp_seq_k (fun K10 hK10 => ?_)
        refine wp_region_lit ?_
        refine sqv hf (r_move rfl) rfl rfl rfl ?_; clear hf fa; intro fa hf
        refine sqv hf (r_move rfl) rfl rfl rfl ?_; clear hf fa; intro fa hf
        refine sqv hf (r_lt rfl rfl) rfl rfl rfl ?_; clear hf fa; intro fa hf
        apply wpList_nil
        (try simp only [Exit.then, Exit.inBlock, ↓reduceIte, Nat.reduceEqDiff])
        refine hK10 _ _ ?_
        refine wp_cond_split (t := (decide (((B : Nat) : Int) < ((l.length : Nat) : Int)))) (hf.ev rfl) (fun hqt30_1 => ?_) (fun hqt30_1 => ?_)
        · have hqt30_1b := hqt30_1
          try simp only [decide_eq_true_eq, Bool.and_eq_true, Bool.or_eq_true, Bool.not_eq_true', decide_eq_false_iff_not, ne_eq, Bool.not_eq_true] at hqt30_1
          refine wp_skip ?_
          (try simp only [Exit.then, Exit.inBlock, ↓reduceIte, Nat.reduceEqDiff])
          refine hK9 _ _ ?_
          refine wp_block ?_
          refine wp_seq_k (fun K11 hK11 => ?_)
          refine wp_region_lit ?_
          refine sqv hf (r_move rfl) rfl rfl rfl ?_; clear hf fa; intro fa hf
          refine sqv hf (r_mul (C := (((2 * B) : Nat) : Int)) rfl rfl (by rw [IntKind.wrap_i64]; omega)) rfl rfl rfl ?_; clear hf fa; intro fa hf
          refine sqv hf (r_assign rfl) rfl rfl rfl ?_; clear hf fa; intro fa hf
          refine sqv hf (r_assign rfl) rfl rfl rfl ?_; clear hf fa; intro fa hf
          apply wpList_nil
          (try simp only [Exit.then, Exit.inBlock, ↓reduceIte, Nat.reduceEqDiff])
          refine hK11 _ _ ?_
          refine wp_seq_k (fun K12 hK12 => ?_)
          refine wp_block ?_
          refine wp_loop_k (fun mq fa wr => ∃ (a : Nat) (cur : List Nat), mq = l.length - a ∧ Fr 63 fa [(0, (.slice (some ⟨b, 0, none⟩) l.length c)), (1, (.int .i64 ((l.length : Nat) : Int))), (2, (.func (.func 9) #[] #[])), (6, (.int .i64 ((B : Nat) : Int))), (7, (.int .i64 ((a : Nat) : Int))), (8, (.int .i64 (((a + 2 * B) : Nat) : Int)))] ∧ Below w0.heap.size w0 wr ∧ Row 1 vFlt 22 (w0.heap.size) wr (.slice (some ⟨b, 0, none⟩) (l.length) c) cur ∧ (a % (2 * B) = 0) ∧ (a ≤ l.length) ∧ (cur.Perm l) ∧ (SB (2 * B) 0 a cur) ∧ (SB B a l.length cur)) ?_ ?_
          · skip
            exact ⟨_, 0, cur, rfl, hf.sub ⟨rfl, rfl, rfl, rfl, (some_int (by first | rfl | omega)), (some_int (by first | rfl | omega)), trivial⟩, hb, hr, (Nat.zero_mod _), (by omega), hp, (fun i j h1 h2 h3 => by omega), hS⟩
          · skip
            clear hf fa; intro mq3 fa w5 hI KL3 hKL3
            clear hb
            clear hr
            obtain ⟨a, cur, hmq3, hf, hb, hr, ha, hal, hp, h1, h2⟩ := hI
            have hcr := Row.caps hr
            have hcl := hp.length_eq
            have hw : allW cur := fun x hx => hW x (hp.mem_iff.1 hx)
            refine wp_seq_k (fun K13 hK13 => ?_)
            refine wp_seq_k (fun K14 hK14 => ?_)
            refine wp_region_lit ?_
            refine sqv hf (r_move rfl) rfl rfl rfl ?_; clear hf fa; intro fa hf
            refine sqv hf (r_move rfl) rfl rfl rfl ?_; clear hf fa; intro fa hf
            refine sqv hf (r_le rfl rfl) rfl rfl rfl ?_; clear hf fa; intro fa hf
            apply wpList_nil
            (try simp only [Exit.then, Exit.inBlock, ↓reduceIte, Nat.reduceEqDiff])
            refine hK14 _ _ ?_
            refine wp_cond_split (t := (decide ((((a + 2 * B) : Nat) : Int) ≤ ((l.length : Nat) : Int)))) (hf.ev rfl) (fun hqt35_1 => ?_) (fun hqt35_1 => ?_)
            · have hqt35_1b := hqt35_1
              try simp only [decide_eq_true_eq, Bool.and_eq_true, Bool.or_eq_true, Bool.not_eq_true', decide_eq_false_iff_not, ne_eq, Bool.not_eq_true] at hqt35_1
              refine wp_skip ?_
              (try simp only [Exit.then, Exit.inBlock, ↓reduceIte, Nat.reduceEqDiff])
              refine hK13 _ _ ?_
              refine wp_block ?_
              refine wp_seq_k (fun K15 hK15 => ?_)
              refine wp_region_lit ?_
              refine sqv hf (r_move rfl) rfl rfl rfl ?_; clear hf fa; intro fa hf
              refine sqv hf (r_move rfl) rfl rfl rfl ?_; clear hf fa; intro fa hf
              refine sqv hf (r_move rfl) rfl rfl rfl ?_; clear hf fa; intro fa hf
              refine sqv hf (r_move rfl) rfl rfl rfl ?_; clear hf fa; intro fa hf
              refine sqv hf (r_add (C := (((a + B) : Nat) : Int)) rfl rfl (by rw [IntKind.wrap_i64]; omega)) rfl rfl rfl ?_; clear hf fa; intro fa hf
              refine sqv hf (r_move rfl) rfl rfl rfl ?_; clear hf fa; intro fa hf
              refine sqv hf (r_move rfl) rfl rfl rfl ?_; clear hf fa; intro fa hf
              refine sqdt hf (d_callX (R := fun vz wz => vz = .tuple #[] ∧ ∃ l' : List Nat, Row 1 vFlt 22 w0.heap.size wz (.slice (some ⟨b, 0, none⟩) l.length c) l' ∧ (MG a ((a + 2 * B)) cur l' ∧ Srt l' a ((a + 2 * B))) ∧ Below w0.heap.size w0 wz) (vs := [(.slice (some ⟨b, 0, none⟩) l.length c), (.int .i64 ((a : Nat) : Int)), (.int .i64 (((a + B) : Nat) : Int)), (.int .i64 (((a + 2 * B) : Nat) : Int)), (.func (.func 9) #[] #[])]) rfl Try.func39 (by kernel_rfl) (by kernel_rfl) (Calls.mono (symm_any _ b c l.length cur hcl a ((a + B)) ((a + 2 * B)) (Nat.le_refl _) (by omega) (by omega) (by omega) (by omega) (sb_srt hB (mod_two hB ha).1 (by omega) (by omega) (Nat.le_refl _) h2) (sb_srt hB (mod_two hB ha).2.1 (by omega) (by omega) (by omega) h2) w0 _ hb hr hw) (fun e w2 h => ⟨_, h.1, rfl, h.2⟩))) rfl rfl rfl ?_; clear hf fa; rintro fa _ w6 ⟨rfl, lv3, hr3, hv3, hb3⟩ hf
              clear hb hr
              have hb := hb3
              clear hb3
              apply wpList_nil
              (try simp only [Exit.then, Exit.inBlock, ↓reduceIte, Nat.reduceEqDiff])
              refine hK15 _ _ ?_
              refine wp_seq_k (fun K16 hK16 => ?_)
              refine wp_region_lit ?_
              refine sqv hf (r_move rfl) rfl rfl rfl ?_; clear hf fa; intro fa hf
              refine sqv hf (r_assign rfl) rfl rfl rfl ?_; clear hf fa; intro fa hf
              apply wpList_nil
              (try simp only [Exit.then, Exit.inBlock, ↓reduceIte, Nat.reduceEqDiff])
              refine hK16 _ _ ?_
              refine wp_region_lit ?_
              refine sqv hf (r_move rfl) rfl rfl rfl ?_; clear hf fa; intro fa hf
              refine sqv hf (r_move rfl) rfl rfl rfl ?_; clear hf fa; intro fa hf
              refine sqv hf (r_mul (C := (((2 * B) : Nat) : Int)) rfl rfl (by rw [IntKind.wrap_i64]; omega)) rfl rfl rfl ?_; clear hf fa; intro fa hf
              refine sqv hf (r_add (C := (((a + 2 * B + 2 * B) : Nat) : Int)) rfl rfl (by rw [IntKind.wrap_i64]; omega)) rfl rfl rfl ?_; clear hf fa; intro fa hf
              refine sqv hf (r_assign rfl) rfl rfl rfl ?_; clear hf fa; intro fa hf
              apply wpList_nil
              (try simp only [Exit.then, Exit.inBlock, ↓reduceIte, Nat.reduceEqDiff])
              refine hKL3 _ _ _ (by omega) ⟨(a + 2 * B), lv3, rfl, hf.sub ⟨rfl, rfl, rfl, rfl, rfl, (some_int (by first | rfl | omega)), trivial⟩, hb, hr3, (mod_two hB ha).2.2, (by omega), (hv3.1.perm.trans hp), (sb_step hB ha (by omega) (by omega) h1 hv3.1 hv3.2), (sb_rest h2 hv3.1 (by omega))⟩
            · have hqt35_1b := hqt35_1
              replace hqt35_1 := Bool.eq_false_iff.1 hqt35_1
              try simp only [ne_eq, decide_eq_true_eq, Bool.and_eq_true, Bool.or_eq_true, Bool.not_eq_true', decide_eq_false_iff_not] at hqt35_1
              refine wp_exit ?_
              (try simp only [Exit.then, Exit.inBlock, ↓reduceIte, Nat.reduceEqDiff])
              refine hK12 _ _ ?_
              refine wp_seq_k (fun K17 hK17 => ?_)
              refine wp_seq_k (fun K18 hK18 => ?_)
              refine wp_region_lit ?_
              refine sqv hf (r_move rfl) rfl rfl rfl ?_; clear hf fa; intro fa hf
              refine sqv hf (r_move rfl) rfl rfl rfl ?_; clear hf fa; intro fa hf
              refine sqv hf (r_add (C := (((a + B) : Nat) : Int)) rfl rfl (by rw [IntKind.wrap_i64]; omega)) rfl rfl rfl ?_; clear hf fa; intro fa hf
              refine sqv hf (r_assign rfl) rfl rfl rfl ?_; clear hf fa; intro fa hf
              apply wpList_nil
              (try simp only [Exit.then, Exit.inBlock, ↓reduceIte, Nat.reduceEqDiff])
              refine hK18 _ _ ?_
              refine wp_seq_k (fun K19 hK19 => ?_)
              refine wp_region_lit ?_
              refine sqv hf (r_move rfl) rfl rfl rfl ?_; clear hf fa; intro fa hf
              refine sqv hf (r_move rfl) rfl rfl rfl ?_; clear hf fa; intro fa hf
              refine sqv hf (r_lt rfl rfl) rfl rfl rfl ?_; clear hf fa; intro fa hf
              apply wpList_nil
              (try simp only [Exit.then, Exit.inBlock, ↓reduceIte, Nat.reduceEqDiff])
              refine hK19 _ _ ?_
              refine wp_cond_split (t := (decide ((((a + B) : Nat) : Int) < ((l.length : Nat) : Int)))) (hf.ev rfl) (fun hqt54_1 => ?_) (fun hqt54_1 => ?_)
              · have hqt54_1b := hqt54_1
                try simp only [decide_eq_true_eq, Bool.and_eq_true, Bool.or_eq_true, Bool.not_eq_true', decide_eq_false_iff_not, ne_eq, Bool.not_eq_true] at hqt54_1
                refine wp_region_lit ?_
                refine sqv hf (r_move rfl) rfl rfl rfl ?_; clear hf fa; intro fa hf
                refine sqv hf (r_move rfl) rfl rfl rfl ?_; clear hf fa; intro fa hf
                refine sqv hf (r_move rfl) rfl rfl rfl ?_; clear hf fa; intro fa hf
                refine sqv hf (r_move rfl) rfl rfl rfl ?_; clear hf fa; intro fa hf
                refine sqv hf (r_move rfl) rfl rfl rfl ?_; clear hf fa; intro fa hf
                refine sqdt hf (d_callX (R := fun vz wz => vz = .tuple #[] ∧ ∃ l' : List Nat, Row 1 vFlt 22 w0.heap.size wz (.slice (some ⟨b, 0, none⟩) l.length c) l' ∧ (MG a l.length cur l' ∧ Srt l' a l.length) ∧ Below w0.heap.size w0 wz) (vs := [(.slice (some ⟨b, 0, none⟩) l.length c), (.int .i64 ((a : Nat) : Int)), (.int .i64 (((a + B) : Nat) : Int)), (.int .i64 ((l.length : Nat) : Int)), (.func (.func 9) #[] #[])]) rfl Try.func39 (by kernel_rfl) (by kernel_rfl) (Calls.mono (symm_any _ b c l.length cur hcl a ((a + B)) l.length (Nat.le_refl _) (by omega) (by omega) (by omega) (by omega) (sb_srt hB (mod_two hB ha).1 (by omega) (by omega) (Nat.le_refl _) h2) (sb_srt hB (mod_two hB ha).2.1 (by omega) (by omega) (by omega) h2) w0 _ hb hr hw) (fun e w2 h => ⟨_, h.1, rfl, h.2⟩))) rfl rfl rfl ?_; clear hf fa; rintro fa _ w7 ⟨rfl, lv4, hr4, hv4, hb4⟩ hf
                clear hb hr
                have hb := hb4
                clear hb4
                apply wpList_nil
                (try simp only [Exit.then, Exit.inBlock, ↓reduceIte, Nat.reduceEqDiff])
                refine hK17 _ _ ?_
                refine wp_region_lit ?_
                refine sqv hf (r_move rfl) rfl rfl rfl ?_; clear hf fa; intro fa hf
                refine sqv hf (r_mul (C := (((2 * B) : Nat) : Int)) rfl rfl (by rw [IntKind.wrap_i64]; omega)) rfl rfl rfl ?_; clear hf fa; intro fa hf
                refine sqv hf (r_assign rfl) rfl rfl rfl ?_; clear hf fa; intro fa hf
                apply wpList_nil
                (try simp only [Exit.then, Exit.inBlock, ↓reduceIte, Nat.reduceEqDiff])
                refine hKL2 _ _ _ (by omega) ⟨(2 * B), lv4, rfl, hf.sub ⟨rfl, rfl, rfl, rfl, trivial⟩, hb, hr4, (by omega), (hv4.1.perm.trans hp), (sb_step hB ha (by omega) (by omega) h1 hv4.1 hv4.2)⟩
              · have hqt54_1b := hqt54_1
                replace hqt54_1 := Bool.eq_false_iff.1 hqt54_1
                try simp only [ne_eq, decide_eq_true_eq, Bool.and_eq_true, Bool.or_eq_true, Bool.not_eq_true', decide_eq_false_iff_not] at hqt54_1
                refine wp_skip ?_
                (try simp only [Exit.then, Exit.inBlock, ↓reduceIte, Nat.reduceEqDiff])
                refine hK17 _ _ ?_
                refine wp_region_lit ?_
                refine sqv hf (r_move rfl) rfl rfl rfl ?_; clear hf fa; intro fa hf
                refine sqv hf (r_mul (C := (((2 * B) : Nat) : Int)) rfl rfl (by rw [IntKind.wrap_i64]; omega)) rfl rfl rfl ?_; clear hf fa; intro fa hf
                refine sqv hf (r_assign rfl) rfl rfl rfl ?_; clear hf fa; intro fa hf
                apply wpList_nil
                (try simp only [Exit.then, Exit.inBlock, ↓reduceIte, Nat.reduceEqDiff])
                refine hKL2 _ _ _ (by omega) ⟨(2 * B), cur, rfl, hf.sub ⟨rfl, rfl, rfl, rfl, trivial⟩, hb, hr, (by omega), hp, (sb_step hB ha (by omega) (by omega) h1 (MG.refl a l.length cur) (sb_srt hB (mod_two hB ha).1 (by omega) (Nat.le_refl _) (Nat.le_refl _) h2))⟩
        · have hqt30_1b := hqt30_1
          replace hqt30_1 := Bool.eq_false_iff.1 hqt30_1
          try simp only [ne_eq, decide_eq_true_eq, Bool.and_eq_true, Bool.or_eq_true, Bool.not_eq_true', decide_eq_false_iff_not] at hqt30_1
          refine wp_exit ?_
          (try simp only [Exit.then, Exit.inBlock, ↓reduceIte, Nat.reduceEqDiff])
          refine end0 hf rfl ?_
          exact ⟨rfl, _, hr, ⟨hp, sb_all hB (by omega) hS⟩, hb⟩

set_option maxHeartbeats 1000000 in
set_option maxRecDepth 100000 in
theorem sortst_any (b c : Nat) (l : List Nat) (hl : l.length ≤ 100) (w0 w : World) (hb : Below w0.heap.size w0 w) (hR : Row 1 vFlt 22 w0.heap.size w (.slice (some ⟨b, 0, none⟩) l.length c) l) (hW : allW l) : Calls Try.prog 33 #[(.slice (some ⟨b, 0, none⟩) l.length c), (.func (.func 9) #[] #[])] w fun e w' => e = .returned (.tuple #[]) ∧ ∃ l' : List Nat, Row 1 vFlt 22 w0.heap.size w' (.slice (some ⟨b, 0, none⟩) l.length c) l' ∧ (l'.Perm l ∧ Srt l' 0 l.length) ∧ Below w0.heap.size w0 w' := by
  refine sx_enter (L := [(0, (.slice (some ⟨b, 0, none⟩) l.length c)), (1, (.func (.func 9) #[] #[]))]) Try.func33 rfl rfl rfl rfl (fun fa hf => ?_)
  refine wp_region_lit ?_
  refine sqv hf (r_move rfl) rfl rfl rfl ?_; clear hf fa; intro fa hf
  refine sqv hf (r_move rfl) rfl rfl rfl ?_; clear hf fa; intro fa hf
  refine sqv hf (r_lensl rfl Try.underlying30) rfl rfl rfl ?_; clear hf fa; intro fa hf
  refine sqv hf (r_move rfl) rfl rfl rfl ?_; clear hf fa; intro fa hf
  refine sqdt hf (d_callX (R := fun vz wz => vz = .tuple #[] ∧ ∃ l' : List Nat, Row 1 vFlt 22 w0.heap.size wz (.slice (some ⟨b, 0, none⟩) l.length c) l' ∧ (l'.Perm l ∧ Srt l' 0 l.length) ∧ Below w0.heap.size w0 wz) (vs := [(.slice (some ⟨b, 0, none⟩) l.length c), (.int .i64 ((l.length : Nat) : Int)), (.func (.func 9) #[] #[])]) rfl Try.func36 (by kernel_rfl) (by kernel_rfl) (Calls.mono (stable_any b c l hl w0 _ hb hR hW) (fun e w2 h => ⟨_, h.1, rfl, h.2⟩))) rfl rfl rfl ?_; clear hf fa; rintro fa _ w1 ⟨rfl, lv1, hr1, hv1, hb1⟩ hf
  clear hb hR
  have hb := hb1
  clear hb1
  apply wpList_nil
  (try simp only [Exit.then, Exit.inBlock, ↓reduceIte, Nat.reduceEqDiff])
  refine end0 hf rfl ?_
  exact ⟨rfl, _, hr1, hv1, hb⟩
end Go.Proofs.Ytbllifhcfgjdlaa
