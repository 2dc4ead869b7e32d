/- What is proved here: the law JournalPlays, walked. -/
import Derived.Test.YtmcmickgllffoaaJpD
namespace Go.Proofs.Ytmcmickgllffoaa
open Go.RowKit
set_option linter.unusedVariables false
set_option linter.unusedSimpArgs false
set_option maxRecDepth 100000
abbrev MJo := (Int × (Int × Int × Int × ByteArray × Unit) × Unit)
def zMJo : MJo := ((0 : Int), ((0 : Int), (0 : Int), (0 : Int), (⟨#[]⟩ : ByteArray), ()), ())
def vMJo : MJo → List Value := (fun d => (vInt .i64) d.1 ++ (fun d => (fun d => (vInt .i64) d.1 ++ (fun d => (vInt .i64) d.1 ++ (fun d => (vInt .u64) d.1 ++ (fun d => vStr d.1 ++ (fun _ => []) d.2) d.2) d.2) d.2) d.1 ++ (fun _ => []) d.2) d.2)
def fMJo : World → MJo → Prop := (fun w d => (fInt .i64) w d.1 ∧ (fun w d => (fun w d => (fInt .i64) w d.1 ∧ (fun w d => (fInt .i64) w d.1 ∧ (fun w d => (fInt .u64) w d.1 ∧ (fun w d => fStr w d.1 ∧ (fun _ _ => True) w d.2) w d.2) w d.2) w d.2) w d.1 ∧ (fun _ _ => True) w d.2) w d.2)
theorem rdMJo : ReadsW Try.prog 56 vMJo fMJo := (readsW_struct Try.underlying56 (by kernel_rfl) (readsFsW_cons (o := 0) (c := 1) rfl (by kernel_rfl) (reads_int Try.underlying3).toW (readsFsW_cons (o := 1) (c := 4) rfl (by kernel_rfl) (readsW_struct Try.underlying54 (by kernel_rfl) (readsFsW_cons (o := 0) (c := 1) rfl (by kernel_rfl) (reads_int Try.underlying3).toW (readsFsW_cons (o := 1) (c := 1) rfl (by kernel_rfl) (reads_int Try.underlying3).toW (readsFsW_cons (o := 2) (c := 1) rfl (by kernel_rfl) (reads_int Try.underlying26).toW (readsFsW_cons (o := 3) (c := 1) rfl (by kernel_rfl) (reads_string Try.underlying9).toW (readsFsW_nil rfl)))))) (readsFsW_nil rfl))))
theorem oneMJo : ∀ x, ∀ u ∈ vMJo x, u.oneCell' = true := by
  intro x u hu
  have hu : u ∈ [(.int .i64 x.1), (.int .i64 x.2.1.1), (.int .i64 x.2.1.2.1), (.int .u64 x.2.1.2.2.1), (.string x.2.1.2.2.2.1)] := hu
  simp only [List.mem_cons, List.not_mem_nil, or_false] at hu
  rcases hu with rfl | rfl | rfl | rfl | rfl <;> rfl
theorem wf_note {Rr : List (List Ent)} {x : Ent} (h : ∀ y ∈ Rr.flatten, (Lit.int .i64 y.1).wf = true) (hx : (Lit.int .i64 x.1).wf = true) : ∀ y ∈ (rNote Rr x).flatten, (Lit.int .i64 y.1).wf = true := by
  by_cases h0 : 0 < Rr.length
  · rw [rNote_flat x h0]
    intro y hy
    rcases List.mem_append.1 hy with h1 | h1
    · exact h y h1
    · rw [List.mem_singleton.1 h1]; exact hx
  · have e : rNote Rr x = Rr := by unfold rNote; rw [if_pos (by omega)]
    rw [e]; exact h
theorem wf_keep {Rr : List (List Ent)} (h0 : 0 < Rr.length) (h : ∀ y ∈ Rr.flatten, (Lit.int .i64 y.1).wf = true) : ∀ y ∈ (rKeep Rr).flatten, (Lit.int .i64 y.1).wf = true := by
  rw [rKeep_flat h0]
  split
  · intro y hy; cases hy
  · exact h
theorem wf_back {Rr : List (List Ent)} (h0 : 0 < Rr.length) (h : ∀ y ∈ Rr.flatten, (Lit.int .i64 y.1).wf = true) : ∀ y ∈ (Rq Rr).flatten, (Lit.int .i64 y.1).wf = true := fun y hy => h y (by rw [last_flat h0]; exact List.mem_append_left _ hy)
theorem rNote_0 {Rr : List (List Ent)} (h0 : Rr.length = 0) (x : Ent) : rNote Rr x = Rr := by unfold rNote; rw [if_pos h0]
theorem wf_snoc {Rr : List (List Ent)} (h : ∀ y ∈ Rr.flatten, (Lit.int .i64 y.1).wf = true) : ∀ y ∈ (Rr ++ [([] : List Ent)]).flatten, (Lit.int .i64 y.1).wf = true := by
  rw [show (Rr ++ [([] : List Ent)]).flatten = Rr.flatten by simp]; exact h
theorem fl_snoc (Rr : List (List Ent)) : (Rr ++ [([] : List Ent)]).flatten.length = Rr.flatten.length := by simp

set_option maxHeartbeats 1000000 in
set_option maxRecDepth 100000 in
theorem journalPlays_any (a : Option Addr) (l : List MJo) (c : Nat) (w : World) (hl : RdS 5 vMJo w a l) (hlc : l.length ≤ 9223372036854775807) (hwl : ∀ y ∈ l, (Lit.int .i64 y.2.1.1).wf = true) : Calls Try.prog 4 #[(.slice a l.length c)] w fun e w' => e = .returned (.bool true) ∧ Below w.heap.size w w' := by
  refine sx_enter (L := [(0, (.slice a l.length c))]) Try.func4 rfl rfl rfl rfl (fun fa hf => ?_)
  have hb : Below w.heap.size w w := Below.refl _ _
  refine wp_seq_k (fun K1 hK1 => ?_)
  refine wp_region_lit ?_
  refine sqv hf (r_assign rfl) rfl rfl rfl ?_; clear hf fa; intro fa hf
  apply wpList_nil
  (try simp only [Exit.then, Exit.inBlock, ↓reduceIte, Nat.reduceEqDiff])
  refine hK1 _ _ ?_
  refine wp_seq_k (fun K2 hK2 => ?_)
  refine wp_seq_k (fun K3 hK3 => ?_)
  refine wp_region_lit ?_
  refine sqdt hf (d_callB (vs := []) rfl Try.func18 (by kernel_rfl) (by kernel_rfl) (awake28_any _)) rfl rfl rfl ?_; clear hf fa; rintro fa _ w1 ⟨rfl, he1⟩ hf
  replace hb := hb.trans (Below.mono he1 hb.size)
  refine sqv hf (Runs.veq (v' := (.bool false)) (r_not rfl) rfl) rfl rfl rfl ?_; clear hf fa; intro fa hf
  apply wpList_nil
  (try simp only [Exit.then, Exit.inBlock, ↓reduceIte, Nat.reduceEqDiff])
  refine hK3 _ _ ?_
  refine wp_cond_false (hf.ev rfl) ?_
  refine wp_skip ?_
  (try simp only [Exit.then, Exit.inBlock, ↓reduceIte, Nat.reduceEqDiff])
  refine hK2 _ _ ?_
  refine wp_seq_k (fun K4 hK4 => ?_)
  refine wp_seq_k (fun K5 hK5 => ?_)
  refine wp_region_lit ?_
  refine sqv hf (r_move rfl) rfl rfl rfl ?_; clear hf fa; intro fa hf
  refine sqv hf (r_lensl rfl Try.underlying48) rfl rfl rfl ?_; clear hf fa; intro fa hf
  refine sqv hf (r_gt rfl rfl) rfl rfl rfl ?_; clear hf fa; intro fa hf
  apply wpList_nil
  (try simp only [Exit.then, Exit.inBlock, ↓reduceIte, Nat.reduceEqDiff])
  refine hK5 _ _ ?_
  refine wp_cond_split (t := (decide ((80 : Int) < ((l.length : Nat) : Int)))) (hf.ev rfl) (fun hqt17_1 => ?_) (fun hqt17_1 => ?_)
  · have hqt17_1b := hqt17_1
    try simp only [decide_eq_true_eq, Bool.and_eq_true, Bool.or_eq_true, Bool.not_eq_true', decide_eq_false_iff_not, ne_eq, Bool.not_eq_true] at hqt17_1
    refine wp_seq_k (fun K6 hK6 => ?_)
    refine wp_region_lit ?_
    refine sqv hf (r_assign rfl) rfl rfl rfl ?_; clear hf fa; intro fa hf
    apply wpList_nil
    (try simp only [Exit.then, Exit.inBlock, ↓reduceIte, Nat.reduceEqDiff])
    refine hK6 _ _ ?_
    refine wp_ret ?_
    (try simp only [Exit.then, Exit.inBlock])
    refine ret1 hf rfl rfl ?_
    exact ⟨rfl, hb⟩
  · have hqt17_1b := hqt17_1
    replace hqt17_1 := Bool.eq_false_iff.1 hqt17_1
    try simp only [ne_eq, decide_eq_true_eq, Bool.and_eq_true, Bool.or_eq_true, Bool.not_eq_true', decide_eq_false_iff_not] at hqt17_1
    refine wp_skip ?_
    (try simp only [Exit.then, Exit.inBlock, ↓reduceIte, Nat.reduceEqDiff])
    refine hK4 _ _ ?_
    refine wp_seq_k (fun K7 hK7 => ?_)
    refine wp_region_lit ?_
    refine sqdt hf (d_callX (vs := []) rfl Try.func19 (by kernel_rfl) (by kernel_rfl) (new_S28 _)) rfl rfl rfl ?_; clear hf fa; rintro fa _ w2 ⟨pj, rfl, hJ, he2⟩ hf
    replace hJ : JR w.heap.size w2 pj _ _ _ := hJ.lower hb.size
    replace hb := hb.trans (Below.mono he2 hb.size)
    refine sqv hf (r_assign rfl) rfl rfl rfl ?_; clear hf fa; intro fa hf
    refine sqv hf (r_assign rfl) rfl rfl rfl ?_; clear hf fa; intro fa hf
    apply wpList_nil
    (try simp only [Exit.then, Exit.inBlock, ↓reduceIte, Nat.reduceEqDiff])
    refine hK7 _ _ ?_
    refine wp_seq_k (fun K8 hK8 => ?_)
    refine wp_region_lit ?_
    refine sqv hf (r_assign rfl) rfl rfl rfl ?_; clear hf fa; intro fa hf
    apply wpList_nil
    (try simp only [Exit.then, Exit.inBlock, ↓reduceIte, Nat.reduceEqDiff])
    refine hK8 _ _ ?_
    refine wp_seq_k (fun K9 hK9 => ?_)
    refine wp_seq_k (fun K10 hK10 => ?_)
    refine wp_region_lit ?_
    refine sqv hf (r_assign rfl) rfl rfl rfl ?_; clear hf fa; intro fa hf
    apply wpList_nil
    (try simp only [Exit.then, Exit.inBlock, ↓reduceIte, Nat.reduceEqDiff])
    refine hK10 _ _ ?_
    refine wp_block ?_
    refine wp_loop_k (fun mq fa wr => ∃ (k : Nat) (Vs : List SlV) (Rr : List (List Ent)) (N : Nat) (rva : Option Addr) (rvc : Nat), mq = l.length - k ∧ Fr 180 fa [(0, (.slice a l.length c)), (3, (.pointer (some ⟨pj, 0, none⟩))), (4, (.int .i64 ((N : Nat) : Int))), (6, (.int .i64 ((k : Nat) : Int))), (5, (.slice rva Vs.length rvc))] ∧ Below w.heap.size w wr ∧ Row 1 vSV 64 (w.heap.size) wr (.slice rva (Vs.length) rvc) Vs ∧ (k ≤ l.length) ∧ (l.length ≤ 80) ∧ (Rr.length ≤ k) ∧ (Rr.flatten.length ≤ k) ∧ (N ≤ k) ∧ (∀ y ∈ Rr.flatten, (Lit.int .i64 y.1).wf = true) ∧ (RI w.heap.size wr Vs Rr) ∧ (JR w.heap.size wr pj Rr.flatten (offs Rr) ((N : Nat) : Int))) ?_ ?_
    · skip
      exact ⟨_, 0, [], [], 0, none, 0, rfl, hf.sub ⟨rfl, rfl, (some_int (by first | rfl | omega)), (some_int (by first | rfl | omega)), (some_sl (by first | omega | (simp only [List.length_append, List.length_cons, List.length_nil]; omega) | (simp <;> omega)) rfl), trivial⟩, hb, Row.nil, by omega, by omega, Nat.le_refl _, Nat.le_refl _, Nat.le_refl _, (by simp), RI.nil _ _, hJ⟩
    · skip
      clear hf fa; intro mq1 fa w3 hI KL1 hKL1
      clear hb
      obtain ⟨k, Vs, Rr, N, rva, rvc, hmq1, hf, hb, hrv, hk, hk80, hRk, hRfk, hNk, hwfR, hRI, hJ⟩ := hI
      have hcrv := Row.caps hrv
      have hRs : Rr.length ≤ 1000 := by omega
      have hRf : Rr.flatten.length ≤ 1000 := by omega
      have hVR := hRI.1
      refine wp_seq_k (fun K11 hK11 => ?_)
      refine wp_seq_k (fun K12 hK12 => ?_)
      refine wp_region_lit ?_
      refine sqv hf (r_move rfl) rfl rfl rfl ?_; clear hf fa; intro fa hf
      refine sqv hf (r_move rfl) rfl rfl rfl ?_; clear hf fa; intro fa hf
      refine sqv hf (r_lensl rfl Try.underlying48) rfl rfl rfl ?_; clear hf fa; intro fa hf
      refine sqv hf (r_lt rfl rfl) rfl rfl rfl ?_; clear hf fa; intro fa hf
      apply wpList_nil
      (try simp only [Exit.then, Exit.inBlock, ↓reduceIte, Nat.reduceEqDiff])
      refine hK12 _ _ ?_
      refine wp_cond_split (t := (decide (((k : Nat) : Int) < ((l.length : Nat) : Int)))) (hf.ev rfl) (fun hqt22_1 => ?_) (fun hqt22_1 => ?_)
      · have hqt22_1b := hqt22_1
        try simp only [decide_eq_true_eq, Bool.and_eq_true, Bool.or_eq_true, Bool.not_eq_true', decide_eq_false_iff_not, ne_eq, Bool.not_eq_true] at hqt22_1
        refine wp_skip ?_
        (try simp only [Exit.then, Exit.inBlock, ↓reduceIte, Nat.reduceEqDiff])
        refine hK11 _ _ ?_
        refine wp_seq_k (fun K13 hK13 => ?_)
        refine wp_block ?_
        refine wp_seq_k (fun K14 hK14 => ?_)
        obtain ⟨y, hy⟩ : ∃ x, l[k]? = some x := ⟨_, List.getElem?_eq_getElem (by omega)⟩
        have hyw := hwl y (List.mem_of_getElem? hy)
        replace hJ := hJ.toX
        have hX0 := Nat.le_refl w3.heap.size
        refine wp_region_lit ?_
        refine sqv hf (r_move rfl) rfl rfl rfl ?_; clear hf fa; intro fa hf
        refine sqv hf (r_move rfl) rfl rfl rfl ?_; clear hf fa; intro fa hf
        have hy1 : (l)[k]? = some y := hy
        obtain ⟨ab1, aoff1, hat1, hlb1, hel1⟩ := RdS.at hl hy1
        refine sqv hf (r_ixa (sz := 5) (j := k) (evAt rfl hat1) rfl Try.underlying48 (by kernel_rfl) rfl (by omega) rfl) rfl rfl rfl ?_; clear hf fa; intro fa hf
        refine sqv hf (r_fa rfl Try.underlying56 (f := 1) (q := ((aoff1 + k * 5) + 1)) rfl (by kernel_rfl) rfl) rfl rfl rfl ?_; clear hf fa; intro fa hf
        refine sqv hf (r_loadA (cs := [(.int .i64 y.2.1.1), (.int .i64 y.2.1.2.1), (.int .u64 y.2.1.2.2.1), (.string y.2.1.2.2.2.1)]) rfl Try.underlying54 rfl (by kernel_rfl) (cellsAt_part (d := 1) (n := 4) (cellsAt_below hel1 hb hlb1) rfl rfl)) rfl rfl rfl ?_; clear hf fa; intro fa hf
        refine sqdt hf (d_alloc (z := (.agg #[(.int .i64 (0 : Int)), (.int .i64 (0 : Int)), (.int .u64 (0 : Int)), (.string ⟨#[]⟩)])) (cs := #[(.int .i64 (0 : Int)), (.int .i64 (0 : Int)), (.int .u64 (0 : Int)), (.string ⟨#[]⟩)]) (by kernel_rfl) rfl) rfl rfl rfl ?_; clear hf fa; rintro fa _ w4 ⟨b1, rfl, hle1, hk1, he3⟩ hf
        have hBb1 : w.heap.size ≤ b1 := Nat.le_trans hb.size hle1
        replace hrv := Row.ext hrv he3
        replace hb := hb.trans (Below.mono he3 hb.size)
        replace hJ := hJ.ext he3
        replace hRI := hRI.ext he3
        refine sqn hf (d_storeK (T := 54) (v := (.agg #[(.int .i64 y.2.1.1), (.int .i64 y.2.1.2.1), (.int .u64 y.2.1.2.2.1), (.string y.2.1.2.2.2.1)])) (cs := #[(.int .i64 (0 : Int)), (.int .i64 (0 : Int)), (.int .u64 (0 : Int)), (.string ⟨#[]⟩)]) (cs' := #[(.int .i64 y.2.1.1), (.int .i64 y.2.1.2.1), (.int .u64 y.2.1.2.2.1), (.string y.2.1.2.2.2.1)]) rfl rfl (by kernel_rfl) (by kernel_rfl) hk1 (by kernel_rfl) (by kernel_rfl)) rfl rfl ?_; clear hf fa; rintro fa _ w5 ⟨hk2, hg1⟩ hf
        replace hrv := Row.grown hrv hg1 (Row.ne_type hrv hk1 rfl)
        replace hb := hb.trans (grown_below hg1 hb.size hBb1)
        replace hJ := hJ.grown hg1 hle1
        replace hRI := hRI.kt (KT.grown hg1 hk1 rfl)
        apply wpList_nil
        (try simp only [Exit.then, Exit.inBlock, ↓reduceIte, Nat.reduceEqDiff])
        refine hK14 _ _ ?_
        refine wp_seq_k (fun K15 hK15 => ?_)
        refine wp_seq_k (fun K16 hK16 => ?_)
        refine wp_region_lit ?_
        refine sqv hf (r_fa rfl Try.underlying54 (f := 3) (q := 3) rfl (by kernel_rfl) rfl) rfl rfl rfl ?_; clear hf fa; intro fa hf
        refine sqv hf (r_load (v := (.string y.2.1.2.2.2.1)) rfl Try.underlying9 rfl (cell_blk hk2 rfl)) rfl rfl rfl ?_; clear hf fa; intro fa hf
        refine sqv hf (r_lens rfl Try.underlying9) rfl rfl rfl ?_; clear hf fa; intro fa hf
        refine sqv hf (r_gt rfl rfl) rfl rfl rfl ?_; clear hf fa; intro fa hf
        apply wpList_nil
        (try simp only [Exit.then, Exit.inBlock, ↓reduceIte, Nat.reduceEqDiff])
        refine hK16 _ _ ?_
        refine wp_cond_split (t := (decide ((50 : Int) < ((y.2.1.2.2.2.1.size : Nat) : Int)))) (hf.ev rfl) (fun hqt33_1 => ?_) (fun hqt33_1 => ?_)
        · have hqt33_1b := hqt33_1
          try simp only [decide_eq_true_eq, Bool.and_eq_true, Bool.or_eq_true, Bool.not_eq_true', decide_eq_false_iff_not, ne_eq, Bool.not_eq_true] at hqt33_1
          refine wp_seq_k (fun K17 hK17 => ?_)
          refine wp_region_lit ?_
          refine sqv hf (r_assign rfl) rfl rfl rfl ?_; clear hf fa; intro fa hf
          apply wpList_nil
          (try simp only [Exit.then, Exit.inBlock, ↓reduceIte, Nat.reduceEqDiff])
          refine hK17 _ _ ?_
          refine wp_ret ?_
          (try simp only [Exit.then, Exit.inBlock])
          refine ret1 hf rfl rfl ?_
          exact ⟨rfl, hb⟩
        · have hqt33_1b := hqt33_1
          replace hqt33_1 := Bool.eq_false_iff.1 hqt33_1
          try simp only [ne_eq, decide_eq_true_eq, Bool.and_eq_true, Bool.or_eq_true, Bool.not_eq_true', decide_eq_false_iff_not] at hqt33_1
          refine wp_skip ?_
          (try simp only [Exit.then, Exit.inBlock, ↓reduceIte, Nat.reduceEqDiff])
          refine hK15 _ _ ?_
          refine wp_cut_k (fun fa wr => ∃ (Vf : List SlV) (Rf : List (List Ent)) (Nf : Nat) (rva : Option Addr) (rvc : Nat), Fr 180 fa [(0, (.slice a l.length c)), (3, (.pointer (some ⟨pj, 0, none⟩))), (4, (.int .i64 ((Nf : Nat) : Int))), (5, (.slice rva ((Vf.length)) rvc)), (6, (.int .i64 ((k : Nat) : Int))), (7, (.pointer (some ⟨b1, 0, none⟩)))] ∧ Below w.heap.size w wr ∧ Row 1 vSV 64 (w.heap.size) wr (.slice rva ((Vf.length)) rvc) Vf ∧ wr.heap[b1]? = some (.cells #[(.int .i64 y.2.1.1), (.int .i64 y.2.1.2.1), (.int .u64 y.2.1.2.2.1), (.string y.2.1.2.2.2.1)] 54 (0, 0)) ∧ (Rf.length ≤ k + 1) ∧ (Rf.flatten.length ≤ k + 1) ∧ (Nf ≤ k + 1) ∧ (∀ y ∈ Rf.flatten, (Lit.int .i64 y.1).wf = true) ∧ (RI w.heap.size wr Vf Rf) ∧ (JR w.heap.size wr pj Rf.flatten (offs Rf) ((Nf : Nat) : Int))) (fun KC1 hKC1 => ?_) ?_
          · skip
            refine wp_seq_k (fun K19 hK19 => ?_)
            refine wp_region_lit ?_
            refine sqv hf (r_move rfl) rfl rfl rfl ?_; clear hf fa; intro fa hf
            refine sqv hf (r_move rfl) rfl rfl rfl ?_; clear hf fa; intro fa hf
            refine sqv hf (r_ixa (sz := 5) (j := k) (evAt rfl hat1) rfl Try.underlying48 (by kernel_rfl) rfl (by omega) rfl) rfl rfl rfl ?_; clear hf fa; intro fa hf
            refine sqv hf (r_fa rfl Try.underlying56 (f := 0) (q := (aoff1 + k * 5)) rfl (by kernel_rfl) rfl) rfl rfl rfl ?_; clear hf fa; intro fa hf
            refine sqv hf (r_load (v := (.int .i64 y.1)) rfl Try.underlying3 rfl (cellsAt_cell (cellsAt_below hel1 hb hlb1) (i := 0) rfl rfl)) rfl rfl rfl ?_; clear hf fa; intro fa hf
            apply wpList_nil
            (try simp only [Exit.then, Exit.inBlock, ↓reduceIte, Nat.reduceEqDiff])
            refine hK19 _ _ ?_
            refine wp_block ?_
            refine wp_seq_k (fun K20 hK20 => ?_)
            refine wp_region_lit ?_
            refine sqv hf (r_eq rfl rfl) rfl rfl rfl ?_; clear hf fa; intro fa hf
            refine sqv hf (r_assign rfl) rfl rfl rfl ?_; clear hf fa; intro fa hf
            apply wpList_nil
            (try simp only [Exit.then, Exit.inBlock, ↓reduceIte, Nat.reduceEqDiff])
            refine hK20 _ _ ?_
            refine wp_cond_split (t := (decide (y.1 = (0 : Int)))) (hf.ev rfl) (fun hqt39_1 => ?_) (fun hqt39_1 => ?_)
            · have hqt39_1b := hqt39_1
              try simp only [decide_eq_true_eq, Bool.and_eq_true, Bool.or_eq_true, Bool.not_eq_true', decide_eq_false_iff_not, ne_eq, Bool.not_eq_true] at hqt39_1
              refine wp_seq_k (fun K21 hK21 => ?_)
              skip
              by_cases hsp1 : Rr.length = 0
              · have hsp1b : decide (Rr.length = 0) = true := decide_eq_true hsp1
                have hcl0 : Rr.length = 0 := hsp1
                refine wp_region_lit ?_
                refine sqv hf (r_move rfl) rfl rfl rfl ?_; clear hf fa; intro fa hf
                refine sqv hf (r_loadA (cs := [(.int .i64 y.2.1.1), (.int .i64 y.2.1.2.1), (.int .u64 y.2.1.2.2.1), (.string y.2.1.2.2.2.1)]) rfl Try.underlying54 rfl (by kernel_rfl) (cellsAt_blk hk2)) rfl rfl rfl ?_; clear hf fa; intro fa hf
                refine sqdt hf (d_callB (vs := [(.pointer (some ⟨pj, 0, none⟩)), (.agg #[(.int .i64 y.2.1.1), (.int .i64 y.2.1.2.1), (.int .u64 y.2.1.2.2.1), (.string y.2.1.2.2.2.1)])]) rfl Try.func20 (by kernel_rfl) (by kernel_rfl) (note_0 (JRx.jr hJ) hRs hRf hsp1 y.2.1.1 y.2.1.2.1 y.2.1.2.2.1 y.2.1.2.2.2.1)) rfl rfl rfl ?_; clear hf fa; rintro fa _ w6 ⟨rfl, he4⟩ hf
                replace hk2 := blk_ext hk2 he4
                replace hrv := Row.ext hrv he4
                replace hb := hb.trans (Below.mono he4 hb.size)
                replace hJ := hJ.ext he4
                replace hRI := hRI.ext he4
                apply wpList_nil
                (try simp only [Exit.then, Exit.inBlock, ↓reduceIte, Nat.reduceEqDiff])
                refine hK21 _ _ ?_
                refine wp_seq_k (fun K22 hK22 => ?_)
                refine wp_seq_k (fun K23 hK23 => ?_)
                refine wp_region_lit ?_
                refine sqv hf (r_move rfl) rfl rfl rfl ?_; clear hf fa; intro fa hf
                refine sqv hf (r_lensl rfl Try.underlying52) rfl rfl rfl ?_; clear hf fa; intro fa hf
                refine sqv hf (Runs.veq (r_gt rfl rfl) (congrArg Value.bool (show _ = false from (decide_eq_false (by omega))))) rfl rfl rfl ?_; clear hf fa; intro fa hf
                apply wpList_nil
                (try simp only [Exit.then, Exit.inBlock, ↓reduceIte, Nat.reduceEqDiff])
                refine hK23 _ _ ?_
                refine wp_cond_false (hf.ev rfl) ?_
                refine wp_skip ?_
                (try simp only [Exit.then, Exit.inBlock, ↓reduceIte, Nat.reduceEqDiff])
                refine hK22 _ _ ?_
                refine wp_region_lit ?_
                refine sqv hf (r_move rfl) rfl rfl rfl ?_; clear hf fa; intro fa hf
                refine sqv hf (r_fa rfl Try.underlying54 (f := 0) (q := 0) rfl (by kernel_rfl) rfl) rfl rfl rfl ?_; clear hf fa; intro fa hf
                refine sqv hf (r_load (v := (.int .i64 y.2.1.1)) rfl Try.underlying3 rfl (cell_blk hk2 rfl)) rfl rfl rfl ?_; clear hf fa; intro fa hf
                refine sqv hf (r_fa rfl Try.underlying54 (f := 1) (q := 1) rfl (by kernel_rfl) rfl) rfl rfl rfl ?_; clear hf fa; intro fa hf
                refine sqv hf (r_load (v := (.int .i64 y.2.1.2.1)) rfl Try.underlying3 rfl (cell_blk hk2 rfl)) rfl rfl rfl ?_; clear hf fa; intro fa hf
                refine sqv hf (r_fa rfl Try.underlying54 (f := 2) (q := 2) rfl (by kernel_rfl) rfl) rfl rfl rfl ?_; clear hf fa; intro fa hf
                refine sqv hf (r_load (v := (.int .u64 y.2.1.2.2.1)) rfl Try.underlying26 rfl (cell_blk hk2 rfl)) rfl rfl rfl ?_; clear hf fa; intro fa hf
                refine sqv hf (r_fa rfl Try.underlying54 (f := 3) (q := 3) rfl (by kernel_rfl) rfl) rfl rfl rfl ?_; clear hf fa; intro fa hf
                refine sqv hf (r_load (v := (.string y.2.1.2.2.2.1)) rfl Try.underlying9 rfl (cell_blk hk2 rfl)) rfl rfl rfl ?_; clear hf fa; intro fa hf
                refine sqv hf (r_build (vs := [(0, (.int .i64 y.2.1.1)), (1, (.int .i64 y.2.1.2.1)), (2, (.int .u64 y.2.1.2.2.1)), (3, (.string y.2.1.2.2.2.1))]) (cs := #[(.int .i64 y.2.1.1), (.int .i64 y.2.1.2.1), (.int .u64 y.2.1.2.2.1), (.string y.2.1.2.2.2.1)]) rfl (fun _ => by kernel_rfl)) rfl rfl rfl ?_; clear hf fa; intro fa hf
                refine sqdt hf (d_callX (vs := [(.slice rva Vs.length rvc), (.agg #[(.int .i64 y.2.1.1), (.int .i64 y.2.1.2.1), (.int .u64 y.2.1.2.2.1), (.string y.2.1.2.2.2.1)])]) rfl Try.func21 (by kernel_rfl) (by kernel_rfl) (note28 w.heap.size _ rva rvc Vs Rr hb.size hrv hRI hRs (by omega) (y.2.1.1, y.2.1.2.1, y.2.1.2.2.1, y.2.1.2.2.2.1))) rfl rfl rfl ?_; clear hf fa; rintro fa _ w7 ⟨Vn, va, vc, rfl, hrn, hRIn, he5⟩ hf
                replace hk2 := blk_ext hk2 he5
                replace hb := hb.trans (Below.mono he5 hb.size)
                replace hJ := hJ.ext he5
                replace hRI := hRI.ext he5
                clear hRI
                have hRI := hRIn
                clear hRIn
                refine sqv hf (r_assign rfl) rfl rfl rfl ?_; clear hf fa; intro fa hf
                apply wpList_nil
                (try simp only [Exit.then, Exit.inBlock, ↓reduceIte, Nat.reduceEqDiff])
                rw [rNote_0 hcl0] at hRI
                exact hKC1 _ _ ⟨Vn, Rr, N, va, vc, hf.sub ⟨rfl, rfl, rfl, (some_sl (by first | omega | (simp only [List.length_append, List.length_cons, List.length_nil]; omega) | (simp <;> omega)) rfl), rfl, rfl, trivial⟩, hb, (relM hrn (by first | rfl | (rw [List.length_take]; omega) | omega)), hk2, by omega, by omega, by omega, hwfR, hRI, hJ.jr⟩
              · have hsp1b : decide (Rr.length = 0) = false := decide_eq_false hsp1
                skip
                refine wp_region_lit ?_
                refine sqv hf (r_move rfl) rfl rfl rfl ?_; clear hf fa; intro fa hf
                refine sqv hf (r_loadA (cs := [(.int .i64 y.2.1.1), (.int .i64 y.2.1.2.1), (.int .u64 y.2.1.2.2.1), (.string y.2.1.2.2.2.1)]) rfl Try.underlying54 rfl (by kernel_rfl) (cellsAt_blk hk2)) rfl rfl rfl ?_; clear hf fa; intro fa hf
                refine sqdt hf (d_callX (vs := [(.pointer (some ⟨pj, 0, none⟩)), (.agg #[(.int .i64 y.2.1.1), (.int .i64 y.2.1.2.1), (.int .u64 y.2.1.2.2.1), (.string y.2.1.2.2.2.1)])]) rfl Try.func20 (by kernel_rfl) (by kernel_rfl) (note_S hb hJ (by omega) hRs hRf (by omega) y.2.1.1 y.2.1.2.1 y.2.1.2.2.1 y.2.1.2.2.2.1)) rfl rfl rfl ?_; clear hf fa; rintro fa _ w8 ⟨rfl, hJ2, hb2, hP2⟩ hf; clear hJ; have hJ := hJ2; clear hJ2; replace hb := hb2; clear hb2
                replace hk2 := hP2.2.2.1 _ _ hle1 hk2
                replace hrv := Row.kt hrv hP2.1
                replace hRI := hRI.kt hP2.2.1
                clear hP2
                apply wpList_nil
                (try simp only [Exit.then, Exit.inBlock, ↓reduceIte, Nat.reduceEqDiff])
                refine hK21 _ _ ?_
                refine wp_seq_k (fun K24 hK24 => ?_)
                refine wp_seq_k (fun K25 hK25 => ?_)
                refine wp_region_lit ?_
                refine sqv hf (r_move rfl) rfl rfl rfl ?_; clear hf fa; intro fa hf
                refine sqv hf (r_lensl rfl Try.underlying52) rfl rfl rfl ?_; clear hf fa; intro fa hf
                refine sqv hf (Runs.veq (r_gt rfl rfl) (congrArg Value.bool (show _ = true from (decide_eq_true (by omega))))) rfl rfl rfl ?_; clear hf fa; intro fa hf
                apply wpList_nil
                (try simp only [Exit.then, Exit.inBlock, ↓reduceIte, Nat.reduceEqDiff])
                refine hK25 _ _ ?_
                refine wp_cond_true (hf.ev rfl) ?_
                refine wp_region_lit ?_
                refine sqv hf (r_move rfl) rfl rfl rfl ?_; clear hf fa; intro fa hf
                refine sqv hf (r_add (C := (((N : Nat) : Int) + (1 : Int))) rfl rfl (by rw [IntKind.wrap_i64]; omega)) rfl rfl rfl ?_; clear hf fa; intro fa hf
                refine sqv hf (r_assign rfl) rfl rfl rfl ?_; clear hf fa; intro fa hf
                apply wpList_nil
                (try simp only [Exit.then, Exit.inBlock, ↓reduceIte, Nat.reduceEqDiff])
                refine hK24 _ _ ?_
                refine wp_region_lit ?_
                refine sqv hf (r_move rfl) rfl rfl rfl ?_; clear hf fa; intro fa hf
                refine sqv hf (r_fa rfl Try.underlying54 (f := 0) (q := 0) rfl (by kernel_rfl) rfl) rfl rfl rfl ?_; clear hf fa; intro fa hf
                refine sqv hf (r_load (v := (.int .i64 y.2.1.1)) rfl Try.underlying3 rfl (cell_blk hk2 rfl)) rfl rfl rfl ?_; clear hf fa; intro fa hf
                refine sqv hf (r_fa rfl Try.underlying54 (f := 1) (q := 1) rfl (by kernel_rfl) rfl) rfl rfl rfl ?_; clear hf fa; intro fa hf
                refine sqv hf (r_load (v := (.int .i64 y.2.1.2.1)) rfl Try.underlying3 rfl (cell_blk hk2 rfl)) rfl rfl rfl ?_; clear hf fa; intro fa hf
                refine sqv hf (r_fa rfl Try.underlying54 (f := 2) (q := 2) rfl (by kernel_rfl) rfl) rfl rfl rfl ?_; clear hf fa; intro fa hf
                refine sqv hf (r_load (v := (.int .u64 y.2.1.2.2.1)) rfl Try.underlying26 rfl (cell_blk hk2 rfl)) rfl rfl rfl ?_; clear hf fa; intro fa hf
                refine sqv hf (r_fa rfl Try.underlying54 (f := 3) (q := 3) rfl (by kernel_rfl) rfl) rfl rfl rfl ?_; clear hf fa; intro fa hf
                refine sqv hf (r_load (v := (.string y.2.1.2.2.2.1)) rfl Try.underlying9 rfl (cell_blk hk2 rfl)) rfl rfl rfl ?_; clear hf fa; intro fa hf
                refine sqv hf (r_build (vs := [(0, (.int .i64 y.2.1.1)), (1, (.int .i64 y.2.1.2.1)), (2, (.int .u64 y.2.1.2.2.1)), (3, (.string y.2.1.2.2.2.1))]) (cs := #[(.int .i64 y.2.1.1), (.int .i64 y.2.1.2.1), (.int .u64 y.2.1.2.2.1), (.string y.2.1.2.2.2.1)]) rfl (fun _ => by kernel_rfl)) rfl rfl rfl ?_; clear hf fa; intro fa hf
                refine sqdt hf (d_callX (vs := [(.slice rva Vs.length rvc), (.agg #[(.int .i64 y.2.1.1), (.int .i64 y.2.1.2.1), (.int .u64 y.2.1.2.2.1), (.string y.2.1.2.2.2.1)])]) rfl Try.func21 (by kernel_rfl) (by kernel_rfl) (note28 w.heap.size _ rva rvc Vs Rr hb.size hrv hRI hRs (by omega) (y.2.1.1, y.2.1.2.1, y.2.1.2.2.1, y.2.1.2.2.2.1))) rfl rfl rfl ?_; clear hf fa; rintro fa _ w9 ⟨Vn, va, vc, rfl, hrn, hRIn, he6⟩ hf
                replace hk2 := blk_ext hk2 he6
                replace hb := hb.trans (Below.mono he6 hb.size)
                replace hJ := hJ.ext he6
                replace hRI := hRI.ext he6
                clear hRI
                have hRI := hRIn
                clear hRIn
                refine sqv hf (r_assign rfl) rfl rfl rfl ?_; clear hf fa; intro fa hf
                apply wpList_nil
                (try simp only [Exit.then, Exit.inBlock, ↓reduceIte, Nat.reduceEqDiff])
                exact hKC1 _ _ ⟨Vn, (rNote Rr (y.2.1.1, y.2.1.2.1, y.2.1.2.2.1, y.2.1.2.2.2.1)), (N + 1), va, vc, hf.sub ⟨rfl, rfl, (some_int (by first | rfl | omega)), (some_sl (by first | omega | (simp only [List.length_append, List.length_cons, List.length_nil]; omega) | (simp <;> omega)) rfl), rfl, rfl, trivial⟩, hb, (relM hrn (by first | rfl | (rw [List.length_take]; omega) | omega)), hk2, by rw [rNote_len]; omega, by have := rNote_flen Rr (y.2.1.1, y.2.1.2.1, y.2.1.2.2.1, y.2.1.2.2.2.1); omega, by omega, wf_note hwfR hyw, hRI, hJ⟩
            · have hqt39_1b := hqt39_1
              replace hqt39_1 := Bool.eq_false_iff.1 hqt39_1
              try simp only [ne_eq, decide_eq_true_eq, Bool.and_eq_true, Bool.or_eq_true, Bool.not_eq_true', decide_eq_false_iff_not] at hqt39_1
              refine wp_seq_k (fun K26 hK26 => ?_)
              refine wp_region_lit ?_
              refine sqv hf (r_eq rfl rfl) rfl rfl rfl ?_; clear hf fa; intro fa hf
              refine sqv hf (r_assign rfl) rfl rfl rfl ?_; clear hf fa; intro fa hf
              apply wpList_nil
              (try simp only [Exit.then, Exit.inBlock, ↓reduceIte, Nat.reduceEqDiff])
              refine hK26 _ _ ?_
              refine wp_cond_split (t := (decide (y.1 = (1 : Int)))) (hf.ev rfl) (fun hqt60_1 => ?_) (fun hqt60_1 => ?_)
              · have hqt60_1b := hqt60_1
                try simp only [decide_eq_true_eq, Bool.and_eq_true, Bool.or_eq_true, Bool.not_eq_true', decide_eq_false_iff_not, ne_eq, Bool.not_eq_true] at hqt60_1
                refine wp_seq_k (fun K27 hK27 => ?_)
                refine wp_region_lit ?_
                refine sqdt hf (d_bslice0 (sz := 1) Try.underlying52 (by kernel_rfl)) rfl rfl rfl ?_; clear hf fa; rintro fa _ w10 ⟨b2, rfl, hle2, hk3, he7⟩ hf
                have hBb2 : w.heap.size ≤ b2 := Nat.le_trans hb.size hle2
                have : b1 < b2 := Nat.lt_of_lt_of_le (blk_lt hk2) hle2
                have hnr1 : (Value.slice rva (Vs.length) rvc).ownBlock ≠ some b2 := fun hq => by have := (Row.lt hrv _ hq).2; omega
                have hnl1 : ∀ q, (Value.slice rva (Vs.length) rvc).ownBlock = some q → q < b2 := fun q hq => Nat.lt_of_lt_of_le (Row.lt hrv q hq).2 hle2
                replace hk2 := blk_ext hk2 he7
                replace hrv := Row.ext hrv he7
                replace hb := hb.trans (Below.mono he7 hb.size)
                replace hJ := hJ.ext he7
                replace hRI := hRI.ext he7
                refine sqv hf (r_move rfl) rfl rfl rfl ?_; clear hf fa; intro fa hf
                have hr1 := Row.of_new (k := 1) (V := vSV) (l := []) (base := w.heap.size) hk3 hBb2 rfl rfl (Nat.le_of_ble_eq_true rfl)
                refine sqdt hf (d_append (V := vSV) (k := 1) (e := 64) (bytes := 24) (z := (.slice none 0 0)) (news := Vs) (base := w.heap.size) (by intros; rfl) (by exact oneSV) rfl rfl Try.underlying52 (by kernel_rfl) rfl rfl rfl hr1 (Row.rd (by intros; rfl) hrv) rfl (fun h => Row.nocap hrv h) (by first | omega | (simp only [List.length_cons, List.length_nil, List.length_append, nums_len]; omega)) (by have := hb.size; omega)) rfl rfl rfl ?_; clear hf fa; rintro fa v w11 ⟨hr2, hg2⟩ hf; obtain ⟨ra1, rc1, rfl, hcrc1, hmrc1⟩ := Row.slice hr2
                replace hk2 := blk_row' hk2 hg2 (Row.ne_type hr1 hk2 rfl)
                replace hb := hb.trans (row_below hr1 hg2 hb.size (by have := hb.size; omega))
                simp only [List.nil_append] at hr2
                replace hJ := hJ.kt (KT.app hg2 hr1 rfl) (KT.app hg2 hr1 rfl) (KT.app hg2 hr1 rfl)
                replace hRI := hRI.kt (KT.app hg2 hr1 rfl)
                refine sqdt hf (d_bslice (z := (.slice none 0 0)) (sz := 1) (vs := [(0, (.slice none 0 0))]) (cs := #[(.slice none 0 0)]) rfl Try.underlying52 (by kernel_rfl) rfl (by kernel_rfl)) rfl rfl rfl ?_; clear hf fa; rintro fa _ w12 ⟨b3, rfl, hle3, hk4, he8⟩ hf
                have hBb3 : w.heap.size ≤ b3 := Nat.le_trans hb.size hle3
                have : b1 < b3 := Nat.lt_of_lt_of_le (blk_lt hk2) hle3
                have hnr2 : (Value.slice ra1 (((Vs).length)) rc1).ownBlock ≠ some b3 := fun hq => by have := (Row.lt hr2 _ hq).2; omega
                have hnl2 : ∀ q, (Value.slice ra1 (((Vs).length)) rc1).ownBlock = some q → q < b3 := fun q hq => Nat.lt_of_lt_of_le (Row.lt hr2 q hq).2 hle3
                replace hk2 := blk_ext hk2 he8
                replace hr2 := Row.ext hr2 he8
                replace hb := hb.trans (Below.mono he8 hb.size)
                replace hJ := hJ.ext he8
                replace hRI := hRI.ext he8
                have hs1 := Row.rd (by intros; rfl) (Row.of_new (k := 1) (V := vSV) (l := [((none, 0, 0) : SlV)]) hk4 (Nat.le_refl _) rfl rfl (Nat.le_of_ble_eq_true rfl))
                refine sqdt hf (d_append (V := vSV) (k := 1) (e := 64) (bytes := 24) (z := (.slice none 0 0)) (news := [((none, 0, 0) : SlV)]) (base := w.heap.size) (by intros; rfl) (by exact oneSV) rfl rfl Try.underlying52 (by kernel_rfl) rfl rfl rfl hr2 hs1 rfl (fun h => by cases h) (by first | omega | (simp only [List.length_cons, List.length_nil, List.length_append, nums_len]; omega)) (by have := hb.size; omega)) rfl rfl rfl ?_; clear hf fa; rintro fa v w13 ⟨hr3, hg3⟩ hf; obtain ⟨ra2, rc2, rfl, hcrc2, hmrc2⟩ := Row.slice hr3
                replace hk2 := blk_row' hk2 hg3 (Row.ne_type hr2 hk2 rfl)
                replace hb := hb.trans (row_below hr2 hg3 hb.size (by have := hb.size; omega))
                replace hJ := hJ.kt (KT.app hg3 hr2 rfl) (KT.app hg3 hr2 rfl) (KT.app hg3 hr2 rfl)
                replace hRI := hRI.kt (KT.app hg3 hr2 rfl)
                refine sqv hf (r_assign rfl) rfl rfl rfl ?_; clear hf fa; intro fa hf
                apply wpList_nil
                (try simp only [Exit.then, Exit.inBlock, ↓reduceIte, Nat.reduceEqDiff])
                refine hK27 _ _ ?_
                refine wp_seq_k (fun K28 hK28 => ?_)
                replace hRI := hRI.snoc
                refine wp_region_lit ?_
                refine sqv hf (r_move rfl) rfl rfl rfl ?_; clear hf fa; intro fa hf
                refine sqdt hf (d_callX (vs := [(.pointer (some ⟨pj, 0, none⟩))]) rfl Try.func22 (by kernel_rfl) (by kernel_rfl) (mark_S hb hJ hRs hRf (by omega))) rfl rfl rfl ?_; clear hf fa; rintro fa _ w14 ⟨rfl, hJ2, hb2, hP2⟩ hf; clear hJ; have hJ := hJ2; clear hJ2; replace hb := hb2; clear hb2
                replace hk2 := hP2.2.2.1 _ _ hle1 hk2
                replace hr3 := Row.kt hr3 hP2.1
                replace hRI := hRI.kt hP2.2.1
                clear hP2
                refine sqv hf (r_move rfl) rfl rfl rfl ?_; clear hf fa; intro fa hf
                refine sqv hf (r_lensl rfl Try.underlying52) rfl rfl rfl ?_; clear hf fa; intro fa hf
                refine sqv hf (Runs.veq (r_ne rfl rfl) (congrArg Value.bool (show _ = false from (by simp [hVR])))) rfl rfl rfl ?_; clear hf fa; intro fa hf
                apply wpList_nil
                (try simp only [Exit.then, Exit.inBlock, ↓reduceIte, Nat.reduceEqDiff])
                refine hK28 _ _ ?_
                refine wp_cond_false (hf.ev rfl) ?_
                refine wp_skip ?_
                (try simp only [Exit.then, Exit.inBlock, ↓reduceIte, Nat.reduceEqDiff])
                exact hKC1 _ _ ⟨(Vs ++ [((none, 0, 0) : SlV)]), (Rr ++ [([] : List Ent)]), N, ra2, rc2, hf.sub ⟨rfl, rfl, rfl, (some_sl (by first | omega | (simp only [List.length_append, List.length_cons, List.length_nil]; omega) | (simp <;> omega)) rfl), rfl, rfl, trivial⟩, hb, (relM hr3 (by first | rfl | (rw [List.length_take]; omega) | omega)), hk2, by rw [List.length_append, List.length_singleton]; omega, by rw [fl_snoc]; omega, by omega, wf_snoc hwfR, hRI, hJ⟩
              · have hqt60_1b := hqt60_1
                replace hqt60_1 := Bool.eq_false_iff.1 hqt60_1
                try simp only [ne_eq, decide_eq_true_eq, Bool.and_eq_true, Bool.or_eq_true, Bool.not_eq_true', decide_eq_false_iff_not] at hqt60_1
                refine wp_seq_k (fun K29 hK29 => ?_)
                refine wp_region_lit ?_
                refine sqv hf (r_eq rfl rfl) rfl rfl rfl ?_; clear hf fa; intro fa hf
                refine sqv hf (r_assign rfl) rfl rfl rfl ?_; clear hf fa; intro fa hf
                apply wpList_nil
                (try simp only [Exit.then, Exit.inBlock, ↓reduceIte, Nat.reduceEqDiff])
                refine hK29 _ _ ?_
                refine wp_cond_split (t := (decide (y.1 = (2 : Int)))) (hf.ev rfl) (fun hqt72_1 => ?_) (fun hqt72_1 => ?_)
                · have hqt72_1b := hqt72_1
                  try simp only [decide_eq_true_eq, Bool.and_eq_true, Bool.or_eq_true, Bool.not_eq_true', decide_eq_false_iff_not, ne_eq, Bool.not_eq_true] at hqt72_1
                  refine wp_seq_k (fun K30 hK30 => ?_)
                  have hbsz := hb.size
                  by_cases hsp2 : Rr.length = 0
                  · have hsp2b : decide (Rr.length = 0) = true := decide_eq_true hsp2
                    have hbsz := hb.size
                    refine wp_region_lit ?_
                    refine sqv hf (r_move rfl) rfl rfl rfl ?_; clear hf fa; intro fa hf
                    refine sqdt hf (d_callB (vs := [(.pointer (some ⟨pj, 0, none⟩))]) rfl Try.func23 (by kernel_rfl) (by kernel_rfl) (back_0 (JRx.jr hJ) hRs hRf hsp2)) rfl rfl rfl ?_; clear hf fa; rintro fa _ w15 ⟨rfl, he9⟩ hf
                    replace hk2 := blk_ext hk2 he9
                    replace hrv := Row.ext hrv he9
                    replace hb := hb.trans (Below.mono he9 hb.size)
                    replace hJ := hJ.ext he9
                    replace hRI := hRI.ext he9
                    refine sqv hf (r_move rfl) rfl rfl rfl ?_; clear hf fa; intro fa hf
                    refine sqv hf (r_extract rfl (i := 0) rfl) rfl rfl rfl ?_; clear hf fa; intro fa hf
                    refine sqv hf (r_extract rfl (i := 1) rfl) rfl rfl rfl ?_; clear hf fa; intro fa hf
                    refine sqv hf (r_assign rfl) rfl rfl rfl ?_; clear hf fa; intro fa hf
                    refine sqv hf (r_assign rfl) rfl rfl rfl ?_; clear hf fa; intro fa hf
                    apply wpList_nil
                    (try simp only [Exit.then, Exit.inBlock, ↓reduceIte, Nat.reduceEqDiff])
                    refine hK30 _ _ ?_
                    refine wp_seq_k (fun K31 hK31 => ?_)
                    refine wp_seq_k (fun K32 hK32 => ?_)
                    refine wp_region_lit ?_
                    refine sqv hf (r_move rfl) rfl rfl rfl ?_; clear hf fa; intro fa hf
                    refine sqv hf (r_lensl rfl Try.underlying52) rfl rfl rfl ?_; clear hf fa; intro fa hf
                    refine sqv hf (Runs.veq (r_eq rfl rfl) (congrArg Value.bool (show _ = true from (decide_eq_true (by omega))))) rfl rfl rfl ?_; clear hf fa; intro fa hf
                    apply wpList_nil
                    (try simp only [Exit.then, Exit.inBlock, ↓reduceIte, Nat.reduceEqDiff])
                    refine hK32 _ _ ?_
                    refine wp_cond_true (hf.ev rfl) ?_
                    refine wp_seq_k (fun K33 hK33 => ?_)
                    refine wp_seq_k (fun K34 hK34 => ?_)
                    refine wp_region_lit ?_
                    refine sqv hf (r_move rfl) rfl rfl rfl ?_; clear hf fa; intro fa hf
                    refine sqv hf (r_lensl rfl Try.underlying61) rfl rfl rfl ?_; clear hf fa; intro fa hf
                    refine sqv hf (Runs.veq (r_gt rfl rfl) (congrArg Value.bool (show _ = false from by decide))) rfl rfl rfl ?_; clear hf fa; intro fa hf
                    refine sqv hf (r_move rfl) rfl rfl rfl ?_; clear hf fa; intro fa hf
                    refine sqgd (act := true) (g := 3) (want := false) (ag := true) (c := false) hf (by rfl) (by rfl) rfl (fun _ =>  Runs.does (R := fun vq wq => vq = (.int .i64 (1 : Int)) ∧ w15 = wq) (r_move rfl) ⟨rfl, rfl⟩) (fun h => by cases h) rfl ?_; clear hf fa; rintro fa _ _ ⟨rfl, rfl⟩ hf
                    change Fr _ _ ((86, (.int .i64 (1 : Int))) :: _) at hf
                    refine sqgd (act := true) (g := 3) (want := false) (ag := true) (c := false) hf (by rfl) (by rfl) rfl (fun _ =>  Runs.does (R := fun vq wq => vq = (.bool false) ∧ w15 = wq) (Runs.veq (r_ne rfl rfl) (congrArg Value.bool (show _ = false from by decide))) ⟨rfl, rfl⟩) (fun h => by cases h) rfl ?_; clear hf fa; rintro fa _ _ ⟨rfl, rfl⟩ hf
                    change Fr _ _ ((87, (.bool false)) :: _) at hf
                    refine sqv hf (r_pick (b := false) rfl rfl rfl rfl) rfl rfl rfl ?_; clear hf fa; intro fa hf
                    apply wpList_nil
                    (try simp only [Exit.then, Exit.inBlock, ↓reduceIte, Nat.reduceEqDiff])
                    refine hK34 _ _ ?_
                    refine wp_cond_false (hf.ev rfl) ?_
                    refine wp_skip ?_
                    (try simp only [Exit.then, Exit.inBlock, ↓reduceIte, Nat.reduceEqDiff])
                    refine hK33 _ _ ?_
                    refine wp_exit ?_
                    (try simp only [Exit.then, Exit.inBlock, ↓reduceIte, Nat.reduceEqDiff])
                    refine hK13 _ _ ?_
                    refine wp_region_lit ?_
                    refine sqv hf (r_move rfl) rfl rfl rfl ?_; clear hf fa; intro fa hf
                    refine sqv hf (r_add (C := (((k : Nat) : Int) + (1 : Int))) rfl rfl (by rw [IntKind.wrap_i64]; omega)) rfl rfl rfl ?_; clear hf fa; intro fa hf
                    refine sqv hf (r_assign rfl) rfl rfl rfl ?_; clear hf fa; intro fa hf
                    apply wpList_nil
                    (try simp only [Exit.then, Exit.inBlock, ↓reduceIte, Nat.reduceEqDiff])
                    refine hKL1 _ _ _ (by omega) ⟨(k + 1), Vs, Rr, N, rva, rvc, rfl, hf.sub ⟨rfl, rfl, rfl, (some_int (by first | rfl | omega)), rfl, trivial⟩, hb, (Row.relen hrv), by omega, hk80, (by omega), (by omega), (by omega), hwfR, hRI, hJ.jr⟩
                  · have hsp2b : decide (Rr.length = 0) = false := decide_eq_false hsp2
                    have hbsz := hb.size
                    refine wp_region_lit ?_
                    refine sqv hf (r_move rfl) rfl rfl rfl ?_; clear hf fa; intro fa hf
                    refine sqdt hf (d_callX (vs := [(.pointer (some ⟨pj, 0, none⟩))]) rfl Try.func23 (by kernel_rfl) (by kernel_rfl) (back_S hb hJ (by omega) hRs hRf (by omega))) rfl rfl rfl ?_; clear hf fa; rintro fa _ w16 ⟨oa, oc, rfl, hro, hJ2, hb2, hP2⟩ hf; clear hJ; have hJ := hJ2; clear hJ2; replace hb := hb2; clear hb2
                    replace hk2 := hP2.2.2.1 _ _ hle1 hk2
                    replace hrv := Row.kt hrv hP2.1
                    replace hRI := hRI.kt hP2.2.1
                    replace hro := Row.rebase hro (show w.heap.size ≤ _ from hbsz)
                    clear hP2
                    refine sqv hf (r_move rfl) rfl rfl rfl ?_; clear hf fa; intro fa hf
                    refine sqv hf (r_extract rfl (i := 0) rfl) rfl rfl rfl ?_; clear hf fa; intro fa hf
                    refine sqv hf (r_extract rfl (i := 1) rfl) rfl rfl rfl ?_; clear hf fa; intro fa hf
                    refine sqv hf (r_assign rfl) rfl rfl rfl ?_; clear hf fa; intro fa hf
                    refine sqv hf (r_assign rfl) rfl rfl rfl ?_; clear hf fa; intro fa hf
                    apply wpList_nil
                    (try simp only [Exit.then, Exit.inBlock, ↓reduceIte, Nat.reduceEqDiff])
                    refine hK30 _ _ ?_
                    refine wp_seq_k (fun K35 hK35 => ?_)
                    refine wp_seq_k (fun K36 hK36 => ?_)
                    refine wp_region_lit ?_
                    refine sqv hf (r_move rfl) rfl rfl rfl ?_; clear hf fa; intro fa hf
                    refine sqv hf (r_lensl rfl Try.underlying52) rfl rfl rfl ?_; clear hf fa; intro fa hf
                    refine sqv hf (Runs.veq (r_eq rfl rfl) (congrArg Value.bool (show _ = false from (decide_eq_false (by omega))))) rfl rfl rfl ?_; clear hf fa; intro fa hf
                    apply wpList_nil
                    (try simp only [Exit.then, Exit.inBlock, ↓reduceIte, Nat.reduceEqDiff])
                    refine hK36 _ _ ?_
                    refine wp_cond_false (hf.ev rfl) ?_
                    refine wp_skip ?_
                    (try simp only [Exit.then, Exit.inBlock, ↓reduceIte, Nat.reduceEqDiff])
                    refine hK35 _ _ ?_
                    refine wp_seq_k (fun K37 hK37 => ?_)
                    refine wp_region_lit ?_
                    refine sqv hf (r_move rfl) rfl rfl rfl ?_; clear hf fa; intro fa hf
                    refine sqdt hf (d_callX (vs := [(.slice rva Vs.length rvc)]) rfl Try.func24 (by kernel_rfl) (by kernel_rfl) (back28 w.heap.size _ rva rvc Vs Rr hb.size hrv hRI hRs (by omega) (by omega))) rfl rfl rfl ?_; clear hf fa; rintro fa _ w17 ⟨ua, uc, rfl, hru, he10⟩ hf
                    replace hru := Row.rebase hru hb.size
                    replace hk2 := blk_ext hk2 he10
                    replace hrv := Row.ext hrv he10
                    replace hro := Row.ext hro he10
                    replace hb := hb.trans (Below.mono he10 hb.size)
                    replace hJ := hJ.ext he10
                    replace hRI := hRI.ext he10
                    have hrq := Row.cutA (m := Vs.length - 1) (by intros; rfl) hrv (Row.caps hrv).1 (by omega)
                    replace hRI : RI w.heap.size w17 (Vs.take (Vs.length - 1)) (Rq Rr) := by rw [hVR]; exact hRI.take (Rr.length - 1)
                    refine sqv hf (r_move rfl) rfl rfl rfl ?_; clear hf fa; intro fa hf
                    refine sqv hf (r_extract rfl (i := 0) rfl) rfl rfl rfl ?_; clear hf fa; intro fa hf
                    refine sqv hf (r_extract rfl (i := 1) rfl) rfl rfl rfl ?_; clear hf fa; intro fa hf
                    refine sqv hf (r_assign rfl) rfl rfl rfl ?_; clear hf fa; intro fa hf
                    refine sqv hf (r_assign rfl) rfl rfl rfl ?_; clear hf fa; intro fa hf
                    apply wpList_nil
                    (try simp only [Exit.then, Exit.inBlock, ↓reduceIte, Nat.reduceEqDiff])
                    refine hK37 _ _ ?_
                    refine wp_seq_k (fun K38 hK38 => ?_)
                    refine wp_region_lit ?_
                    refine sqv hf (r_move rfl) rfl rfl rfl ?_; clear hf fa; intro fa hf
                    refine sqv hf (r_assign rfl) rfl rfl rfl ?_; clear hf fa; intro fa hf
                    apply wpList_nil
                    (try simp only [Exit.then, Exit.inBlock, ↓reduceIte, Nat.reduceEqDiff])
                    refine hK38 _ _ ?_
                    refine wp_seq_k (fun K39 hK39 => ?_)
                    refine wp_region_lit ?_
                    refine sqv hf (r_move rfl) rfl rfl rfl ?_; clear hf fa; intro fa hf
                    refine sqv hf (Runs.veq (r_ne rfl rfl) (congrArg Value.bool (show _ = false from by decide))) rfl rfl rfl ?_; clear hf fa; intro fa hf
                    refine sqv hf (r_move rfl) rfl rfl rfl ?_; clear hf fa; intro fa hf
                    refine sqgd (act := true) (g := 2) (want := false) (ag := true) (c := false) hf (by rfl) (by rfl) rfl (fun _ =>  Runs.does (R := fun vq wq => vq = (.slice oa ((outE (Rl Rr) (Rl Rr).length).length) oc) ∧ w17 = wq) (r_move rfl) ⟨rfl, rfl⟩) (fun h => by cases h) rfl ?_; clear hf fa; rintro fa _ _ ⟨rfl, rfl⟩ hf
                    change Fr _ _ ((98, (.slice oa ((outE (Rl Rr) (Rl Rr).length).length) oc)) :: _) at hf
                    refine sqgd (act := true) (g := 2) (want := false) (ag := true) (c := false) hf (by rfl) (by rfl) rfl (fun _ =>  Runs.does (R := fun vq wq => vq = (.slice ua ((outE (Rl Rr) (Rl Rr).length).length) uc) ∧ w17 = wq) (r_move rfl) ⟨rfl, rfl⟩) (fun h => by cases h) rfl ?_; clear hf fa; rintro fa _ _ ⟨rfl, rfl⟩ hf
                    change Fr _ _ ((99, (.slice ua ((outE (Rl Rr) (Rl Rr).length).length) uc)) :: _) at hf
                    refine sqgd (act := true) (g := 2) (want := false) (ag := true) (c := false) hf (by rfl) (by rfl) rfl (fun _ =>  (d_callB (vs := [(.slice oa ((outE (Rl Rr) (Rl Rr).length).length) oc), (.slice ua ((outE (Rl Rr) (Rl Rr).length).length) uc)]) rfl Try.func25 (by kernel_rfl) (by kernel_rfl) (same_to _ _ (outE (Rl Rr) (Rl Rr).length) _ _ _ _ _ (Row.rd (by intros; rfl) hro) (Row.rd (by intros; rfl) hru) (by rw [outE_length _ _ (Nat.le_refl _)]; have := flat_len (Rr := Rr) (by omega); omega) rfl rfl)) ) (fun h => by cases h) rfl ?_; clear hf fa; rintro fa _ w18 ⟨rfl, he11⟩ hf
                    replace hk2 := blk_ext hk2 he11
                    replace hrq := Row.ext hrq he11
                    replace hro := Row.ext hro he11
                    replace hru := Row.ext hru he11
                    replace hb := hb.trans (Below.mono he11 hb.size)
                    replace hJ := hJ.ext he11
                    replace hRI := hRI.ext he11
                    change Fr _ _ ((100, (.bool true)) :: _) at hf
                    refine sqgd (act := true) (g := 2) (want := false) (ag := true) (c := false) hf (by rfl) (by rfl) rfl (fun _ =>  Runs.does (R := fun vq wq => vq = (.bool false) ∧ w18 = wq) (Runs.veq (v' := (.bool false)) (r_not rfl) rfl) ⟨rfl, rfl⟩) (fun h => by cases h) rfl ?_; clear hf fa; rintro fa _ _ ⟨rfl, rfl⟩ hf
                    change Fr _ _ ((101, (.bool false)) :: _) at hf
                    refine sqv hf (r_pick (b := false) rfl rfl rfl rfl) rfl rfl rfl ?_; clear hf fa; intro fa hf
                    apply wpList_nil
                    (try simp only [Exit.then, Exit.inBlock, ↓reduceIte, Nat.reduceEqDiff])
                    refine hK39 _ _ ?_
                    refine wp_cond_false (hf.ev rfl) ?_
                    refine wp_skip ?_
                    (try simp only [Exit.then, Exit.inBlock, ↓reduceIte, Nat.reduceEqDiff])
                    exact hKC1 _ _ ⟨(Vs.take (Vs.length - 1)), (Rq Rr), N, rva, rvc, hf.sub ⟨rfl, rfl, rfl, (some_sl (by first | omega | (simp only [List.length_append, List.length_cons, List.length_nil]; omega) | (simp <;> omega)) rfl), rfl, rfl, trivial⟩, hb, (relM hrq (by first | rfl | (rw [List.length_take]; omega) | omega)), hk2, by rw [List.length_take]; omega, by have := flat_len (Rr := Rr) (by omega); omega, by omega, wf_back (by omega) hwfR, hRI, hJ⟩
                · have hqt72_1b := hqt72_1
                  replace hqt72_1 := Bool.eq_false_iff.1 hqt72_1
                  try simp only [ne_eq, decide_eq_true_eq, Bool.and_eq_true, Bool.or_eq_true, Bool.not_eq_true', decide_eq_false_iff_not] at hqt72_1
                  refine wp_seq_k (fun K40 hK40 => ?_)
                  refine wp_region_lit ?_
                  refine sqv hf (r_eq rfl rfl) rfl rfl rfl ?_; clear hf fa; intro fa hf
                  refine sqv hf (r_assign rfl) rfl rfl rfl ?_; clear hf fa; intro fa hf
                  apply wpList_nil
                  (try simp only [Exit.then, Exit.inBlock, ↓reduceIte, Nat.reduceEqDiff])
                  refine hK40 _ _ ?_
                  refine wp_cond_split (t := (decide (y.1 = (3 : Int)))) (hf.ev rfl) (fun hqt103_1 => ?_) (fun hqt103_1 => ?_)
                  · have hqt103_1b := hqt103_1
                    try simp only [decide_eq_true_eq, Bool.and_eq_true, Bool.or_eq_true, Bool.not_eq_true', decide_eq_false_iff_not, ne_eq, Bool.not_eq_true] at hqt103_1
                    refine wp_seq_k (fun K41 hK41 => ?_)
                    by_cases hsp3 : Rr.length = 0
                    · have hsp3b : decide (Rr.length = 0) = true := decide_eq_true hsp3
                      refine wp_region_lit ?_
                      refine sqv hf (r_move rfl) rfl rfl rfl ?_; clear hf fa; intro fa hf
                      refine sqdt hf (d_callB (vs := [(.pointer (some ⟨pj, 0, none⟩))]) rfl Try.func26 (by kernel_rfl) (by kernel_rfl) (keep_0 (JRx.jr hJ) hRs hRf hsp3)) rfl rfl rfl ?_; clear hf fa; rintro fa _ w19 ⟨rfl, he12⟩ hf
                      replace hk2 := blk_ext hk2 he12
                      replace hrv := Row.ext hrv he12
                      replace hb := hb.trans (Below.mono he12 hb.size)
                      replace hJ := hJ.ext he12
                      replace hRI := hRI.ext he12
                      refine sqv hf (r_assign rfl) rfl rfl rfl ?_; clear hf fa; intro fa hf
                      apply wpList_nil
                      (try simp only [Exit.then, Exit.inBlock, ↓reduceIte, Nat.reduceEqDiff])
                      refine hK41 _ _ ?_
                      refine wp_seq_k (fun K42 hK42 => ?_)
                      refine wp_seq_k (fun K43 hK43 => ?_)
                      refine wp_region_lit ?_
                      refine sqv hf (r_move rfl) rfl rfl rfl ?_; clear hf fa; intro fa hf
                      refine sqv hf (r_lensl rfl Try.underlying52) rfl rfl rfl ?_; clear hf fa; intro fa hf
                      refine sqv hf (Runs.veq (r_eq rfl rfl) (congrArg Value.bool (show _ = true from (decide_eq_true (by omega))))) rfl rfl rfl ?_; clear hf fa; intro fa hf
                      apply wpList_nil
                      (try simp only [Exit.then, Exit.inBlock, ↓reduceIte, Nat.reduceEqDiff])
                      refine hK43 _ _ ?_
                      refine wp_cond_true (hf.ev rfl) ?_
                      refine wp_seq_k (fun K44 hK44 => ?_)
                      refine wp_seq_k (fun K45 hK45 => ?_)
                      refine wp_region_lit ?_
                      refine sqv hf (r_move rfl) rfl rfl rfl ?_; clear hf fa; intro fa hf
                      refine sqv hf (Runs.veq (r_ne rfl rfl) (congrArg Value.bool (show _ = false from by decide))) rfl rfl rfl ?_; clear hf fa; intro fa hf
                      apply wpList_nil
                      (try simp only [Exit.then, Exit.inBlock, ↓reduceIte, Nat.reduceEqDiff])
                      refine hK45 _ _ ?_
                      refine wp_cond_false (hf.ev rfl) ?_
                      refine wp_skip ?_
                      (try simp only [Exit.then, Exit.inBlock, ↓reduceIte, Nat.reduceEqDiff])
                      refine hK44 _ _ ?_
                      refine wp_exit ?_
                      (try simp only [Exit.then, Exit.inBlock, ↓reduceIte, Nat.reduceEqDiff])
                      refine hK13 _ _ ?_
                      refine wp_region_lit ?_
                      refine sqv hf (r_move rfl) rfl rfl rfl ?_; clear hf fa; intro fa hf
                      refine sqv hf (r_add (C := (((k : Nat) : Int) + (1 : Int))) rfl rfl (by rw [IntKind.wrap_i64]; omega)) rfl rfl rfl ?_; clear hf fa; intro fa hf
                      refine sqv hf (r_assign rfl) rfl rfl rfl ?_; clear hf fa; intro fa hf
                      apply wpList_nil
                      (try simp only [Exit.then, Exit.inBlock, ↓reduceIte, Nat.reduceEqDiff])
                      refine hKL1 _ _ _ (by omega) ⟨(k + 1), Vs, Rr, N, rva, rvc, rfl, hf.sub ⟨rfl, rfl, rfl, (some_int (by first | rfl | omega)), rfl, trivial⟩, hb, (Row.relen hrv), by omega, hk80, (by omega), (by omega), (by omega), hwfR, hRI, hJ.jr⟩
                    · have hsp3b : decide (Rr.length = 0) = false := decide_eq_false hsp3
                      refine wp_region_lit ?_
                      refine sqv hf (r_move rfl) rfl rfl rfl ?_; clear hf fa; intro fa hf
                      refine sqdt hf (d_callX (vs := [(.pointer (some ⟨pj, 0, none⟩))]) rfl Try.func26 (by kernel_rfl) (by kernel_rfl) (keep_S hb hJ (by omega) hRs hRf (by omega))) rfl rfl rfl ?_; clear hf fa; rintro fa _ w20 ⟨rfl, hJ2, hb2, hP2⟩ hf; clear hJ; have hJ := hJ2; clear hJ2; replace hb := hb2; clear hb2
                      replace hk2 := hP2.2.2.1 _ _ hle1 hk2
                      replace hrv := Row.kt hrv hP2.1
                      replace hRI := hRI.kt hP2.2.1
                      clear hP2
                      refine sqv hf (r_assign rfl) rfl rfl rfl ?_; clear hf fa; intro fa hf
                      apply wpList_nil
                      (try simp only [Exit.then, Exit.inBlock, ↓reduceIte, Nat.reduceEqDiff])
                      refine hK41 _ _ ?_
                      refine wp_seq_k (fun K46 hK46 => ?_)
                      refine wp_seq_k (fun K47 hK47 => ?_)
                      refine wp_region_lit ?_
                      refine sqv hf (r_move rfl) rfl rfl rfl ?_; clear hf fa; intro fa hf
                      refine sqv hf (r_lensl rfl Try.underlying52) rfl rfl rfl ?_; clear hf fa; intro fa hf
                      refine sqv hf (Runs.veq (r_eq rfl rfl) (congrArg Value.bool (show _ = false from (decide_eq_false (by omega))))) rfl rfl rfl ?_; clear hf fa; intro fa hf
                      apply wpList_nil
                      (try simp only [Exit.then, Exit.inBlock, ↓reduceIte, Nat.reduceEqDiff])
                      refine hK47 _ _ ?_
                      refine wp_cond_false (hf.ev rfl) ?_
                      refine wp_skip ?_
                      (try simp only [Exit.then, Exit.inBlock, ↓reduceIte, Nat.reduceEqDiff])
                      refine hK46 _ _ ?_
                      refine wp_seq_k (fun K48 hK48 => ?_)
                      refine wp_region_lit ?_
                      refine sqv hf (r_move rfl) rfl rfl rfl ?_; clear hf fa; intro fa hf
                      refine sqdt hf (d_callX (vs := [(.slice rva Vs.length rvc)]) rfl Try.func27 (by kernel_rfl) (by kernel_rfl) (keep28 w.heap.size _ rva rvc Vs Rr hb.size hrv hRI hRs (by omega) (by omega))) rfl rfl rfl ?_; clear hf fa; rintro fa _ w21 ⟨Vn, va, vc, rfl, hrn, hRIn, he13⟩ hf
                      replace hk2 := blk_ext hk2 he13
                      replace hb := hb.trans (Below.mono he13 hb.size)
                      replace hJ := hJ.ext he13
                      replace hRI := hRI.ext he13
                      clear hRI
                      have hRI := hRIn
                      clear hRIn
                      refine sqv hf (r_assign rfl) rfl rfl rfl ?_; clear hf fa; intro fa hf
                      apply wpList_nil
                      (try simp only [Exit.then, Exit.inBlock, ↓reduceIte, Nat.reduceEqDiff])
                      refine hK48 _ _ ?_
                      refine wp_seq_k (fun K49 hK49 => ?_)
                      refine wp_region_lit ?_
                      refine sqv hf (r_move rfl) rfl rfl rfl ?_; clear hf fa; intro fa hf
                      refine sqv hf (Runs.veq (r_ne rfl rfl) (congrArg Value.bool (show _ = false from by decide))) rfl rfl rfl ?_; clear hf fa; intro fa hf
                      apply wpList_nil
                      (try simp only [Exit.then, Exit.inBlock, ↓reduceIte, Nat.reduceEqDiff])
                      refine hK49 _ _ ?_
                      refine wp_cond_false (hf.ev rfl) ?_
                      refine wp_skip ?_
                      (try simp only [Exit.then, Exit.inBlock, ↓reduceIte, Nat.reduceEqDiff])
                      exact hKC1 _ _ ⟨Vn, (rKeep Rr), N, va, vc, hf.sub ⟨rfl, rfl, rfl, (some_sl (by first | omega | (simp only [List.length_append, List.length_cons, List.length_nil]; omega) | (simp <;> omega)) rfl), rfl, rfl, trivial⟩, hb, (relM hrn (by first | rfl | (rw [List.length_take]; omega) | omega)), hk2, by rw [rKeep_len]; omega, by have := rKeep_flen (Rr := Rr) (by omega); omega, by omega, wf_keep (by omega) hwfR, hRI, hJ⟩
                  · have hqt103_1b := hqt103_1
                    replace hqt103_1 := Bool.eq_false_iff.1 hqt103_1
                    try simp only [ne_eq, decide_eq_true_eq, Bool.and_eq_true, Bool.or_eq_true, Bool.not_eq_true', decide_eq_false_iff_not] at hqt103_1
                    refine wp_skip ?_
                    (try simp only [Exit.then, Exit.inBlock, ↓reduceIte, Nat.reduceEqDiff])
                    exact hKC1 _ _ ⟨Vs, Rr, N, rva, rvc, hf.sub ⟨rfl, rfl, rfl, (some_sl (by first | omega | (simp only [List.length_append, List.length_cons, List.length_nil]; omega) | (simp <;> omega)) rfl), rfl, rfl, trivial⟩, hb, (relM hrv (by first | rfl | (rw [List.length_take]; omega) | omega)), hk2, by omega, by omega, by omega, hwfR, hRI, hJ.jr⟩
          · clear hf hb fa hk2 hrv
            rintro fa w22 ⟨Vf, Rf, Nf, rva, rvc, hf, hb, hrv, hkb1, hFk, hFfk, hNf, hwfF, hRI, hJ⟩
            have hcrv := Row.caps hrv
            have hFs : Rf.length ≤ 1000 := by omega
            have hFf : Rf.flatten.length ≤ 1000 := by omega
            have hVF := hRI.1
            refine wp_seq_k (fun K50 hK50 => ?_)
            refine wp_seq_k (fun K51 hK51 => ?_)
            refine wp_region_un (fun wq => Below w22.heap.size w22 wq) (fun w w' => Below w.heap.size w w')
              (fun V => [(fun x _ => x = (.pointer (some ⟨pj, 0, none⟩))), (fun x _ => x = (.bool (decide (((Rf.length : Nat) : Int) > 0)))), (fun x _ => x = (.slice rva ((Vf.length)) rvc)), (fun x _ => x = (.int .i64 (((Vf.length) : Nat) : Int))), (fun x _ => x = (.bool (decide ((0 : Int) < (((Vf.length) : Nat) : Int))))), (fun x _ => x = (.bool false)), (fun x _ => x = (.bool false)), (fun x _ => x = (.pointer (some ⟨pj, 0, none⟩))), (fun x _ => x = (.int .i64 ((Rf.length : Nat) : Int))), (fun x _ => x = (.slice rva ((Vf.length)) rvc)), (fun x _ => x = (.int .i64 (((Vf.length) : Nat) : Int))), (fun x _ => x = (.bool false)), (fun x _ => x = (.bool false)), (fun x _ => x = (.bool false)), (fun x _ => x = (.pointer (some ⟨pj, 0, none⟩))), (fun x _ => x = (.int .i64 ((Rf.flatten.length : Nat) : Int))), (fun x _ => x = (.slice rva ((Vf.length)) rvc)), (fun x _ => x = (.int .i64 ((Rf.flatten.length : Nat) : Int))), (fun x _ => x = (.bool false)), (fun x _ => x = (.bool false)), (fun x _ => x = (.bool false)), (fun x _ => x = (.pointer (some ⟨pj, 0, none⟩))), (fun x _ => x = (.int .i64 ((Nf : Nat) : Int))), (fun x _ => x = (.int .i64 ((Nf : Nat) : Int))), (fun x _ => x = (.bool false)), (fun x _ => x = (.bool false)), (fun x _ => x = (.bool false)), (fun x _ => x = (.pointer (some ⟨pj, 0, none⟩))), (fun x wq => ∃ b, x = .map (some b) ∧ CntM Try.prog 3 3 wq b (kds Rf.flatten)), (fun x _ => x = (.pointer (some ⟨b1, 0, none⟩))), (fun x _ => x = (.int .i64 y.2.1.1)), (fun x _ => x = (.int .i64 ((cntN (kds Rf.flatten) y.2.1.1 : Nat) : Int))), (fun x _ => x = (.slice rva ((Vf.length)) rvc)), (fun x _ => x = (.pointer (some ⟨b1, 0, none⟩))), (fun x _ => x = (.int .i64 y.2.1.1)), (fun x _ => x = (.int .i64 (((cntN (kds Rf.flatten) y.2.1.1) : Nat) : Int))), (fun x _ => x = (.bool false)), (fun x _ => x = (.bool false))])
              []
              [[], [0], [], [2], [3], [1, 4], [1, 5], [6], [6, 7], [6], [6, 9], [6, 8, 10], [6, 11], [8, 12], [13], [13, 14], [13], [13, 15, 16], [13, 15, 17], [13, 18], [17, 19], [20], [20, 21], [20], [20, 22, 23], [20, 24], [22, 25], [26], [26, 27], [26], [26, 29], [26, 28, 30], [26], [26], [26, 33], [26, 28, 32, 34], [26, 31, 35], [26, 36]]
              hf (by kernel_rfl) (by kernel_rfl) (fun _ => rfl) ((Below.refl _ _).drew) (fun a b h1 h2 => h1.trans (h2.mono h1.size)) (fun _ _ h => h.size) (fun V => ⟨kept_eq, kept_eq, kept_eq, kept_eq, kept_eq, kept_eq, kept_eq, kept_eq, kept_eq, kept_eq, kept_eq, kept_eq, kept_eq, kept_eq, kept_eq, kept_eq, kept_eq, kept_eq, kept_eq, kept_eq, kept_eq, kept_eq, kept_eq, kept_eq, kept_eq, kept_eq, kept_eq, kept_eq, (fun _ _ _ h hB => by obtain ⟨b, e1, e2⟩ := h; exact ⟨b, e1, e2.ext hB⟩), kept_eq, kept_eq, kept_eq, kept_eq, kept_eq, kept_eq, kept_eq, kept_eq, kept_eq, trivial⟩) (fun _ _ _ _ _ => rfl) ?_ ?_
            · skip
              intro V
              refine ⟨fun wu0 hC hd => ?_, ?_⟩
              · clear hd
                replace hb := hb.trans (hC.mono hb.size)
                replace hkb1 := blk_ext hkb1 hC
                replace hrv := Row.ext hrv hC
                exact Runs.does (r_move rfl) ⟨Below.refl _ _, rfl, nofr rfl⟩
              refine ⟨fun wu1 hC hd => ?_, ?_⟩
              · obtain ⟨h0, _⟩ := hd
                skip
                replace h0 : V 0 = (.pointer (some ⟨pj, 0, none⟩)) := h0
                replace hb := hb.trans (hC.mono hb.size)
                replace hkb1 := blk_ext hkb1 hC
                replace hrv := Row.ext hrv hC
                refine Does.mono (d_callB (vs := [(.pointer (some ⟨pj, 0, none⟩))]) (show [some (V 0)] = [some (.pointer (some ⟨pj, 0, none⟩))] from by rw [h0]) Try.func28 (by kernel_rfl) (by kernel_rfl) (open_S (hJ.ext hC) hFs hFf)) (fun _ _ h => ⟨h.2, h.1, nofr rfl⟩)
              refine ⟨fun wu2 hC hd => ?_, ?_⟩
              · clear hd
                replace hb := hb.trans (hC.mono hb.size)
                replace hkb1 := blk_ext hkb1 hC
                replace hrv := Row.ext hrv hC
                exact Runs.does (r_move rfl) ⟨Below.refl _ _, rfl, nofr rfl⟩
              refine ⟨fun wu3 hC hd => ?_, ?_⟩
              · obtain ⟨h2, _⟩ := hd
                skip
                replace h2 : V 2 = (.slice rva ((Vf.length)) rvc) := h2
                replace hb := hb.trans (hC.mono hb.size)
                replace hkb1 := blk_ext hkb1 hC
                replace hrv := Row.ext hrv hC
                exact Runs.does (r_lensl (congrArg some h2) Try.underlying52) ⟨Below.refl _ _, rfl, nofr rfl⟩
              refine ⟨fun wu4 hC hd => ?_, ?_⟩
              · obtain ⟨h3, _⟩ := hd
                skip
                replace h3 : V 3 = (.int .i64 (((Vf.length) : Nat) : Int)) := h3
                replace hb := hb.trans (hC.mono hb.size)
                replace hkb1 := blk_ext hkb1 hC
                replace hrv := Row.ext hrv hC
                exact Runs.does (r_gt (congrArg some h3) rfl) ⟨Below.refl _ _, rfl, nofr rfl⟩
              refine ⟨fun wu5 hC hd => ?_, ?_⟩
              · obtain ⟨h1, h4, _⟩ := hd
                skip
                skip
                replace h1 : V 1 = (.bool (decide (((Rf.length : Nat) : Int) > 0))) := h1
                replace h4 : V 4 = (.bool (decide ((0 : Int) < (((Vf.length) : Nat) : Int)))) := h4
                replace hb := hb.trans (hC.mono hb.size)
                replace hkb1 := blk_ext hkb1 hC
                replace hrv := Row.ext hrv hC
                exact Runs.does (Runs.veq (r_bne Try.underlying4 (congrArg some h1) (congrArg some h4)) (congrArg Value.bool (show _ = false from (by simp [hVF])))) ⟨Below.refl _ _, rfl, nofr rfl⟩
              refine ⟨fun wu6 hC hd => ?_, ?_⟩
              · obtain ⟨h1, h5, _⟩ := hd
                skip
                skip
                replace h1 : V 1 = (.bool (decide (((Rf.length : Nat) : Int) > 0))) := h1
                replace h5 : V 5 = (.bool false) := h5
                replace hb := hb.trans (hC.mono hb.size)
                replace hkb1 := blk_ext hkb1 hC
                replace hrv := Row.ext hrv hC
                exact Runs.does (r_move (congrArg some h5)) ⟨Below.refl _ _, rfl, nofr rfl⟩
              refine ⟨fun wu7 hC hd => ?_, ?_⟩
              · obtain ⟨h6, _⟩ := hd
                skip
                replace h6 : V 6 = (.bool false) := h6
                replace hb := hb.trans (hC.mono hb.size)
                replace hkb1 := blk_ext hkb1 hC
                replace hrv := Row.ext hrv hC
                refine ⟨true, false, congrArg some h6, fun hact => ?_, fun hact => ?_⟩
                · exact Runs.does (r_move rfl) ⟨Below.refl _ _, rfl, nofr rfl⟩
                · exfalso; simp at hact
              refine ⟨fun wu8 hC hd => ?_, ?_⟩
              · obtain ⟨h6, h7, _⟩ := hd
                skip
                skip
                replace h6 : V 6 = (.bool false) := h6
                replace h7 : V 7 = (.pointer (some ⟨pj, 0, none⟩)) := h7
                replace hb := hb.trans (hC.mono hb.size)
                replace hkb1 := blk_ext hkb1 hC
                replace hrv := Row.ext hrv hC
                refine ⟨true, false, congrArg some h6, fun hact => ?_, fun hact => ?_⟩
                · refine Does.mono (d_callB (vs := [(.pointer (some ⟨pj, 0, none⟩))]) (show [some (V 7)] = [some (.pointer (some ⟨pj, 0, none⟩))] from by rw [h7]) Try.func29 (by kernel_rfl) (by kernel_rfl) (depth_S (hJ.ext hC) hFs hFf)) (fun _ _ h => ⟨h.2, h.1, nofr rfl⟩)
                · exfalso; simp at hact
              refine ⟨fun wu9 hC hd => ?_, ?_⟩
              · obtain ⟨h6, _⟩ := hd
                skip
                replace h6 : V 6 = (.bool false) := h6
                replace hb := hb.trans (hC.mono hb.size)
                replace hkb1 := blk_ext hkb1 hC
                replace hrv := Row.ext hrv hC
                refine ⟨true, false, congrArg some h6, fun hact => ?_, fun hact => ?_⟩
                · exact Runs.does (r_move rfl) ⟨Below.refl _ _, rfl, nofr rfl⟩
                · exfalso; simp at hact
              refine ⟨fun wu10 hC hd => ?_, ?_⟩
              · obtain ⟨h6, h9, _⟩ := hd
                skip
                skip
                replace h6 : V 6 = (.bool false) := h6
                replace h9 : V 9 = (.slice rva ((Vf.length)) rvc) := h9
                replace hb := hb.trans (hC.mono hb.size)
                replace hkb1 := blk_ext hkb1 hC
                replace hrv := Row.ext hrv hC
                refine ⟨true, false, congrArg some h6, fun hact => ?_, fun hact => ?_⟩
                · exact Runs.does (r_lensl (congrArg some h9) Try.underlying52) ⟨Below.refl _ _, rfl, nofr rfl⟩
                · exfalso; simp at hact
              refine ⟨fun wu11 hC hd => ?_, ?_⟩
              · obtain ⟨h6, h8, h10, _⟩ := hd
                skip
                skip
                skip
                replace h6 : V 6 = (.bool false) := h6
                replace h8 : V 8 = (.int .i64 ((Rf.length : Nat) : Int)) := h8
                replace h10 : V 10 = (.int .i64 (((Vf.length) : Nat) : Int)) := h10
                replace hb := hb.trans (hC.mono hb.size)
                replace hkb1 := blk_ext hkb1 hC
                replace hrv := Row.ext hrv hC
                refine ⟨true, false, congrArg some h6, fun hact => ?_, fun hact => ?_⟩
                · exact Runs.does (Runs.veq (r_ne (congrArg some h8) (congrArg some h10)) (congrArg Value.bool (show _ = false from (by simp [hVF])))) ⟨Below.refl _ _, rfl, nofr rfl⟩
                · exfalso; simp at hact
              refine ⟨fun wu12 hC hd => ?_, ?_⟩
              · obtain ⟨h6, h11, _⟩ := hd
                skip
                skip
                replace h6 : V 6 = (.bool false) := h6
                replace h11 : V 11 = (.bool false) := h11
                replace hb := hb.trans (hC.mono hb.size)
                replace hkb1 := blk_ext hkb1 hC
                replace hrv := Row.ext hrv hC
                exact Runs.does (r_pick (b := false) (congrArg some h6) rfl (congrArg some h11) rfl) ⟨Below.refl _ _, rfl, nofr rfl⟩
              refine ⟨fun wu13 hC hd => ?_, ?_⟩
              · obtain ⟨h8, h12, _⟩ := hd
                skip
                skip
                replace h8 : V 8 = (.int .i64 ((Rf.length : Nat) : Int)) := h8
                replace h12 : V 12 = (.bool false) := h12
                replace hb := hb.trans (hC.mono hb.size)
                replace hkb1 := blk_ext hkb1 hC
                replace hrv := Row.ext hrv hC
                exact Runs.does (r_move (congrArg some h12)) ⟨Below.refl _ _, rfl, nofr rfl⟩
              refine ⟨fun wu14 hC hd => ?_, ?_⟩
              · obtain ⟨h13, _⟩ := hd
                skip
                replace h13 : V 13 = (.bool false) := h13
                replace hb := hb.trans (hC.mono hb.size)
                replace hkb1 := blk_ext hkb1 hC
                replace hrv := Row.ext hrv hC
                refine ⟨true, false, congrArg some h13, fun hact => ?_, fun hact => ?_⟩
                · exact Runs.does (r_move rfl) ⟨Below.refl _ _, rfl, nofr rfl⟩
                · exfalso; simp at hact
              refine ⟨fun wu15 hC hd => ?_, ?_⟩
              · obtain ⟨h13, h14, _⟩ := hd
                skip
                skip
                replace h13 : V 13 = (.bool false) := h13
                replace h14 : V 14 = (.pointer (some ⟨pj, 0, none⟩)) := h14
                replace hb := hb.trans (hC.mono hb.size)
                replace hkb1 := blk_ext hkb1 hC
                replace hrv := Row.ext hrv hC
                refine ⟨true, false, congrArg some h13, fun hact => ?_, fun hact => ?_⟩
                · refine Does.mono (d_callB (vs := [(.pointer (some ⟨pj, 0, none⟩))]) (show [some (V 14)] = [some (.pointer (some ⟨pj, 0, none⟩))] from by rw [h14]) Try.func30 (by kernel_rfl) (by kernel_rfl) (jlen_S (hJ.ext hC) hFs hFf)) (fun _ _ h => ⟨h.2, h.1, nofr rfl⟩)
                · exfalso; simp at hact
              refine ⟨fun wu16 hC hd => ?_, ?_⟩
              · obtain ⟨h13, _⟩ := hd
                skip
                replace h13 : V 13 = (.bool false) := h13
                replace hb := hb.trans (hC.mono hb.size)
                replace hkb1 := blk_ext hkb1 hC
                replace hrv := Row.ext hrv hC
                refine ⟨true, false, congrArg some h13, fun hact => ?_, fun hact => ?_⟩
                · exact Runs.does (r_move rfl) ⟨Below.refl _ _, rfl, nofr rfl⟩
                · exfalso; simp at hact
              refine ⟨fun wu17 hC hd => ?_, ?_⟩
              · obtain ⟨h13, h15, h16, _⟩ := hd
                skip
                skip
                skip
                replace h13 : V 13 = (.bool false) := h13
                replace h15 : V 15 = (.int .i64 ((Rf.flatten.length : Nat) : Int)) := h15
                replace h16 : V 16 = (.slice rva ((Vf.length)) rvc) := h16
                replace hb := hb.trans (hC.mono hb.size)
                replace hkb1 := blk_ext hkb1 hC
                replace hrv := Row.ext hrv hC
                refine ⟨true, false, congrArg some h13, fun hact => ?_, fun hact => ?_⟩
                · refine Does.mono (d_callB (vs := [(.slice rva ((Vf.length)) rvc)]) (show [some (V 16)] = [some (.slice rva ((Vf.length)) rvc)] from by rw [h16]) Try.func31 (by kernel_rfl) (by kernel_rfl) (rlen28 w.heap.size _ rva rvc Vf Rf hb.size hrv (hRI.ext hC) hFs (by omega))) (fun _ _ h => ⟨h.2, h.1, nofr rfl⟩)
                · exfalso; simp at hact
              refine ⟨fun wu18 hC hd => ?_, ?_⟩
              · obtain ⟨h13, h15, h17, _⟩ := hd
                skip
                skip
                skip
                replace h13 : V 13 = (.bool false) := h13
                replace h15 : V 15 = (.int .i64 ((Rf.flatten.length : Nat) : Int)) := h15
                replace h17 : V 17 = (.int .i64 ((Rf.flatten.length : Nat) : Int)) := h17
                replace hb := hb.trans (hC.mono hb.size)
                replace hkb1 := blk_ext hkb1 hC
                replace hrv := Row.ext hrv hC
                refine ⟨true, false, congrArg some h13, fun hact => ?_, fun hact => ?_⟩
                · exact Runs.does (Runs.veq (r_ne (congrArg some h15) (congrArg some h17)) (congrArg Value.bool (show _ = false from (by simp)))) ⟨Below.refl _ _, rfl, nofr rfl⟩
                · exfalso; simp at hact
              refine ⟨fun wu19 hC hd => ?_, ?_⟩
              · obtain ⟨h13, h18, _⟩ := hd
                skip
                skip
                replace h13 : V 13 = (.bool false) := h13
                replace h18 : V 18 = (.bool false) := h18
                replace hb := hb.trans (hC.mono hb.size)
                replace hkb1 := blk_ext hkb1 hC
                replace hrv := Row.ext hrv hC
                exact Runs.does (r_pick (b := false) (congrArg some h13) rfl (congrArg some h18) rfl) ⟨Below.refl _ _, rfl, nofr rfl⟩
              refine ⟨fun wu20 hC hd => ?_, ?_⟩
              · obtain ⟨h17, h19, _⟩ := hd
                skip
                skip
                replace h17 : V 17 = (.int .i64 ((Rf.flatten.length : Nat) : Int)) := h17
                replace h19 : V 19 = (.bool false) := h19
                replace hb := hb.trans (hC.mono hb.size)
                replace hkb1 := blk_ext hkb1 hC
                replace hrv := Row.ext hrv hC
                exact Runs.does (r_move (congrArg some h19)) ⟨Below.refl _ _, rfl, nofr rfl⟩
              refine ⟨fun wu21 hC hd => ?_, ?_⟩
              · obtain ⟨h20, _⟩ := hd
                skip
                replace h20 : V 20 = (.bool false) := h20
                replace hb := hb.trans (hC.mono hb.size)
                replace hkb1 := blk_ext hkb1 hC
                replace hrv := Row.ext hrv hC
                refine ⟨true, false, congrArg some h20, fun hact => ?_, fun hact => ?_⟩
                · exact Runs.does (r_move rfl) ⟨Below.refl _ _, rfl, nofr rfl⟩
                · exfalso; simp at hact
              refine ⟨fun wu22 hC hd => ?_, ?_⟩
              · obtain ⟨h20, h21, _⟩ := hd
                skip
                skip
                replace h20 : V 20 = (.bool false) := h20
                replace h21 : V 21 = (.pointer (some ⟨pj, 0, none⟩)) := h21
                replace hb := hb.trans (hC.mono hb.size)
                replace hkb1 := blk_ext hkb1 hC
                replace hrv := Row.ext hrv hC
                refine ⟨true, false, congrArg some h20, fun hact => ?_, fun hact => ?_⟩
                · refine Does.mono (d_callB (vs := [(.pointer (some ⟨pj, 0, none⟩))]) (show [some (V 21)] = [some (.pointer (some ⟨pj, 0, none⟩))] from by rw [h21]) Try.func32 (by kernel_rfl) (by kernel_rfl) (notes_S (hJ.ext hC) hFs hFf)) (fun _ _ h => ⟨h.2, h.1, nofr rfl⟩)
                · exfalso; simp at hact
              refine ⟨fun wu23 hC hd => ?_, ?_⟩
              · obtain ⟨h20, _⟩ := hd
                skip
                replace h20 : V 20 = (.bool false) := h20
                replace hb := hb.trans (hC.mono hb.size)
                replace hkb1 := blk_ext hkb1 hC
                replace hrv := Row.ext hrv hC
                refine ⟨true, false, congrArg some h20, fun hact => ?_, fun hact => ?_⟩
                · exact Runs.does (r_move rfl) ⟨Below.refl _ _, rfl, nofr rfl⟩
                · exfalso; simp at hact
              refine ⟨fun wu24 hC hd => ?_, ?_⟩
              · obtain ⟨h20, h22, h23, _⟩ := hd
                skip
                skip
                skip
                replace h20 : V 20 = (.bool false) := h20
                replace h22 : V 22 = (.int .i64 ((Nf : Nat) : Int)) := h22
                replace h23 : V 23 = (.int .i64 ((Nf : Nat) : Int)) := h23
                replace hb := hb.trans (hC.mono hb.size)
                replace hkb1 := blk_ext hkb1 hC
                replace hrv := Row.ext hrv hC
                refine ⟨true, false, congrArg some h20, fun hact => ?_, fun hact => ?_⟩
                · exact Runs.does (Runs.veq (r_ne (congrArg some h22) (congrArg some h23)) (congrArg Value.bool (show _ = false from (by simp)))) ⟨Below.refl _ _, rfl, nofr rfl⟩
                · exfalso; simp at hact
              refine ⟨fun wu25 hC hd => ?_, ?_⟩
              · obtain ⟨h20, h24, _⟩ := hd
                skip
                skip
                replace h20 : V 20 = (.bool false) := h20
                replace h24 : V 24 = (.bool false) := h24
                replace hb := hb.trans (hC.mono hb.size)
                replace hkb1 := blk_ext hkb1 hC
                replace hrv := Row.ext hrv hC
                exact Runs.does (r_pick (b := false) (congrArg some h20) rfl (congrArg some h24) rfl) ⟨Below.refl _ _, rfl, nofr rfl⟩
              refine ⟨fun wu26 hC hd => ?_, ?_⟩
              · obtain ⟨h22, h25, _⟩ := hd
                skip
                skip
                replace h22 : V 22 = (.int .i64 ((Nf : Nat) : Int)) := h22
                replace h25 : V 25 = (.bool false) := h25
                replace hb := hb.trans (hC.mono hb.size)
                replace hkb1 := blk_ext hkb1 hC
                replace hrv := Row.ext hrv hC
                exact Runs.does (r_move (congrArg some h25)) ⟨Below.refl _ _, rfl, nofr rfl⟩
              refine ⟨fun wu27 hC hd => ?_, ?_⟩
              · obtain ⟨h26, _⟩ := hd
                skip
                replace h26 : V 26 = (.bool false) := h26
                replace hb := hb.trans (hC.mono hb.size)
                replace hkb1 := blk_ext hkb1 hC
                replace hrv := Row.ext hrv hC
                refine ⟨true, false, congrArg some h26, fun hact => ?_, fun hact => ?_⟩
                · exact Runs.does (r_move rfl) ⟨Below.refl _ _, rfl, nofr rfl⟩
                · exfalso; simp at hact
              refine ⟨fun wu28 hC hd => ?_, ?_⟩
              · obtain ⟨h26, h27, _⟩ := hd
                skip
                skip
                replace h26 : V 26 = (.bool false) := h26
                replace h27 : V 27 = (.pointer (some ⟨pj, 0, none⟩)) := h27
                replace hb := hb.trans (hC.mono hb.size)
                replace hkb1 := blk_ext hkb1 hC
                replace hrv := Row.ext hrv hC
                refine ⟨true, false, congrArg some h26, fun hact => ?_, fun hact => ?_⟩
                · refine Does.mono (d_callX (vs := [(.pointer (some ⟨pj, 0, none⟩))]) (show [some (V 27)] = [some (.pointer (some ⟨pj, 0, none⟩))] from by rw [h27]) Try.func33 (by kernel_rfl) (by kernel_rfl) (kinds_S (hJ.ext hC) hFs hFf hwfF)) ?_
                  rintro _ w' ⟨b, rfl, hF7, hF8⟩
                  exact ⟨hF8, ⟨b, rfl, hF7⟩, nofr rfl⟩
                · exfalso; simp at hact
              refine ⟨fun wu29 hC hd => ?_, ?_⟩
              · obtain ⟨h26, _⟩ := hd
                skip
                replace h26 : V 26 = (.bool false) := h26
                replace hb := hb.trans (hC.mono hb.size)
                replace hkb1 := blk_ext hkb1 hC
                replace hrv := Row.ext hrv hC
                refine ⟨true, false, congrArg some h26, fun hact => ?_, fun hact => ?_⟩
                · exact Runs.does (r_fa rfl Try.underlying54 (f := 0) (q := 0) rfl (by kernel_rfl) rfl) ⟨Below.refl _ _, rfl, nofr rfl⟩
                · exfalso; simp at hact
              refine ⟨fun wu30 hC hd => ?_, ?_⟩
              · obtain ⟨h26, h29, _⟩ := hd
                skip
                skip
                replace h26 : V 26 = (.bool false) := h26
                replace h29 : V 29 = (.pointer (some ⟨b1, 0, none⟩)) := h29
                replace hb := hb.trans (hC.mono hb.size)
                replace hkb1 := blk_ext hkb1 hC
                replace hrv := Row.ext hrv hC
                refine ⟨true, false, congrArg some h26, fun hact => ?_, fun hact => ?_⟩
                · exact Runs.does (r_load (v := (.int .i64 y.2.1.1)) (congrArg some h29) Try.underlying3 rfl (cell_blk hkb1 rfl)) ⟨Below.refl _ _, rfl, nofr rfl⟩
                · exfalso; simp at hact
              refine ⟨fun wu31 hC hd => ?_, ?_⟩
              · obtain ⟨h26, h28, h30, _⟩ := hd
                skip
                skip
                skip
                replace h26 : V 26 = (.bool false) := h26
                obtain ⟨bm1, h28, hmp1⟩ := h28
                skip
                replace h30 : V 30 = (.int .i64 y.2.1.1) := h30
                replace hb := hb.trans (hC.mono hb.size)
                replace hkb1 := blk_ext hkb1 hC
                replace hrv := Row.ext hrv hC
                refine ⟨true, false, congrArg some h26, fun hact => ?_, fun hact => ?_⟩
                · exact Runs.does (r_lookupI (congrArg some h28) (congrArg some h30) hmp1 Try.underlying71 Try.underlying3 Try.underlying3 (by kernel_rfl) (by first | assumption | (simp [Lit.wf, IntKind.min, IntKind.max, IntKind.signed, IntKind.bits]; omega))) ⟨Below.refl _ _, rfl, nofr rfl⟩
                · exfalso; simp at hact
              refine ⟨fun wu32 hC hd => ?_, ?_⟩
              · obtain ⟨h26, _⟩ := hd
                skip
                replace h26 : V 26 = (.bool false) := h26
                replace hb := hb.trans (hC.mono hb.size)
                replace hkb1 := blk_ext hkb1 hC
                replace hrv := Row.ext hrv hC
                refine ⟨true, false, congrArg some h26, fun hact => ?_, fun hact => ?_⟩
                · exact Runs.does (r_move rfl) ⟨Below.refl _ _, rfl, nofr rfl⟩
                · exfalso; simp at hact
              refine ⟨fun wu33 hC hd => ?_, ?_⟩
              · obtain ⟨h26, _⟩ := hd
                skip
                replace h26 : V 26 = (.bool false) := h26
                replace hb := hb.trans (hC.mono hb.size)
                replace hkb1 := blk_ext hkb1 hC
                replace hrv := Row.ext hrv hC
                refine ⟨true, false, congrArg some h26, fun hact => ?_, fun hact => ?_⟩
                · exact Runs.does (r_fa rfl Try.underlying54 (f := 0) (q := 0) rfl (by kernel_rfl) rfl) ⟨Below.refl _ _, rfl, nofr rfl⟩
                · exfalso; simp at hact
              refine ⟨fun wu34 hC hd => ?_, ?_⟩
              · obtain ⟨h26, h33, _⟩ := hd
                skip
                skip
                replace h26 : V 26 = (.bool false) := h26
                replace h33 : V 33 = (.pointer (some ⟨b1, 0, none⟩)) := h33
                replace hb := hb.trans (hC.mono hb.size)
                replace hkb1 := blk_ext hkb1 hC
                replace hrv := Row.ext hrv hC
                refine ⟨true, false, congrArg some h26, fun hact => ?_, fun hact => ?_⟩
                · exact Runs.does (r_load (v := (.int .i64 y.2.1.1)) (congrArg some h33) Try.underlying3 rfl (cell_blk hkb1 rfl)) ⟨Below.refl _ _, rfl, nofr rfl⟩
                · exfalso; simp at hact
              refine ⟨fun wu35 hC hd => ?_, ?_⟩
              · obtain ⟨h26, h28, h32, h34, _⟩ := hd
                skip
                skip
                skip
                skip
                replace h26 : V 26 = (.bool false) := h26
                obtain ⟨bm1, h28, hmp1⟩ := h28
                skip
                replace h32 : V 32 = (.slice rva ((Vf.length)) rvc) := h32
                replace h34 : V 34 = (.int .i64 y.2.1.1) := h34
                replace hb := hb.trans (hC.mono hb.size)
                replace hkb1 := blk_ext hkb1 hC
                replace hrv := Row.ext hrv hC
                refine ⟨true, false, congrArg some h26, fun hact => ?_, fun hact => ?_⟩
                · refine Does.mono (d_callB (vs := [(.slice rva ((Vf.length)) rvc), (.int .i64 y.2.1.1)]) (show [some (V 32), some (V 34)] = [some (.slice rva ((Vf.length)) rvc), some (.int .i64 y.2.1.1)] from by rw [h32, h34]) Try.func34 (by kernel_rfl) (by kernel_rfl) (count28 w.heap.size _ rva rvc Vf Rf hb.size hrv (hRI.ext hC) hFs (by omega) y.2.1.1)) (fun _ _ h => ⟨h.2, h.1, nofr rfl⟩)
                · exfalso; simp at hact
              refine ⟨fun wu36 hC hd => ?_, ?_⟩
              · obtain ⟨h26, h31, h35, _⟩ := hd
                skip
                skip
                skip
                replace h26 : V 26 = (.bool false) := h26
                replace h31 : V 31 = (.int .i64 ((cntN (kds Rf.flatten) y.2.1.1 : Nat) : Int)) := h31
                replace h35 : V 35 = (.int .i64 (((cntN (kds Rf.flatten) y.2.1.1) : Nat) : Int)) := h35
                replace hb := hb.trans (hC.mono hb.size)
                replace hkb1 := blk_ext hkb1 hC
                replace hrv := Row.ext hrv hC
                refine ⟨true, false, congrArg some h26, fun hact => ?_, fun hact => ?_⟩
                · exact Runs.does (Runs.veq (r_ne (congrArg some h31) (congrArg some h35)) (congrArg Value.bool (show _ = false from (by simp)))) ⟨Below.refl _ _, rfl, nofr rfl⟩
                · exfalso; simp at hact
              refine ⟨fun wu37 hC hd => ?_, ?_⟩
              · obtain ⟨h26, h36, _⟩ := hd
                skip
                skip
                replace h26 : V 26 = (.bool false) := h26
                replace h36 : V 36 = (.bool false) := h36
                replace hb := hb.trans (hC.mono hb.size)
                replace hkb1 := blk_ext hkb1 hC
                replace hrv := Row.ext hrv hC
                exact Runs.does (r_pick (b := false) (congrArg some h26) rfl (congrArg some h36) rfl) ⟨Below.refl _ _, rfl, nofr rfl⟩
              trivial
            · skip
              clear hf fa; intro V w23 fa he14 hp hnb hf
              have hv0 : V 0 = (.pointer (some ⟨pj, 0, none⟩)) := postsHold_at hp 0 rfl
              have hv1 : V 1 = (.bool (decide (((Rf.length : Nat) : Int) > 0))) := postsHold_at hp 1 rfl
              have hv2 : V 2 = (.slice rva ((Vf.length)) rvc) := postsHold_at hp 2 rfl
              have hv3 : V 3 = (.int .i64 (((Vf.length) : Nat) : Int)) := postsHold_at hp 3 rfl
              have hv4 : V 4 = (.bool (decide ((0 : Int) < (((Vf.length) : Nat) : Int)))) := postsHold_at hp 4 rfl
              have hv5 : V 5 = (.bool false) := postsHold_at hp 5 rfl
              have hv6 : V 6 = (.bool false) := postsHold_at hp 6 rfl
              have hv7 : V 7 = (.pointer (some ⟨pj, 0, none⟩)) := postsHold_at hp 7 rfl
              have hv8 : V 8 = (.int .i64 ((Rf.length : Nat) : Int)) := postsHold_at hp 8 rfl
              have hv9 : V 9 = (.slice rva ((Vf.length)) rvc) := postsHold_at hp 9 rfl
              have hv10 : V 10 = (.int .i64 (((Vf.length) : Nat) : Int)) := postsHold_at hp 10 rfl
              have hv11 : V 11 = (.bool false) := postsHold_at hp 11 rfl
              have hv12 : V 12 = (.bool false) := postsHold_at hp 12 rfl
              have hv13 : V 13 = (.bool false) := postsHold_at hp 13 rfl
              have hv14 : V 14 = (.pointer (some ⟨pj, 0, none⟩)) := postsHold_at hp 14 rfl
              have hv15 : V 15 = (.int .i64 ((Rf.flatten.length : Nat) : Int)) := postsHold_at hp 15 rfl
              have hv16 : V 16 = (.slice rva ((Vf.length)) rvc) := postsHold_at hp 16 rfl
              have hv17 : V 17 = (.int .i64 ((Rf.flatten.length : Nat) : Int)) := postsHold_at hp 17 rfl
              have hv18 : V 18 = (.bool false) := postsHold_at hp 18 rfl
              have hv19 : V 19 = (.bool false) := postsHold_at hp 19 rfl
              have hv20 : V 20 = (.bool false) := postsHold_at hp 20 rfl
              have hv21 : V 21 = (.pointer (some ⟨pj, 0, none⟩)) := postsHold_at hp 21 rfl
              have hv22 : V 22 = (.int .i64 ((Nf : Nat) : Int)) := postsHold_at hp 22 rfl
              have hv23 : V 23 = (.int .i64 ((Nf : Nat) : Int)) := postsHold_at hp 23 rfl
              have hv24 : V 24 = (.bool false) := postsHold_at hp 24 rfl
              have hv25 : V 25 = (.bool false) := postsHold_at hp 25 rfl
              have hv26 : V 26 = (.bool false) := postsHold_at hp 26 rfl
              have hv27 : V 27 = (.pointer (some ⟨pj, 0, none⟩)) := postsHold_at hp 27 rfl
              have hv28 := postsHold_at hp 28 rfl
              obtain ⟨bm1, hv28, hmp1⟩ := hv28
              skip
              have hv29 : V 29 = (.pointer (some ⟨b1, 0, none⟩)) := postsHold_at hp 29 rfl
              have hv30 : V 30 = (.int .i64 y.2.1.1) := postsHold_at hp 30 rfl
              have hv31 : V 31 = (.int .i64 ((cntN (kds Rf.flatten) y.2.1.1 : Nat) : Int)) := postsHold_at hp 31 rfl
              have hv32 : V 32 = (.slice rva ((Vf.length)) rvc) := postsHold_at hp 32 rfl
              have hv33 : V 33 = (.pointer (some ⟨b1, 0, none⟩)) := postsHold_at hp 33 rfl
              have hv34 : V 34 = (.int .i64 y.2.1.1) := postsHold_at hp 34 rfl
              have hv35 : V 35 = (.int .i64 (((cntN (kds Rf.flatten) y.2.1.1) : Nat) : Int)) := postsHold_at hp 35 rfl
              have hv36 : V 36 = (.bool false) := postsHold_at hp 36 rfl
              have hv37 : V 37 = (.bool false) := postsHold_at hp 37 rfl
              simp only [List.take_succ_cons, List.take_zero, insAll, ins, hv0, hv1, hv2, hv3, hv4, hv5, hv6, hv7, hv8, hv9, hv10, hv11, hv12, hv13, hv14, hv15, hv16, hv17, hv18, hv19, hv20, hv21, hv22, hv23, hv24, hv25, hv26, hv27, hv28, hv29, hv30, hv31, hv32, hv33, hv34, hv35, hv36, hv37] at hf
              clear hp hnb hv0 hv1 hv2 hv3 hv4 hv5 hv6 hv7 hv8 hv9 hv10 hv11 hv12 hv13 hv14 hv15 hv16 hv17 hv18 hv19 hv20 hv21 hv22 hv23 hv24 hv25 hv26 hv27 hv28 hv29 hv30 hv31 hv32 hv33 hv34 hv35 hv36 hv37
              replace hkb1 := blk_ext hkb1 he14
              replace hrv := Row.ext hrv he14
              replace hb := hb.trans (Below.mono he14 hb.size)
              replace hJ := hJ.ext he14
              replace hRI := hRI.ext he14
              (try simp only [Exit.then, Exit.inBlock, ↓reduceIte, Nat.reduceEqDiff])
              refine hK51 _ _ ?_
              refine wp_cond_false (hf.ev rfl) ?_
              refine wp_skip ?_
              (try simp only [Exit.then, Exit.inBlock, ↓reduceIte, Nat.reduceEqDiff])
              refine hK50 _ _ ?_
              refine wp_seq_k (fun K52 hK52 => ?_)
              skip
              by_cases hsp4 : Rf.length = 0
              · have hsp4b : decide (Rf.length = 0) = true := decide_eq_true hsp4
                skip
                refine wp_region_un (fun wq => Below w23.heap.size w23 wq) (fun w w' => Below w.heap.size w w')
                  (fun V => [(fun x _ => x = (.slice rva ((Vf.length)) rvc)), (fun x _ => x = (.int .i64 (((Vf.length) : Nat) : Int))), (fun x _ => x = (.bool true)), (fun x _ => x = (.bool true)), (fun x _ => x = (.pointer (some ⟨pj, 0, none⟩))), (fun x _ => x = (.slice none 0 0)), (fun x _ => x = (.int .i64 (0 : Int))), (fun x _ => x = (.bool false)), (fun x _ => x = (.bool false)), (fun x _ => x = (.bool false)), (fun x _ => x = (.slice rva ((Vf.length)) rvc)), (fun x _ => x = (.int .i64 (((Vf.length) : Nat) : Int))), (fun x _ => x = (.bool false)), (fun x _ => x = (.bool false)), (fun x _ => x = gb false (.bool false)), (fun x _ => x = gb false (.bool false)), (fun x _ => x = gb false (.bool false)), (fun x _ => x = gb false (.bool false)), (fun x _ => x = gb false (.bool false)), (fun x _ => x = gb false (.bool false)), (fun x _ => x = gb false (.bool false)), (fun x _ => x = gb false (.bool false)), (fun x _ => x = gb false (.bool false)), (fun x _ => x = gb false (.bool false)), (fun x _ => x = (.bool false)), (fun x _ => x = (.bool false))])
                  []
                  [[], [0], [1], [2], [3], [3, 4], [3, 5], [3, 6], [3, 7], [5, 8], [9], [9, 10], [9, 11], [9, 12], [13], [13, 14], [13], [13], [13, 17], [13, 18], [13, 16, 19], [13, 20], [13, 15, 21], [13, 22], [9, 13, 23], [9, 24]]
                  hf (by kernel_rfl) (by kernel_rfl) (fun _ => rfl) ((Below.refl _ _).drew) (fun a b h1 h2 => h1.trans (h2.mono h1.size)) (fun _ _ h => h.size) (fun V => ⟨kept_eq, kept_eq, kept_eq, kept_eq, kept_eq, kept_eq, kept_eq, kept_eq, kept_eq, kept_eq, kept_eq, kept_eq, kept_eq, kept_eq, kept_eq, kept_eq, kept_eq, kept_eq, kept_eq, kept_eq, kept_eq, kept_eq, kept_eq, kept_eq, kept_eq, kept_eq, trivial⟩) (fun _ _ _ _ _ => rfl) ?_ ?_
                · skip
                  intro V
                  refine ⟨fun wu0 hC hd => ?_, ?_⟩
                  · clear hd
                    replace hb := hb.trans (hC.mono hb.size)
                    replace hkb1 := blk_ext hkb1 hC
                    replace hrv := Row.ext hrv hC
                    exact Runs.does (r_move rfl) ⟨Below.refl _ _, rfl, nofr rfl⟩
                  refine ⟨fun wu1 hC hd => ?_, ?_⟩
                  · obtain ⟨h0, _⟩ := hd
                    skip
                    replace h0 : V 0 = (.slice rva ((Vf.length)) rvc) := h0
                    replace hb := hb.trans (hC.mono hb.size)
                    replace hkb1 := blk_ext hkb1 hC
                    replace hrv := Row.ext hrv hC
                    exact Runs.does (r_lensl (congrArg some h0) Try.underlying52) ⟨Below.refl _ _, rfl, nofr rfl⟩
                  refine ⟨fun wu2 hC hd => ?_, ?_⟩
                  · obtain ⟨h1, _⟩ := hd
                    skip
                    replace h1 : V 1 = (.int .i64 (((Vf.length) : Nat) : Int)) := h1
                    replace hb := hb.trans (hC.mono hb.size)
                    replace hkb1 := blk_ext hkb1 hC
                    replace hrv := Row.ext hrv hC
                    exact Runs.does (Runs.veq (r_eq (congrArg some h1) rfl) (congrArg Value.bool (show _ = true from (decide_eq_true (by omega))))) ⟨Below.refl _ _, rfl, nofr rfl⟩
                  refine ⟨fun wu3 hC hd => ?_, ?_⟩
                  · obtain ⟨h2, _⟩ := hd
                    skip
                    replace h2 : V 2 = (.bool true) := h2
                    replace hb := hb.trans (hC.mono hb.size)
                    replace hkb1 := blk_ext hkb1 hC
                    replace hrv := Row.ext hrv hC
                    exact Runs.does (r_move (congrArg some h2)) ⟨Below.refl _ _, rfl, nofr rfl⟩
                  refine ⟨fun wu4 hC hd => ?_, ?_⟩
                  · obtain ⟨h3, _⟩ := hd
                    skip
                    replace h3 : V 3 = (.bool true) := h3
                    replace hb := hb.trans (hC.mono hb.size)
                    replace hkb1 := blk_ext hkb1 hC
                    replace hrv := Row.ext hrv hC
                    refine ⟨true, true, congrArg some h3, fun hact => ?_, fun hact => ?_⟩
                    · exact Runs.does (r_move rfl) ⟨Below.refl _ _, rfl, nofr rfl⟩
                    · exfalso; simp at hact
                  refine ⟨fun wu5 hC hd => ?_, ?_⟩
                  · obtain ⟨h3, h4, _⟩ := hd
                    skip
                    skip
                    replace h3 : V 3 = (.bool true) := h3
                    replace h4 : V 4 = (.pointer (some ⟨pj, 0, none⟩)) := h4
                    replace hb := hb.trans (hC.mono hb.size)
                    replace hkb1 := blk_ext hkb1 hC
                    replace hrv := Row.ext hrv hC
                    refine ⟨true, true, congrArg some h3, fun hact => ?_, fun hact => ?_⟩
                    · refine Does.mono (d_callB (vs := [(.pointer (some ⟨pj, 0, none⟩))]) (show [some (V 4)] = [some (.pointer (some ⟨pj, 0, none⟩))] from by rw [h4]) Try.func35 (by kernel_rfl) (by kernel_rfl) (since_0 (hJ.ext hC) hFs hFf hsp4)) (fun _ _ h => ⟨h.2, h.1, nofr rfl⟩)
                    · exfalso; simp at hact
                  refine ⟨fun wu6 hC hd => ?_, ?_⟩
                  · obtain ⟨h3, h5, _⟩ := hd
                    skip
                    skip
                    replace h3 : V 3 = (.bool true) := h3
                    replace h5 : V 5 = (.slice none 0 0) := h5
                    replace hb := hb.trans (hC.mono hb.size)
                    replace hkb1 := blk_ext hkb1 hC
                    replace hrv := Row.ext hrv hC
                    refine ⟨true, true, congrArg some h3, fun hact => ?_, fun hact => ?_⟩
                    · exact Runs.does (r_lensl (congrArg some h5) Try.underlying61) ⟨Below.refl _ _, rfl, nofr rfl⟩
                    · exfalso; simp at hact
                  refine ⟨fun wu7 hC hd => ?_, ?_⟩
                  · obtain ⟨h3, h6, _⟩ := hd
                    skip
                    skip
                    replace h3 : V 3 = (.bool true) := h3
                    replace h6 : V 6 = (.int .i64 (0 : Int)) := h6
                    replace hb := hb.trans (hC.mono hb.size)
                    replace hkb1 := blk_ext hkb1 hC
                    replace hrv := Row.ext hrv hC
                    refine ⟨true, true, congrArg some h3, fun hact => ?_, fun hact => ?_⟩
                    · exact Runs.does (Runs.veq (r_gt (congrArg some h6) rfl) (congrArg Value.bool (show _ = false from by decide))) ⟨Below.refl _ _, rfl, nofr rfl⟩
                    · exfalso; simp at hact
                  refine ⟨fun wu8 hC hd => ?_, ?_⟩
                  · obtain ⟨h3, h7, _⟩ := hd
                    skip
                    skip
                    replace h3 : V 3 = (.bool true) := h3
                    replace h7 : V 7 = (.bool false) := h7
                    replace hb := hb.trans (hC.mono hb.size)
                    replace hkb1 := blk_ext hkb1 hC
                    replace hrv := Row.ext hrv hC
                    exact Runs.does (r_pick (b := true) (congrArg some h3) (congrArg some h7) rfl rfl) ⟨Below.refl _ _, rfl, nofr rfl⟩
                  refine ⟨fun wu9 hC hd => ?_, ?_⟩
                  · obtain ⟨h5, h8, _⟩ := hd
                    skip
                    skip
                    replace h5 : V 5 = (.slice none 0 0) := h5
                    replace h8 : V 8 = (.bool false) := h8
                    replace hb := hb.trans (hC.mono hb.size)
                    replace hkb1 := blk_ext hkb1 hC
                    replace hrv := Row.ext hrv hC
                    exact Runs.does (r_move (congrArg some h8)) ⟨Below.refl _ _, rfl, nofr rfl⟩
                  refine ⟨fun wu10 hC hd => ?_, ?_⟩
                  · obtain ⟨h9, _⟩ := hd
                    skip
                    replace h9 : V 9 = (.bool false) := h9
                    replace hb := hb.trans (hC.mono hb.size)
                    replace hkb1 := blk_ext hkb1 hC
                    replace hrv := Row.ext hrv hC
                    refine ⟨true, false, congrArg some h9, fun hact => ?_, fun hact => ?_⟩
                    · exact Runs.does (r_move rfl) ⟨Below.refl _ _, rfl, nofr rfl⟩
                    · exfalso; simp at hact
                  refine ⟨fun wu11 hC hd => ?_, ?_⟩
                  · obtain ⟨h9, h10, _⟩ := hd
                    skip
                    skip
                    replace h9 : V 9 = (.bool false) := h9
                    replace h10 : V 10 = (.slice rva ((Vf.length)) rvc) := h10
                    replace hb := hb.trans (hC.mono hb.size)
                    replace hkb1 := blk_ext hkb1 hC
                    replace hrv := Row.ext hrv hC
                    refine ⟨true, false, congrArg some h9, fun hact => ?_, fun hact => ?_⟩
                    · exact Runs.does (r_lensl (congrArg some h10) Try.underlying52) ⟨Below.refl _ _, rfl, nofr rfl⟩
                    · exfalso; simp at hact
                  refine ⟨fun wu12 hC hd => ?_, ?_⟩
                  · obtain ⟨h9, h11, _⟩ := hd
                    skip
                    skip
                    replace h9 : V 9 = (.bool false) := h9
                    replace h11 : V 11 = (.int .i64 (((Vf.length) : Nat) : Int)) := h11
                    replace hb := hb.trans (hC.mono hb.size)
                    replace hkb1 := blk_ext hkb1 hC
                    replace hrv := Row.ext hrv hC
                    refine ⟨true, false, congrArg some h9, fun hact => ?_, fun hact => ?_⟩
                    · exact Runs.does (Runs.veq (r_gt (congrArg some h11) rfl) (congrArg Value.bool (show _ = false from (decide_eq_false (by omega))))) ⟨Below.refl _ _, rfl, nofr rfl⟩
                    · exfalso; simp at hact
                  refine ⟨fun wu13 hC hd => ?_, ?_⟩
                  · obtain ⟨h9, h12, _⟩ := hd
                    skip
                    skip
                    replace h9 : V 9 = (.bool false) := h9
                    replace h12 : V 12 = (.bool false) := h12
                    replace hb := hb.trans (hC.mono hb.size)
                    replace hkb1 := blk_ext hkb1 hC
                    replace hrv := Row.ext hrv hC
                    refine ⟨true, false, congrArg some h9, fun hact => ?_, fun hact => ?_⟩
                    · exact Runs.does (r_move (congrArg some h12)) ⟨Below.refl _ _, rfl, nofr rfl⟩
                    · exfalso; simp at hact
                  refine ⟨fun wu14 hC hd => ?_, ?_⟩
                  · obtain ⟨h13, _⟩ := hd
                    skip
                    replace h13 : V 13 = (.bool false) := h13
                    replace hb := hb.trans (hC.mono hb.size)
                    replace hkb1 := blk_ext hkb1 hC
                    replace hrv := Row.ext hrv hC
                    refine ⟨true, false, congrArg some h13, fun hact => ?_, fun hact => ?_⟩
                    · exfalso; simp at hact
                    · exact ⟨Below.refl _ _, rfl, nofr rfl⟩
                  refine ⟨fun wu15 hC hd => ?_, ?_⟩
                  · obtain ⟨h13, h14, _⟩ := hd
                    skip
                    skip
                    replace h13 : V 13 = (.bool false) := h13
                    replace h14 : V 14 = gb false (.bool false) := h14
                    replace hb := hb.trans (hC.mono hb.size)
                    replace hkb1 := blk_ext hkb1 hC
                    replace hrv := Row.ext hrv hC
                    refine ⟨true, false, congrArg some h13, fun hact => ?_, fun hact => ?_⟩
                    · exfalso; simp at hact
                    · exact ⟨Below.refl _ _, rfl, nofr rfl⟩
                  refine ⟨fun wu16 hC hd => ?_, ?_⟩
                  · obtain ⟨h13, _⟩ := hd
                    skip
                    replace h13 : V 13 = (.bool false) := h13
                    replace hb := hb.trans (hC.mono hb.size)
                    replace hkb1 := blk_ext hkb1 hC
                    replace hrv := Row.ext hrv hC
                    refine ⟨true, false, congrArg some h13, fun hact => ?_, fun hact => ?_⟩
                    · exfalso; simp at hact
                    · exact ⟨Below.refl _ _, rfl, nofr rfl⟩
                  refine ⟨fun wu17 hC hd => ?_, ?_⟩
                  · obtain ⟨h13, _⟩ := hd
                    skip
                    replace h13 : V 13 = (.bool false) := h13
                    replace hb := hb.trans (hC.mono hb.size)
                    replace hkb1 := blk_ext hkb1 hC
                    replace hrv := Row.ext hrv hC
                    refine ⟨true, false, congrArg some h13, fun hact => ?_, fun hact => ?_⟩
                    · exfalso; simp at hact
                    · exact ⟨Below.refl _ _, rfl, nofr rfl⟩
                  refine ⟨fun wu18 hC hd => ?_, ?_⟩
                  · obtain ⟨h13, h17, _⟩ := hd
                    skip
                    skip
                    replace h13 : V 13 = (.bool false) := h13
                    replace h17 : V 17 = gb false (.bool false) := h17
                    replace hb := hb.trans (hC.mono hb.size)
                    replace hkb1 := blk_ext hkb1 hC
                    replace hrv := Row.ext hrv hC
                    refine ⟨true, false, congrArg some h13, fun hact => ?_, fun hact => ?_⟩
                    · exfalso; simp at hact
                    · exact ⟨Below.refl _ _, rfl, nofr rfl⟩
                  refine ⟨fun wu19 hC hd => ?_, ?_⟩
                  · obtain ⟨h13, h18, _⟩ := hd
                    skip
                    skip
                    replace h13 : V 13 = (.bool false) := h13
                    replace h18 : V 18 = gb false (.bool false) := h18
                    replace hb := hb.trans (hC.mono hb.size)
                    replace hkb1 := blk_ext hkb1 hC
                    replace hrv := Row.ext hrv hC
                    refine ⟨true, false, congrArg some h13, fun hact => ?_, fun hact => ?_⟩
                    · exfalso; simp at hact
                    · exact ⟨Below.refl _ _, rfl, nofr rfl⟩
                  refine ⟨fun wu20 hC hd => ?_, ?_⟩
                  · obtain ⟨h13, h16, h19, _⟩ := hd
                    skip
                    skip
                    skip
                    replace h13 : V 13 = (.bool false) := h13
                    replace h16 : V 16 = gb false (.bool false) := h16
                    replace h19 : V 19 = gb false (.bool false) := h19
                    replace hb := hb.trans (hC.mono hb.size)
                    replace hkb1 := blk_ext hkb1 hC
                    replace hrv := Row.ext hrv hC
                    refine ⟨true, false, congrArg some h13, fun hact => ?_, fun hact => ?_⟩
                    · exfalso; simp at hact
                    · exact ⟨Below.refl _ _, rfl, nofr rfl⟩
                  refine ⟨fun wu21 hC hd => ?_, ?_⟩
                  · obtain ⟨h13, h20, _⟩ := hd
                    skip
                    skip
                    replace h13 : V 13 = (.bool false) := h13
                    replace h20 : V 20 = gb false (.bool false) := h20
                    replace hb := hb.trans (hC.mono hb.size)
                    replace hkb1 := blk_ext hkb1 hC
                    replace hrv := Row.ext hrv hC
                    refine ⟨true, false, congrArg some h13, fun hact => ?_, fun hact => ?_⟩
                    · exfalso; simp at hact
                    · exact ⟨Below.refl _ _, rfl, nofr rfl⟩
                  refine ⟨fun wu22 hC hd => ?_, ?_⟩
                  · obtain ⟨h13, h15, h21, _⟩ := hd
                    skip
                    skip
                    skip
                    replace h13 : V 13 = (.bool false) := h13
                    replace h15 : V 15 = gb false (.bool false) := h15
                    replace h21 : V 21 = gb false (.bool false) := h21
                    replace hb := hb.trans (hC.mono hb.size)
                    replace hkb1 := blk_ext hkb1 hC
                    replace hrv := Row.ext hrv hC
                    refine ⟨true, false, congrArg some h13, fun hact => ?_, fun hact => ?_⟩
                    · exfalso; simp at hact
                    · exact ⟨Below.refl _ _, rfl, nofr rfl⟩
                  refine ⟨fun wu23 hC hd => ?_, ?_⟩
                  · obtain ⟨h13, h22, _⟩ := hd
                    skip
                    skip
                    replace h13 : V 13 = (.bool false) := h13
                    replace h22 : V 22 = gb false (.bool false) := h22
                    replace hb := hb.trans (hC.mono hb.size)
                    replace hkb1 := blk_ext hkb1 hC
                    replace hrv := Row.ext hrv hC
                    refine ⟨true, false, congrArg some h13, fun hact => ?_, fun hact => ?_⟩
                    · exfalso; simp at hact
                    · exact ⟨Below.refl _ _, rfl, nofr rfl⟩
                  refine ⟨fun wu24 hC hd => ?_, ?_⟩
                  · obtain ⟨h9, h13, h23, _⟩ := hd
                    skip
                    skip
                    skip
                    replace h9 : V 9 = (.bool false) := h9
                    replace h13 : V 13 = (.bool false) := h13
                    replace h23 : V 23 = gb false (.bool false) := h23
                    replace hb := hb.trans (hC.mono hb.size)
                    replace hkb1 := blk_ext hkb1 hC
                    replace hrv := Row.ext hrv hC
                    refine ⟨true, false, congrArg some h9, fun hact => ?_, fun hact => ?_⟩
                    · exact Runs.does (r_pick (b := false) (congrArg some h13) (congrArg some h23) rfl rfl) ⟨Below.refl _ _, rfl, nofr rfl⟩
                    · exfalso; simp at hact
                  refine ⟨fun wu25 hC hd => ?_, ?_⟩
                  · obtain ⟨h9, h24, _⟩ := hd
                    skip
                    skip
                    replace h9 : V 9 = (.bool false) := h9
                    replace h24 : V 24 = (.bool false) := h24
                    replace hb := hb.trans (hC.mono hb.size)
                    replace hkb1 := blk_ext hkb1 hC
                    replace hrv := Row.ext hrv hC
                    exact Runs.does (r_pick (b := false) (congrArg some h9) rfl (congrArg some h24) rfl) ⟨Below.refl _ _, rfl, nofr rfl⟩
                  trivial
                · skip
                  clear hf fa; intro V w24 fa he15 hp hnb hf
                  have hv0 : V 0 = (.slice rva ((Vf.length)) rvc) := postsHold_at hp 0 rfl
                  have hv1 : V 1 = (.int .i64 (((Vf.length) : Nat) : Int)) := postsHold_at hp 1 rfl
                  have hv2 : V 2 = (.bool true) := postsHold_at hp 2 rfl
                  have hv3 : V 3 = (.bool true) := postsHold_at hp 3 rfl
                  have hv4 : V 4 = (.pointer (some ⟨pj, 0, none⟩)) := postsHold_at hp 4 rfl
                  have hv5 : V 5 = (.slice none 0 0) := postsHold_at hp 5 rfl
                  have hv6 : V 6 = (.int .i64 (0 : Int)) := postsHold_at hp 6 rfl
                  have hv7 : V 7 = (.bool false) := postsHold_at hp 7 rfl
                  have hv8 : V 8 = (.bool false) := postsHold_at hp 8 rfl
                  have hv9 : V 9 = (.bool false) := postsHold_at hp 9 rfl
                  have hv10 : V 10 = (.slice rva ((Vf.length)) rvc) := postsHold_at hp 10 rfl
                  have hv11 : V 11 = (.int .i64 (((Vf.length) : Nat) : Int)) := postsHold_at hp 11 rfl
                  have hv12 : V 12 = (.bool false) := postsHold_at hp 12 rfl
                  have hv13 : V 13 = (.bool false) := postsHold_at hp 13 rfl
                  have hv14 : V 14 = gb false (.bool false) := postsHold_at hp 14 rfl
                  have hv15 : V 15 = gb false (.bool false) := postsHold_at hp 15 rfl
                  have hv16 : V 16 = gb false (.bool false) := postsHold_at hp 16 rfl
                  have hv17 : V 17 = gb false (.bool false) := postsHold_at hp 17 rfl
                  have hv18 : V 18 = gb false (.bool false) := postsHold_at hp 18 rfl
                  have hv19 : V 19 = gb false (.bool false) := postsHold_at hp 19 rfl
                  have hv20 : V 20 = gb false (.bool false) := postsHold_at hp 20 rfl
                  have hv21 : V 21 = gb false (.bool false) := postsHold_at hp 21 rfl
                  have hv22 : V 22 = gb false (.bool false) := postsHold_at hp 22 rfl
                  have hv23 : V 23 = gb false (.bool false) := postsHold_at hp 23 rfl
                  have hv24 : V 24 = (.bool false) := postsHold_at hp 24 rfl
                  have hv25 : V 25 = (.bool false) := postsHold_at hp 25 rfl
                  simp only [List.take_succ_cons, List.take_zero, insAll, ins, hv0, hv1, hv2, hv3, hv4, hv5, hv6, hv7, hv8, hv9, hv10, hv11, hv12, hv13, hv14, hv15, hv16, hv17, hv18, hv19, hv20, hv21, hv22, hv23, hv24, hv25] at hf
                  clear hp hnb hv0 hv1 hv2 hv3 hv4 hv5 hv6 hv7 hv8 hv9 hv10 hv11 hv12 hv13 hv14 hv15 hv16 hv17 hv18 hv19 hv20 hv21 hv22 hv23 hv24 hv25
                  replace hkb1 := blk_ext hkb1 he15
                  replace hrv := Row.ext hrv he15
                  replace hb := hb.trans (Below.mono he15 hb.size)
                  replace hJ := hJ.ext he15
                  replace hRI := hRI.ext he15
                  (try simp only [Exit.then, Exit.inBlock, ↓reduceIte, Nat.reduceEqDiff])
                  refine hK52 _ _ ?_
                  refine wp_cond_false (hf.ev rfl) ?_
                  refine wp_skip ?_
                  (try simp only [Exit.then, Exit.inBlock, ↓reduceIte, Nat.reduceEqDiff])
                  refine hK13 _ _ ?_
                  refine wp_region_lit ?_
                  refine sqv hf (r_move rfl) rfl rfl rfl ?_; clear hf fa; intro fa hf
                  refine sqv hf (r_add (C := (((k : Nat) : Int) + (1 : Int))) rfl rfl (by rw [IntKind.wrap_i64]; omega)) rfl rfl rfl ?_; clear hf fa; intro fa hf
                  refine sqv hf (r_assign rfl) rfl rfl rfl ?_; clear hf fa; intro fa hf
                  apply wpList_nil
                  (try simp only [Exit.then, Exit.inBlock, ↓reduceIte, Nat.reduceEqDiff])
                  refine hKL1 _ _ _ (by omega) ⟨(k + 1), Vf, Rf, Nf, rva, rvc, rfl, hf.sub ⟨rfl, rfl, rfl, (some_int (by first | rfl | omega)), (some_sl (by first | omega | (simp only [List.length_append, List.length_cons, List.length_nil]; omega) | (simp <;> omega)) rfl), trivial⟩, hb, (Row.relen hrv), by omega, hk80, (by omega), (by omega), (by omega), hwfF, hRI, hJ⟩
              · have hsp4b : decide (Rf.length = 0) = false := decide_eq_false hsp4
                obtain ⟨yl, ll, hyl, hylR, hrowl, hinl, hynl⟩ := hRI.get (i := Vf.length - 1) (by omega)
                have hll : ll = Rl Rf := by show ll = Rf.getD (Rf.length - 1) []; rw [← hVF, List.getD_eq_getElem?_getD, hylR]; rfl
                subst hll
                obtain ⟨rb1, rfl, hbbrb1, hlbrb1⟩ := Row.some hrv (by first | omega | (simp only [Sl.list_length, List.length_set, List.length_take, List.length_append, List.length_replicate, List.length_cons, List.length_nil, List.length_map, nums_len]; omega))
                have hy2 : (Vf)[(((Vf.length)) - 1)]? = some yl := hyl
                have hel2 := RdS.at (Row.rd (by intros; rfl) hrv) hy2
                obtain ⟨_, _, hab, hlr1, hel2⟩ := hel2
                cases hab
                refine wp_region_un (fun wq => Below w23.heap.size w23 wq) (fun w w' => Below w.heap.size w w')
                  (fun V => [(fun x _ => x = (.slice (some ⟨rb1, 0, none⟩) ((Vf.length)) rvc)), (fun x _ => x = (.int .i64 (((Vf.length) : Nat) : Int))), (fun x _ => x = (.bool false)), (fun x _ => x = (.bool false)), (fun x _ => x = gb false (.bool false)), (fun x _ => x = gb false (.bool false)), (fun x _ => x = gb false (.bool false)), (fun x _ => x = gb false (.bool false)), (fun x _ => x = (.bool false)), (fun x _ => x = (.bool false)), (fun x _ => x = (.slice (some ⟨rb1, 0, none⟩) ((Vf.length)) rvc)), (fun x _ => x = (.int .i64 (((Vf.length) : Nat) : Int))), (fun x _ => x = (.bool true)), (fun x _ => x = (.bool true)), (fun x _ => x = (.pointer (some ⟨pj, 0, none⟩))), (fun x wq => ∃ a c, x = .slice a (((Rl Rf)).length) c ∧ Row 4 vE 54 w23.heap.size wq x (Rl Rf)), (fun x _ => x = (.slice (some ⟨rb1, 0, none⟩) ((Vf.length)) rvc)), (fun x _ => x = (.slice (some ⟨rb1, 0, none⟩) ((Vf.length)) rvc)), (fun x _ => x = (.int .i64 (((Vf.length) : Nat) : Int))), (fun x _ => x = (.int .i64 ((((Vf.length) : Nat) : Int) - (1 : Int)))), (fun x _ => x = (.pointer (some ⟨rb1, (0 + (((Vf.length)) - 1) * 1), none⟩))), (fun x _ => x = (.slice yl.1 yl.2.1 yl.2.2)), (fun x _ => x = (.bool true)), (fun x _ => x = (.bool false)), (fun x _ => x = (.bool false)), (fun x _ => x = (.bool false))])
                  []
                  [[], [0], [1], [2], [3], [3, 4], [3, 5], [3, 6], [3, 7], [5, 8], [9], [9, 10], [9, 11], [9, 12], [13], [13, 14], [13], [13], [13, 17], [13, 18], [13, 16, 19], [13, 20], [13, 15, 21], [13, 22], [9, 13, 23], [9, 24]]
                  hf (by kernel_rfl) (by kernel_rfl) (fun _ => rfl) ((Below.refl _ _).drew) (fun a b h1 h2 => h1.trans (h2.mono h1.size)) (fun _ _ h => h.size) (fun V => ⟨kept_eq, kept_eq, kept_eq, kept_eq, kept_eq, kept_eq, kept_eq, kept_eq, kept_eq, kept_eq, kept_eq, kept_eq, kept_eq, kept_eq, kept_eq, keptE, kept_eq, kept_eq, kept_eq, kept_eq, kept_eq, kept_eq, kept_eq, kept_eq, kept_eq, kept_eq, trivial⟩) (fun _ _ _ _ _ => rfl) ?_ ?_
                · skip
                  intro V
                  refine ⟨fun wu0 hC hd => ?_, ?_⟩
                  · clear hd
                    replace hb := hb.trans (hC.mono hb.size)
                    replace hkb1 := blk_ext hkb1 hC
                    replace hrv := Row.ext hrv hC
                    exact Runs.does (r_move rfl) ⟨Below.refl _ _, rfl, nofr rfl⟩
                  refine ⟨fun wu1 hC hd => ?_, ?_⟩
                  · obtain ⟨h0, _⟩ := hd
                    skip
                    replace h0 : V 0 = (.slice (some ⟨rb1, 0, none⟩) ((Vf.length)) rvc) := h0
                    replace hb := hb.trans (hC.mono hb.size)
                    replace hkb1 := blk_ext hkb1 hC
                    replace hrv := Row.ext hrv hC
                    exact Runs.does (r_lensl (congrArg some h0) Try.underlying52) ⟨Below.refl _ _, rfl, nofr rfl⟩
                  refine ⟨fun wu2 hC hd => ?_, ?_⟩
                  · obtain ⟨h1, _⟩ := hd
                    skip
                    replace h1 : V 1 = (.int .i64 (((Vf.length) : Nat) : Int)) := h1
                    replace hb := hb.trans (hC.mono hb.size)
                    replace hkb1 := blk_ext hkb1 hC
                    replace hrv := Row.ext hrv hC
                    exact Runs.does (Runs.veq (r_eq (congrArg some h1) rfl) (congrArg Value.bool (show _ = false from (decide_eq_false (by omega))))) ⟨Below.refl _ _, rfl, nofr rfl⟩
                  refine ⟨fun wu3 hC hd => ?_, ?_⟩
                  · obtain ⟨h2, _⟩ := hd
                    skip
                    replace h2 : V 2 = (.bool false) := h2
                    replace hb := hb.trans (hC.mono hb.size)
                    replace hkb1 := blk_ext hkb1 hC
                    replace hrv := Row.ext hrv hC
                    exact Runs.does (r_move (congrArg some h2)) ⟨Below.refl _ _, rfl, nofr rfl⟩
                  refine ⟨fun wu4 hC hd => ?_, ?_⟩
                  · obtain ⟨h3, _⟩ := hd
                    skip
                    replace h3 : V 3 = (.bool false) := h3
                    replace hb := hb.trans (hC.mono hb.size)
                    replace hkb1 := blk_ext hkb1 hC
                    replace hrv := Row.ext hrv hC
                    refine ⟨true, false, congrArg some h3, fun hact => ?_, fun hact => ?_⟩
                    · exfalso; simp at hact
                    · exact ⟨Below.refl _ _, rfl, nofr rfl⟩
                  refine ⟨fun wu5 hC hd => ?_, ?_⟩
                  · obtain ⟨h3, h4, _⟩ := hd
                    skip
                    skip
                    replace h3 : V 3 = (.bool false) := h3
                    replace h4 : V 4 = gb false (.bool false) := h4
                    replace hb := hb.trans (hC.mono hb.size)
                    replace hkb1 := blk_ext hkb1 hC
                    replace hrv := Row.ext hrv hC
                    refine ⟨true, false, congrArg some h3, fun hact => ?_, fun hact => ?_⟩
                    · exfalso; simp at hact
                    · exact ⟨Below.refl _ _, rfl, nofr rfl⟩
                  refine ⟨fun wu6 hC hd => ?_, ?_⟩
                  · obtain ⟨h3, h5, _⟩ := hd
                    skip
                    skip
                    replace h3 : V 3 = (.bool false) := h3
                    replace h5 : V 5 = gb false (.bool false) := h5
                    replace hb := hb.trans (hC.mono hb.size)
                    replace hkb1 := blk_ext hkb1 hC
                    replace hrv := Row.ext hrv hC
                    refine ⟨true, false, congrArg some h3, fun hact => ?_, fun hact => ?_⟩
                    · exfalso; simp at hact
                    · exact ⟨Below.refl _ _, rfl, nofr rfl⟩
                  refine ⟨fun wu7 hC hd => ?_, ?_⟩
                  · obtain ⟨h3, h6, _⟩ := hd
                    skip
                    skip
                    replace h3 : V 3 = (.bool false) := h3
                    replace h6 : V 6 = gb false (.bool false) := h6
                    replace hb := hb.trans (hC.mono hb.size)
                    replace hkb1 := blk_ext hkb1 hC
                    replace hrv := Row.ext hrv hC
                    refine ⟨true, false, congrArg some h3, fun hact => ?_, fun hact => ?_⟩
                    · exfalso; simp at hact
                    · exact ⟨Below.refl _ _, rfl, nofr rfl⟩
                  refine ⟨fun wu8 hC hd => ?_, ?_⟩
                  · obtain ⟨h3, h7, _⟩ := hd
                    skip
                    skip
                    replace h3 : V 3 = (.bool false) := h3
                    replace h7 : V 7 = gb false (.bool false) := h7
                    replace hb := hb.trans (hC.mono hb.size)
                    replace hkb1 := blk_ext hkb1 hC
                    replace hrv := Row.ext hrv hC
                    exact Runs.does (r_pick (b := false) (congrArg some h3) (congrArg some h7) rfl rfl) ⟨Below.refl _ _, rfl, nofr rfl⟩
                  refine ⟨fun wu9 hC hd => ?_, ?_⟩
                  · obtain ⟨h5, h8, _⟩ := hd
                    skip
                    skip
                    replace h5 : V 5 = gb false (.bool false) := h5
                    replace h8 : V 8 = (.bool false) := h8
                    replace hb := hb.trans (hC.mono hb.size)
                    replace hkb1 := blk_ext hkb1 hC
                    replace hrv := Row.ext hrv hC
                    exact Runs.does (r_move (congrArg some h8)) ⟨Below.refl _ _, rfl, nofr rfl⟩
                  refine ⟨fun wu10 hC hd => ?_, ?_⟩
                  · obtain ⟨h9, _⟩ := hd
                    skip
                    replace h9 : V 9 = (.bool false) := h9
                    replace hb := hb.trans (hC.mono hb.size)
                    replace hkb1 := blk_ext hkb1 hC
                    replace hrv := Row.ext hrv hC
                    refine ⟨true, false, congrArg some h9, fun hact => ?_, fun hact => ?_⟩
                    · exact Runs.does (r_move rfl) ⟨Below.refl _ _, rfl, nofr rfl⟩
                    · exfalso; simp at hact
                  refine ⟨fun wu11 hC hd => ?_, ?_⟩
                  · obtain ⟨h9, h10, _⟩ := hd
                    skip
                    skip
                    replace h9 : V 9 = (.bool false) := h9
                    replace h10 : V 10 = (.slice (some ⟨rb1, 0, none⟩) ((Vf.length)) rvc) := h10
                    replace hb := hb.trans (hC.mono hb.size)
                    replace hkb1 := blk_ext hkb1 hC
                    replace hrv := Row.ext hrv hC
                    refine ⟨true, false, congrArg some h9, fun hact => ?_, fun hact => ?_⟩
                    · exact Runs.does (r_lensl (congrArg some h10) Try.underlying52) ⟨Below.refl _ _, rfl, nofr rfl⟩
                    · exfalso; simp at hact
                  refine ⟨fun wu12 hC hd => ?_, ?_⟩
                  · obtain ⟨h9, h11, _⟩ := hd
                    skip
                    skip
                    replace h9 : V 9 = (.bool false) := h9
                    replace h11 : V 11 = (.int .i64 (((Vf.length) : Nat) : Int)) := h11
                    replace hb := hb.trans (hC.mono hb.size)
                    replace hkb1 := blk_ext hkb1 hC
                    replace hrv := Row.ext hrv hC
                    refine ⟨true, false, congrArg some h9, fun hact => ?_, fun hact => ?_⟩
                    · exact Runs.does (Runs.veq (r_gt (congrArg some h11) rfl) (congrArg Value.bool (show _ = true from (decide_eq_true (by omega))))) ⟨Below.refl _ _, rfl, nofr rfl⟩
                    · exfalso; simp at hact
                  refine ⟨fun wu13 hC hd => ?_, ?_⟩
                  · obtain ⟨h9, h12, _⟩ := hd
                    skip
                    skip
                    replace h9 : V 9 = (.bool false) := h9
                    replace h12 : V 12 = (.bool true) := h12
                    replace hb := hb.trans (hC.mono hb.size)
                    replace hkb1 := blk_ext hkb1 hC
                    replace hrv := Row.ext hrv hC
                    refine ⟨true, false, congrArg some h9, fun hact => ?_, fun hact => ?_⟩
                    · exact Runs.does (r_move (congrArg some h12)) ⟨Below.refl _ _, rfl, nofr rfl⟩
                    · exfalso; simp at hact
                  refine ⟨fun wu14 hC hd => ?_, ?_⟩
                  · obtain ⟨h13, _⟩ := hd
                    skip
                    replace h13 : V 13 = (.bool true) := h13
                    replace hb := hb.trans (hC.mono hb.size)
                    replace hkb1 := blk_ext hkb1 hC
                    replace hrv := Row.ext hrv hC
                    refine ⟨true, true, congrArg some h13, fun hact => ?_, fun hact => ?_⟩
                    · exact Runs.does (r_move rfl) ⟨Below.refl _ _, rfl, nofr rfl⟩
                    · exfalso; simp at hact
                  refine ⟨fun wu15 hC hd => ?_, ?_⟩
                  · obtain ⟨h13, h14, _⟩ := hd
                    skip
                    skip
                    replace h13 : V 13 = (.bool true) := h13
                    replace h14 : V 14 = (.pointer (some ⟨pj, 0, none⟩)) := h14
                    replace hb := hb.trans (hC.mono hb.size)
                    replace hkb1 := blk_ext hkb1 hC
                    replace hrv := Row.ext hrv hC
                    refine ⟨true, true, congrArg some h13, fun hact => ?_, fun hact => ?_⟩
                    · refine Does.mono (d_callX (vs := [(.pointer (some ⟨pj, 0, none⟩))]) (show [some (V 14)] = [some (.pointer (some ⟨pj, 0, none⟩))] from by rw [h14]) Try.func35 (by kernel_rfl) (by kernel_rfl) (since_S (hJ.ext hC) hFs hFf (by omega))) ?_
                      rintro _ w' ⟨hF2, hF3⟩
                      obtain ⟨ra, rc, rfl, _, _⟩ := Row.slice hF2
                      exact ⟨hF3, ⟨ra, rc, rfl, hF2.rebase hC.size⟩, nofr rfl⟩
                    · exfalso; simp at hact
                  refine ⟨fun wu16 hC hd => ?_, ?_⟩
                  · obtain ⟨h13, _⟩ := hd
                    skip
                    replace h13 : V 13 = (.bool true) := h13
                    replace hb := hb.trans (hC.mono hb.size)
                    replace hkb1 := blk_ext hkb1 hC
                    replace hrv := Row.ext hrv hC
                    refine ⟨true, true, congrArg some h13, fun hact => ?_, fun hact => ?_⟩
                    · exact Runs.does (r_move rfl) ⟨Below.refl _ _, rfl, nofr rfl⟩
                    · exfalso; simp at hact
                  refine ⟨fun wu17 hC hd => ?_, ?_⟩
                  · obtain ⟨h13, _⟩ := hd
                    skip
                    replace h13 : V 13 = (.bool true) := h13
                    replace hb := hb.trans (hC.mono hb.size)
                    replace hkb1 := blk_ext hkb1 hC
                    replace hrv := Row.ext hrv hC
                    refine ⟨true, true, congrArg some h13, fun hact => ?_, fun hact => ?_⟩
                    · exact Runs.does (r_move rfl) ⟨Below.refl _ _, rfl, nofr rfl⟩
                    · exfalso; simp at hact
                  refine ⟨fun wu18 hC hd => ?_, ?_⟩
                  · obtain ⟨h13, h17, _⟩ := hd
                    skip
                    skip
                    replace h13 : V 13 = (.bool true) := h13
                    replace h17 : V 17 = (.slice (some ⟨rb1, 0, none⟩) ((Vf.length)) rvc) := h17
                    replace hb := hb.trans (hC.mono hb.size)
                    replace hkb1 := blk_ext hkb1 hC
                    replace hrv := Row.ext hrv hC
                    refine ⟨true, true, congrArg some h13, fun hact => ?_, fun hact => ?_⟩
                    · exact Runs.does (r_lensl (congrArg some h17) Try.underlying52) ⟨Below.refl _ _, rfl, nofr rfl⟩
                    · exfalso; simp at hact
                  refine ⟨fun wu19 hC hd => ?_, ?_⟩
                  · obtain ⟨h13, h18, _⟩ := hd
                    skip
                    skip
                    replace h13 : V 13 = (.bool true) := h13
                    replace h18 : V 18 = (.int .i64 (((Vf.length) : Nat) : Int)) := h18
                    replace hb := hb.trans (hC.mono hb.size)
                    replace hkb1 := blk_ext hkb1 hC
                    replace hrv := Row.ext hrv hC
                    refine ⟨true, true, congrArg some h13, fun hact => ?_, fun hact => ?_⟩
                    · exact Runs.does (r_sub (C := ((((Vf.length) : Nat) : Int) - (1 : Int))) (congrArg some h18) rfl (by rw [IntKind.wrap_i64]; omega)) ⟨Below.refl _ _, rfl, nofr rfl⟩
                    · exfalso; simp at hact
                  refine ⟨fun wu20 hC hd => ?_, ?_⟩
                  · obtain ⟨h13, h16, h19, _⟩ := hd
                    skip
                    skip
                    skip
                    replace h13 : V 13 = (.bool true) := h13
                    replace h16 : V 16 = (.slice (some ⟨rb1, 0, none⟩) ((Vf.length)) rvc) := h16
                    replace h19 : V 19 = (.int .i64 ((((Vf.length) : Nat) : Int) - (1 : Int))) := h19
                    replace hb := hb.trans (hC.mono hb.size)
                    replace hkb1 := blk_ext hkb1 hC
                    replace hrv := Row.ext hrv hC
                    refine ⟨true, true, congrArg some h13, fun hact => ?_, fun hact => ?_⟩
                    · exact Runs.does (r_ixa (sz := 1) (j := (((Vf.length)) - 1)) (congrArg some h16) (congrArg some h19) Try.underlying52 (by kernel_rfl) (by omega) (by omega) rfl) ⟨Below.refl _ _, rfl, nofr rfl⟩
                    · exfalso; simp at hact
                  refine ⟨fun wu21 hC hd => ?_, ?_⟩
                  · obtain ⟨h13, h20, _⟩ := hd
                    skip
                    skip
                    replace h13 : V 13 = (.bool true) := h13
                    replace h20 : V 20 = (.pointer (some ⟨rb1, (0 + (((Vf.length)) - 1) * 1), none⟩)) := h20
                    replace hb := hb.trans (hC.mono hb.size)
                    replace hkb1 := blk_ext hkb1 hC
                    replace hrv := Row.ext hrv hC
                    refine ⟨true, true, congrArg some h13, fun hact => ?_, fun hact => ?_⟩
                    · exact Runs.does (r_load (v := (.slice yl.1 yl.2.1 yl.2.2)) (congrArg some h20) Try.underlying64 rfl (cellsAt_cell (cellsAt_below hel2 hC hlr1) (i := 0) rfl rfl)) ⟨Below.refl _ _, rfl, nofr rfl⟩
                    · exfalso; simp at hact
                  refine ⟨fun wu22 hC hd => ?_, ?_⟩
                  · obtain ⟨h13, h15, h21, _⟩ := hd
                    skip
                    skip
                    skip
                    replace h13 : V 13 = (.bool true) := h13
                    obtain ⟨ea1, ec1, h15, hr4⟩ := h15
                    rw [h15] at hr4
                    replace h21 : V 21 = (.slice yl.1 yl.2.1 yl.2.2) := h21
                    replace hb := hb.trans (hC.mono hb.size)
                    replace hkb1 := blk_ext hkb1 hC
                    replace hrv := Row.ext hrv hC
                    refine ⟨true, true, congrArg some h13, fun hact => ?_, fun hact => ?_⟩
                    · refine Does.mono (d_callB (vs := [(.slice ea1 (((Rl Rf)).length) ec1), (.slice yl.1 yl.2.1 yl.2.2)]) (show [some (V 15), some (V 21)] = [some (.slice ea1 (((Rl Rf)).length) ec1), some (.slice yl.1 yl.2.1 yl.2.2)] from by rw [h15, h21]) Try.func25 (by kernel_rfl) (by kernel_rfl) (same_to _ _ (Rl Rf) _ _ _ _ _ (Row.rd (by intros; rfl) hr4) (RdS.ext hinl hC) (by have := flat_len (Rr := Rf) (by omega); omega) rfl hynl)) (fun _ _ h => ⟨h.2, h.1, nofr rfl⟩)
                    · exfalso; simp at hact
                  refine ⟨fun wu23 hC hd => ?_, ?_⟩
                  · obtain ⟨h13, h22, _⟩ := hd
                    skip
                    skip
                    replace h13 : V 13 = (.bool true) := h13
                    replace h22 : V 22 = (.bool true) := h22
                    replace hb := hb.trans (hC.mono hb.size)
                    replace hkb1 := blk_ext hkb1 hC
                    replace hrv := Row.ext hrv hC
                    refine ⟨true, true, congrArg some h13, fun hact => ?_, fun hact => ?_⟩
                    · exact Runs.does (Runs.veq (v' := (.bool false)) (r_not (congrArg some h22)) rfl) ⟨Below.refl _ _, rfl, nofr rfl⟩
                    · exfalso; simp at hact
                  refine ⟨fun wu24 hC hd => ?_, ?_⟩
                  · obtain ⟨h9, h13, h23, _⟩ := hd
                    skip
                    skip
                    skip
                    replace h9 : V 9 = (.bool false) := h9
                    replace h13 : V 13 = (.bool true) := h13
                    replace h23 : V 23 = (.bool false) := h23
                    replace hb := hb.trans (hC.mono hb.size)
                    replace hkb1 := blk_ext hkb1 hC
                    replace hrv := Row.ext hrv hC
                    refine ⟨true, false, congrArg some h9, fun hact => ?_, fun hact => ?_⟩
                    · exact Runs.does (r_pick (b := true) (congrArg some h13) (congrArg some h23) rfl rfl) ⟨Below.refl _ _, rfl, nofr rfl⟩
                    · exfalso; simp at hact
                  refine ⟨fun wu25 hC hd => ?_, ?_⟩
                  · obtain ⟨h9, h24, _⟩ := hd
                    skip
                    skip
                    replace h9 : V 9 = (.bool false) := h9
                    replace h24 : V 24 = (.bool false) := h24
                    replace hb := hb.trans (hC.mono hb.size)
                    replace hkb1 := blk_ext hkb1 hC
                    replace hrv := Row.ext hrv hC
                    exact Runs.does (r_pick (b := false) (congrArg some h9) rfl (congrArg some h24) rfl) ⟨Below.refl _ _, rfl, nofr rfl⟩
                  trivial
                · skip
                  clear hf fa; intro V w25 fa he16 hp hnb hf
                  have hv0 : V 0 = (.slice (some ⟨rb1, 0, none⟩) ((Vf.length)) rvc) := postsHold_at hp 0 rfl
                  have hv1 : V 1 = (.int .i64 (((Vf.length) : Nat) : Int)) := postsHold_at hp 1 rfl
                  have hv2 : V 2 = (.bool false) := postsHold_at hp 2 rfl
                  have hv3 : V 3 = (.bool false) := postsHold_at hp 3 rfl
                  have hv4 : V 4 = gb false (.bool false) := postsHold_at hp 4 rfl
                  have hv5 : V 5 = gb false (.bool false) := postsHold_at hp 5 rfl
                  have hv6 : V 6 = gb false (.bool false) := postsHold_at hp 6 rfl
                  have hv7 : V 7 = gb false (.bool false) := postsHold_at hp 7 rfl
                  have hv8 : V 8 = (.bool false) := postsHold_at hp 8 rfl
                  have hv9 : V 9 = (.bool false) := postsHold_at hp 9 rfl
                  have hv10 : V 10 = (.slice (some ⟨rb1, 0, none⟩) ((Vf.length)) rvc) := postsHold_at hp 10 rfl
                  have hv11 : V 11 = (.int .i64 (((Vf.length) : Nat) : Int)) := postsHold_at hp 11 rfl
                  have hv12 : V 12 = (.bool true) := postsHold_at hp 12 rfl
                  have hv13 : V 13 = (.bool true) := postsHold_at hp 13 rfl
                  have hv14 : V 14 = (.pointer (some ⟨pj, 0, none⟩)) := postsHold_at hp 14 rfl
                  have hv15 := postsHold_at hp 15 rfl
                  obtain ⟨ea1, ec1, hv15, hr4⟩ := hv15
                  rw [hv15] at hr4
                  have hv16 : V 16 = (.slice (some ⟨rb1, 0, none⟩) ((Vf.length)) rvc) := postsHold_at hp 16 rfl
                  have hv17 : V 17 = (.slice (some ⟨rb1, 0, none⟩) ((Vf.length)) rvc) := postsHold_at hp 17 rfl
                  have hv18 : V 18 = (.int .i64 (((Vf.length) : Nat) : Int)) := postsHold_at hp 18 rfl
                  have hv19 : V 19 = (.int .i64 ((((Vf.length) : Nat) : Int) - (1 : Int))) := postsHold_at hp 19 rfl
                  have hv20 : V 20 = (.pointer (some ⟨rb1, (0 + (((Vf.length)) - 1) * 1), none⟩)) := postsHold_at hp 20 rfl
                  have hv21 : V 21 = (.slice yl.1 yl.2.1 yl.2.2) := postsHold_at hp 21 rfl
                  have hv22 : V 22 = (.bool true) := postsHold_at hp 22 rfl
                  have hv23 : V 23 = (.bool false) := postsHold_at hp 23 rfl
                  have hv24 : V 24 = (.bool false) := postsHold_at hp 24 rfl
                  have hv25 : V 25 = (.bool false) := postsHold_at hp 25 rfl
                  simp only [List.take_succ_cons, List.take_zero, insAll, ins, hv0, hv1, hv2, hv3, hv4, hv5, hv6, hv7, hv8, hv9, hv10, hv11, hv12, hv13, hv14, hv15, hv16, hv17, hv18, hv19, hv20, hv21, hv22, hv23, hv24, hv25] at hf
                  clear hp hnb hv0 hv1 hv2 hv3 hv4 hv5 hv6 hv7 hv8 hv9 hv10 hv11 hv12 hv13 hv14 hv15 hv16 hv17 hv18 hv19 hv20 hv21 hv22 hv23 hv24 hv25
                  replace hkb1 := blk_ext hkb1 he16
                  replace hrv := Row.ext hrv he16
                  replace hb := hb.trans (Below.mono he16 hb.size)
                  replace hJ := hJ.ext he16
                  replace hRI := hRI.ext he16
                  (try simp only [Exit.then, Exit.inBlock, ↓reduceIte, Nat.reduceEqDiff])
                  refine hK52 _ _ ?_
                  refine wp_cond_false (hf.ev rfl) ?_
                  refine wp_skip ?_
                  (try simp only [Exit.then, Exit.inBlock, ↓reduceIte, Nat.reduceEqDiff])
                  refine hK13 _ _ ?_
                  refine wp_region_lit ?_
                  refine sqv hf (r_move rfl) rfl rfl rfl ?_; clear hf fa; intro fa hf
                  refine sqv hf (r_add (C := (((k : Nat) : Int) + (1 : Int))) rfl rfl (by rw [IntKind.wrap_i64]; omega)) rfl rfl rfl ?_; clear hf fa; intro fa hf
                  refine sqv hf (r_assign rfl) rfl rfl rfl ?_; clear hf fa; intro fa hf
                  apply wpList_nil
                  (try simp only [Exit.then, Exit.inBlock, ↓reduceIte, Nat.reduceEqDiff])
                  refine hKL1 _ _ _ (by omega) ⟨(k + 1), Vf, Rf, Nf, (some ⟨rb1, 0, none⟩), rvc, rfl, hf.sub ⟨rfl, rfl, rfl, (some_int (by first | rfl | omega)), (some_sl (by first | omega | (simp only [List.length_append, List.length_cons, List.length_nil]; omega) | (simp <;> omega)) rfl), trivial⟩, hb, (Row.relen hrv), by omega, hk80, (by omega), (by omega), (by omega), hwfF, hRI, hJ⟩
      · have hqt22_1b := hqt22_1
        replace hqt22_1 := Bool.eq_false_iff.1 hqt22_1
        try simp only [ne_eq, decide_eq_true_eq, Bool.and_eq_true, Bool.or_eq_true, Bool.not_eq_true', decide_eq_false_iff_not] at hqt22_1
        refine wp_exit ?_
        (try simp only [Exit.then, Exit.inBlock, ↓reduceIte, Nat.reduceEqDiff])
        refine hK9 _ _ ?_
        refine wp_seq_k (fun K53 hK53 => ?_)
        refine wp_region_lit ?_
        refine sqv hf (r_assign rfl) rfl rfl rfl ?_; clear hf fa; intro fa hf
        apply wpList_nil
        (try simp only [Exit.then, Exit.inBlock, ↓reduceIte, Nat.reduceEqDiff])
        refine hK53 _ _ ?_
        refine wp_ret ?_
        (try simp only [Exit.then, Exit.inBlock])
        refine ret1 hf rfl rfl ?_
        exact ⟨rfl, hb⟩
end Go.Proofs.Ytmcmickgllffoaa
