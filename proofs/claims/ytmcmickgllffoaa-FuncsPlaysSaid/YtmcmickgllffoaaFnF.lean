/- What is proved here: the law FuncsTypes, walked. -/
import Derived.Test.YtmcmickgllffoaaFnM
import Derived.Test.YtmcmickgllffoaaKitW
namespace Go.Proofs.Ytmcmickgllffoaa
open Go.RowKit
set_option linter.unusedVariables false
set_option linter.unusedSimpArgs false
abbrev MOp := (Int × Int × Int × Int × Int × Int × Unit)
def zMOp : MOp := ((0 : Int), (0 : Int), (0 : Int), (0 : Int), (0 : Int), (0 : Int), ())
def vMOp : MOp → List Value := (fun d => (vInt .i64) d.1 ++ (fun d => (vInt .i64) d.1 ++ (fun d => (vInt .i64) d.1 ++ (fun d => (vInt .u8) d.1 ++ (fun d => (vInt .i64) d.1 ++ (fun d => (vInt .u64) d.1 ++ (fun _ => []) d.2) d.2) d.2) d.2) d.2) d.2)
def fMOp : World → MOp → Prop := (fun w d => (fInt .i64) w d.1 ∧ (fun w d => (fInt .i64) w d.1 ∧ (fun w d => (fInt .i64) w d.1 ∧ (fun w d => (fInt .u8) w d.1 ∧ (fun w d => (fInt .i64) w d.1 ∧ (fun w d => (fInt .u64) w d.1 ∧ (fun _ _ => True) w d.2) w d.2) w d.2) w d.2) w d.2) w d.2)
theorem rdMOp : ReadsW Try.prog 28 vMOp fMOp := (readsW_struct Try.underlying28 (by kernel_rfl) (readsFsW_cons (o := 0) (c := 1) rfl (by kernel_rfl) (reads_int Try.underlying3).toW (readsFsW_cons (o := 1) (c := 1) rfl (by kernel_rfl) (reads_int Try.underlying3).toW (readsFsW_cons (o := 2) (c := 1) rfl (by kernel_rfl) (reads_int Try.underlying3).toW (readsFsW_cons (o := 3) (c := 1) rfl (by kernel_rfl) (reads_int Try.underlying5).toW (readsFsW_cons (o := 4) (c := 1) rfl (by kernel_rfl) (reads_int Try.underlying3).toW (readsFsW_cons (o := 5) (c := 1) rfl (by kernel_rfl) (reads_int Try.underlying26).toW (readsFsW_nil rfl))))))))
theorem oneMOp : ∀ x, ∀ u ∈ vMOp x, u.oneCell' = true := by
  intro x u hu
  have hu : u ∈ [(.int .i64 x.1), (.int .i64 x.2.1), (.int .i64 x.2.2.1), (.int .u8 x.2.2.2.1), (.int .i64 x.2.2.2.2.1), (.int .u64 x.2.2.2.2.2.1)] := hu
  simp only [List.mem_cons, List.not_mem_nil, or_false] at hu
  rcases hu with rfl | rfl | rfl | rfl | rfl | rfl <;> rfl

theorem FSt.low {B B2 : Nat} {w : World} {p : Nat} {L : List (Option MFn)} {Sl_ : List Int} (h : FSt B w p L Sl_) (hB : B2 ≤ B) : FSt B2 w p L Sl_ := by
  obtain ⟨a, b, c, d, ps, h1, h2, h3, h4, h5, h6, h7⟩ := h
  exact ⟨a, b, c, d, ps, h1, h2.rebase hB, h3.rebase hB, Nat.le_trans hB h4, h5, h6, h7⟩
theorem call_two {L : List (Option MFn)} {Sl_ : List Int} {i : Int} (h : TI L Sl_) : (decide ((callL L Sl_ i).2 = (0 : Int)) && (!(decide ((gotL L i).1 = (callL L Sl_ i).1.1) && decide ((gotL L i).2.1 = (callL L Sl_ i).1.2.1)))) = false := by
  by_cases hz : (callL L Sl_ i).2 = 0
  · obtain ⟨e1, e2⟩ := call_ty h hz
    simp [e1, e2]
  · simp [hz]
theorem made_I (t o m : Int) (w : World) (ht : 0 ≤ t ∧ t < 256) : Calls Try.prog 13 #[.int .u8 t, .int .i64 o, .int .u64 m] w fun e w' => ∃ x, e = .returned x ∧ ∃ k, x = fnV ((kT t.toNat).1, (kT t.toNat).2, o, some ⟨k, 0, none⟩, 2) ∧ Below w.heap.size w w' := by
  have h := made_any t.toNat o m w (by omega)
  rw [show ((t.toNat : Nat) : Int) = t by omega] at h
  exact h

set_option maxHeartbeats 1000000 in
set_option maxRecDepth 100000 in
theorem funcsTypes_any (a : Option Addr) (l : List MOp) (c : Nat) (w : World) (hl : RdS 6 vMOp w a l) (hlc : l.length ≤ 9223372036854775807) (hT : ∀ y ∈ l, 0 ≤ y.2.2.2.1 ∧ y.2.2.2.1 < 256) : Calls Try.prog 3 #[(.slice a l.length c)] w fun e w' => e = .returned (.bool true) ∧ Below w.heap.size w w' := by
  refine sx_enter (L := [(0, (.slice a l.length c))]) Try.func3 rfl rfl rfl rfl (fun fa hf => ?_)
  have hb : Below w.heap.size w w := Below.refl _ _
  refine wp_seq_k (fun K1 hK1 => ?_)
  refine wp_region_lit ?_
  refine sqv hf (r_assign rfl) rfl rfl rfl ?_; clear hf fa; intro fa hf
  apply wpList_nil
  (try simp only [Exit.then, Exit.inBlock, ↓reduceIte, Nat.reduceEqDiff])
  refine hK1 _ _ ?_
  refine wp_seq_k (fun K2 hK2 => ?_)
  refine wp_seq_k (fun K3 hK3 => ?_)
  refine wp_region_lit ?_
  refine sqdt hf (d_callB (vs := []) rfl Try.func10 (by kernel_rfl) (by kernel_rfl) (awake29_any _)) rfl rfl rfl ?_; clear hf fa; rintro fa _ w1 ⟨rfl, he1⟩ hf
  replace hb := hb.trans (Below.mono he1 hb.size)
  refine sqv hf (Runs.veq (v' := (.bool false)) (r_not rfl) rfl) rfl rfl rfl ?_; clear hf fa; intro fa hf
  apply wpList_nil
  (try simp only [Exit.then, Exit.inBlock, ↓reduceIte, Nat.reduceEqDiff])
  refine hK3 _ _ ?_
  refine wp_cond_false (hf.ev rfl) ?_
  refine wp_skip ?_
  (try simp only [Exit.then, Exit.inBlock, ↓reduceIte, Nat.reduceEqDiff])
  refine hK2 _ _ ?_
  refine wp_seq_k (fun K4 hK4 => ?_)
  refine wp_seq_k (fun K5 hK5 => ?_)
  refine wp_region_lit ?_
  refine sqv hf (r_move rfl) rfl rfl rfl ?_; clear hf fa; intro fa hf
  refine sqv hf (r_lensl rfl Try.underlying22) rfl rfl rfl ?_; clear hf fa; intro fa hf
  refine sqv hf (r_gt rfl rfl) rfl rfl rfl ?_; clear hf fa; intro fa hf
  apply wpList_nil
  (try simp only [Exit.then, Exit.inBlock, ↓reduceIte, Nat.reduceEqDiff])
  refine hK5 _ _ ?_
  refine wp_cond_split (t := (decide ((60 : Int) < ((l.length : Nat) : Int)))) (hf.ev rfl) (fun hqt14_1 => ?_) (fun hqt14_1 => ?_)
  · have hqt14_1b := hqt14_1
    try simp only [decide_eq_true_eq, Bool.and_eq_true, Bool.or_eq_true, Bool.not_eq_true', decide_eq_false_iff_not, ne_eq, Bool.not_eq_true] at hqt14_1
    refine wp_seq_k (fun K6 hK6 => ?_)
    refine wp_region_lit ?_
    refine sqv hf (r_assign rfl) rfl rfl rfl ?_; clear hf fa; intro fa hf
    apply wpList_nil
    (try simp only [Exit.then, Exit.inBlock, ↓reduceIte, Nat.reduceEqDiff])
    refine hK6 _ _ ?_
    refine wp_ret ?_
    (try simp only [Exit.then, Exit.inBlock])
    refine ret1 hf rfl rfl ?_
    exact ⟨rfl, hb⟩
  · have hqt14_1b := hqt14_1
    replace hqt14_1 := Bool.eq_false_iff.1 hqt14_1
    try simp only [ne_eq, decide_eq_true_eq, Bool.and_eq_true, Bool.or_eq_true, Bool.not_eq_true', decide_eq_false_iff_not] at hqt14_1
    refine wp_skip ?_
    (try simp only [Exit.then, Exit.inBlock, ↓reduceIte, Nat.reduceEqDiff])
    refine hK4 _ _ ?_
    refine wp_seq_k (fun K7 hK7 => ?_)
    refine wp_region_lit ?_
    refine sqdt hf (d_callX (vs := []) rfl Try.func11 (by kernel_rfl) (by kernel_rfl) (fnew_F _)) rfl rfl rfl ?_; clear hf fa; rintro fa _ w2 ⟨pf, rfl, hF, he2⟩ hf
    replace hF : FSt w.heap.size w2 pf [] [] := hF.low hb.size
    replace hb := hb.trans (Below.mono he2 hb.size)
    refine sqv hf (r_assign rfl) rfl rfl rfl ?_; clear hf fa; intro fa hf
    apply wpList_nil
    (try simp only [Exit.then, Exit.inBlock, ↓reduceIte, Nat.reduceEqDiff])
    refine hK7 _ _ ?_
    refine wp_seq_k (fun K8 hK8 => ?_)
    refine wp_seq_k (fun K9 hK9 => ?_)
    refine wp_region_lit ?_
    refine sqv hf (r_assign rfl) rfl rfl rfl ?_; clear hf fa; intro fa hf
    apply wpList_nil
    (try simp only [Exit.then, Exit.inBlock, ↓reduceIte, Nat.reduceEqDiff])
    refine hK9 _ _ ?_
    refine wp_block ?_
    refine wp_loop_k (fun mq fa wr => ∃ (k : Nat) (L : List (Option MFn)) (Sl_ : List Int), mq = l.length - k ∧ Fr 105 fa [(0, (.slice a l.length c)), (3, (.pointer (some ⟨pf, 0, none⟩))), (4, (.int .i64 ((k : Nat) : Int)))] ∧ Below w.heap.size w wr ∧ (k ≤ l.length) ∧ (L.length ≤ k) ∧ (TI L Sl_) ∧ (FSt w.heap.size wr pf L Sl_)) ?_ ?_
    · skip
      exact ⟨_, 0, [], [], rfl, hf.sub ⟨rfl, rfl, (some_int (by first | rfl | omega)), trivial⟩, hb, by omega, Nat.le_refl _, TI.nil, hF⟩
    · skip
      clear hf fa; intro mq1 fa w3 hI KL1 hKL1
      clear hb
      obtain ⟨k, L, Sl_, hmq1, hf, hb, hk, hLk, hTI, hF⟩ := hI
      have hlen := FSt.len hF
      refine wp_seq_k (fun K10 hK10 => ?_)
      refine wp_seq_k (fun K11 hK11 => ?_)
      refine wp_region_lit ?_
      refine sqv hf (r_move rfl) rfl rfl rfl ?_; clear hf fa; intro fa hf
      refine sqv hf (r_move rfl) rfl rfl rfl ?_; clear hf fa; intro fa hf
      refine sqv hf (r_lensl rfl Try.underlying22) rfl rfl rfl ?_; clear hf fa; intro fa hf
      refine sqv hf (r_lt rfl rfl) rfl rfl rfl ?_; clear hf fa; intro fa hf
      apply wpList_nil
      (try simp only [Exit.then, Exit.inBlock, ↓reduceIte, Nat.reduceEqDiff])
      refine hK11 _ _ ?_
      refine wp_cond_split (t := (decide (((k : Nat) : Int) < ((l.length : Nat) : Int)))) (hf.ev rfl) (fun hqt19_1 => ?_) (fun hqt19_1 => ?_)
      · have hqt19_1b := hqt19_1
        try simp only [decide_eq_true_eq, Bool.and_eq_true, Bool.or_eq_true, Bool.not_eq_true', decide_eq_false_iff_not, ne_eq, Bool.not_eq_true] at hqt19_1
        refine wp_skip ?_
        (try simp only [Exit.then, Exit.inBlock, ↓reduceIte, Nat.reduceEqDiff])
        refine hK10 _ _ ?_
        refine wp_seq_k (fun K12 hK12 => ?_)
        refine wp_block ?_
        refine wp_seq_k (fun K13 hK13 => ?_)
        obtain ⟨y, hy⟩ : ∃ x, l[k]? = some x := ⟨_, List.getElem?_eq_getElem (by omega)⟩
        have hyT := hT y (List.mem_of_getElem? hy)
        refine wp_region_lit ?_
        refine sqv hf (r_move rfl) rfl rfl rfl ?_; clear hf fa; intro fa hf
        refine sqv hf (r_move rfl) rfl rfl rfl ?_; clear hf fa; intro fa hf
        have hy1 : (l)[k]? = some y := hy
        obtain ⟨ab1, aoff1, hat1, hlb1, hel1⟩ := RdS.at hl hy1
        refine sqv hf (r_ixa (sz := 6) (j := k) (evAt rfl hat1) rfl Try.underlying22 (by kernel_rfl) rfl (by omega) rfl) rfl rfl rfl ?_; clear hf fa; intro fa hf
        refine sqv hf (r_fa rfl Try.underlying28 (f := 0) (q := (aoff1 + k * 6)) rfl (by kernel_rfl) rfl) rfl rfl rfl ?_; clear hf fa; intro fa hf
        refine sqv hf (r_load (v := (.int .i64 y.1)) rfl Try.underlying3 rfl (cellsAt_cell (cellsAt_below hel1 hb hlb1) (i := 0) rfl rfl)) rfl rfl rfl ?_; clear hf fa; intro fa hf
        apply wpList_nil
        (try simp only [Exit.then, Exit.inBlock, ↓reduceIte, Nat.reduceEqDiff])
        refine hK13 _ _ ?_
        refine wp_block ?_
        refine wp_seq_k (fun K14 hK14 => ?_)
        refine wp_region_lit ?_
        refine sqv hf (r_eq rfl rfl) rfl rfl rfl ?_; clear hf fa; intro fa hf
        refine sqv hf (r_assign rfl) rfl rfl rfl ?_; clear hf fa; intro fa hf
        apply wpList_nil
        (try simp only [Exit.then, Exit.inBlock, ↓reduceIte, Nat.reduceEqDiff])
        refine hK14 _ _ ?_
        refine wp_cond_split (t := (decide (y.1 = (0 : Int)))) (hf.ev rfl) (fun hqt27_1 => ?_) (fun hqt27_1 => ?_)
        · have hqt27_1b := hqt27_1
          try simp only [decide_eq_true_eq, Bool.and_eq_true, Bool.or_eq_true, Bool.not_eq_true', decide_eq_false_iff_not, ne_eq, Bool.not_eq_true] at hqt27_1
          refine wp_region_unT 17 (fun wq => Below w3.heap.size w3 wq) (fun w w' => Below w.heap.size w w')
            (fun V => [(fun x _ => x = (.pointer (some ⟨pf, 0, none⟩))), (fun x _ => x = (.slice a l.length c)), (fun x _ => x = (.int .i64 ((k : Nat) : Int))), (fun x _ => x = (.pointer (some ⟨ab1, (aoff1 + k * 6), none⟩))), (fun x _ => x = (.pointer (some ⟨ab1, ((aoff1 + k * 6) + 3), none⟩))), (fun x _ => x = (.int .u8 y.2.2.2.1)), (fun x _ => x = (.slice a l.length c)), (fun x _ => x = (.int .i64 ((k : Nat) : Int))), (fun x _ => x = (.pointer (some ⟨ab1, (aoff1 + k * 6), none⟩))), (fun x _ => x = (.pointer (some ⟨ab1, ((aoff1 + k * 6) + 4), none⟩))), (fun x _ => x = (.int .i64 y.2.2.2.2.1)), (fun x _ => x = (.slice a l.length c)), (fun x _ => x = (.int .i64 ((k : Nat) : Int))), (fun x _ => x = (.pointer (some ⟨ab1, (aoff1 + k * 6), none⟩))), (fun x _ => x = (.pointer (some ⟨ab1, ((aoff1 + k * 6) + 5), none⟩))), (fun x _ => x = (.int .u64 y.2.2.2.2.2.1)), (fun x wq => ∃ mk1, x = (.agg #[(.string (kT (y.2.2.2.1).toNat).1), (.string (kT (y.2.2.2.1).toNat).2), (.int .i64 y.2.2.2.2.1), (.string ⟨#[]⟩), (.slice (some ⟨mk1, 0, none⟩) 2 2), (.slice none 0 0), (.slice none 0 0)]))])
            []
            [[], [], [], [1, 2], [3], [4], [], [], [6, 7], [8], [9], [], [], [11, 12], [13], [14], [5, 10, 15], []]
            hf (by kernel_rfl) (by kernel_rfl) (by kernel_rfl) (fun _ => rfl) ((Below.refl _ _).drew) (fun a b h1 h2 => h1.trans (h2.mono h1.size)) (fun _ _ h => h.size) (fun V => ⟨kept_eq, kept_eq, kept_eq, kept_eq, kept_eq, kept_eq, kept_eq, kept_eq, kept_eq, kept_eq, kept_eq, kept_eq, kept_eq, kept_eq, kept_eq, kept_eq, (fun _ _ _ h _ => h), trivial⟩) (fun _ _ _ _ _ => rfl) ?_ ?_
          · skip
            intro V
            refine ⟨fun wu0 hC hd => ?_, ?_⟩
            · clear hd
              replace hb := hb.trans (hC.mono hb.size)
              exact Runs.does (r_move rfl) ⟨Below.refl _ _, rfl, nofr rfl⟩
            refine ⟨fun wu1 hC hd => ?_, ?_⟩
            · clear hd
              replace hb := hb.trans (hC.mono hb.size)
              exact Runs.does (r_move rfl) ⟨Below.refl _ _, rfl, nofr rfl⟩
            refine ⟨fun wu2 hC hd => ?_, ?_⟩
            · clear hd
              replace hb := hb.trans (hC.mono hb.size)
              exact Runs.does (r_move rfl) ⟨Below.refl _ _, rfl, nofr rfl⟩
            refine ⟨fun wu3 hC hd => ?_, ?_⟩
            · obtain ⟨h1, h2, _⟩ := hd
              skip
              skip
              replace h1 : V 1 = (.slice a l.length c) := h1
              replace h2 : V 2 = (.int .i64 ((k : Nat) : Int)) := h2
              replace hb := hb.trans (hC.mono hb.size)
              exact Runs.does (r_ixa (sz := 6) (j := k) (evAt (congrArg some h1) hat1) (congrArg some h2) Try.underlying22 (by kernel_rfl) rfl (by omega) rfl) ⟨Below.refl _ _, rfl, nofr rfl⟩
            refine ⟨fun wu4 hC hd => ?_, ?_⟩
            · obtain ⟨h3, _⟩ := hd
              skip
              replace h3 : V 3 = (.pointer (some ⟨ab1, (aoff1 + k * 6), none⟩)) := h3
              replace hb := hb.trans (hC.mono hb.size)
              exact Runs.does (r_fa (congrArg some h3) Try.underlying28 (f := 3) (q := ((aoff1 + k * 6) + 3)) rfl (by kernel_rfl) rfl) ⟨Below.refl _ _, rfl, nofr rfl⟩
            refine ⟨fun wu5 hC hd => ?_, ?_⟩
            · obtain ⟨h4, _⟩ := hd
              skip
              replace h4 : V 4 = (.pointer (some ⟨ab1, ((aoff1 + k * 6) + 3), none⟩)) := h4
              replace hb := hb.trans (hC.mono hb.size)
              exact Runs.does (r_load (v := (.int .u8 y.2.2.2.1)) (congrArg some h4) Try.underlying5 rfl (cellsAt_cell (cellsAt_below hel1 hb hlb1) (i := 3) rfl rfl)) ⟨Below.refl _ _, rfl, nofr rfl⟩
            refine ⟨fun wu6 hC hd => ?_, ?_⟩
            · clear hd
              replace hb := hb.trans (hC.mono hb.size)
              exact Runs.does (r_move rfl) ⟨Below.refl _ _, rfl, nofr rfl⟩
            refine ⟨fun wu7 hC hd => ?_, ?_⟩
            · clear hd
              replace hb := hb.trans (hC.mono hb.size)
              exact Runs.does (r_move rfl) ⟨Below.refl _ _, rfl, nofr rfl⟩
            refine ⟨fun wu8 hC hd => ?_, ?_⟩
            · obtain ⟨h6, h7, _⟩ := hd
              skip
              skip
              replace h6 : V 6 = (.slice a l.length c) := h6
              replace h7 : V 7 = (.int .i64 ((k : Nat) : Int)) := h7
              replace hb := hb.trans (hC.mono hb.size)
              exact Runs.does (r_ixa (sz := 6) (j := k) (evAt (congrArg some h6) hat1) (congrArg some h7) Try.underlying22 (by kernel_rfl) rfl (by omega) rfl) ⟨Below.refl _ _, rfl, nofr rfl⟩
            refine ⟨fun wu9 hC hd => ?_, ?_⟩
            · obtain ⟨h8, _⟩ := hd
              skip
              replace h8 : V 8 = (.pointer (some ⟨ab1, (aoff1 + k * 6), none⟩)) := h8
              replace hb := hb.trans (hC.mono hb.size)
              exact Runs.does (r_fa (congrArg some h8) Try.underlying28 (f := 4) (q := ((aoff1 + k * 6) + 4)) rfl (by kernel_rfl) rfl) ⟨Below.refl _ _, rfl, nofr rfl⟩
            refine ⟨fun wu10 hC hd => ?_, ?_⟩
            · obtain ⟨h9, _⟩ := hd
              skip
              replace h9 : V 9 = (.pointer (some ⟨ab1, ((aoff1 + k * 6) + 4), none⟩)) := h9
              replace hb := hb.trans (hC.mono hb.size)
              exact Runs.does (r_load (v := (.int .i64 y.2.2.2.2.1)) (congrArg some h9) Try.underlying3 rfl (cellsAt_cell (cellsAt_below hel1 hb hlb1) (i := 4) rfl rfl)) ⟨Below.refl _ _, rfl, nofr rfl⟩
            refine ⟨fun wu11 hC hd => ?_, ?_⟩
            · clear hd
              replace hb := hb.trans (hC.mono hb.size)
              exact Runs.does (r_move rfl) ⟨Below.refl _ _, rfl, nofr rfl⟩
            refine ⟨fun wu12 hC hd => ?_, ?_⟩
            · clear hd
              replace hb := hb.trans (hC.mono hb.size)
              exact Runs.does (r_move rfl) ⟨Below.refl _ _, rfl, nofr rfl⟩
            refine ⟨fun wu13 hC hd => ?_, ?_⟩
            · obtain ⟨h11, h12, _⟩ := hd
              skip
              skip
              replace h11 : V 11 = (.slice a l.length c) := h11
              replace h12 : V 12 = (.int .i64 ((k : Nat) : Int)) := h12
              replace hb := hb.trans (hC.mono hb.size)
              exact Runs.does (r_ixa (sz := 6) (j := k) (evAt (congrArg some h11) hat1) (congrArg some h12) Try.underlying22 (by kernel_rfl) rfl (by omega) rfl) ⟨Below.refl _ _, rfl, nofr rfl⟩
            refine ⟨fun wu14 hC hd => ?_, ?_⟩
            · obtain ⟨h13, _⟩ := hd
              skip
              replace h13 : V 13 = (.pointer (some ⟨ab1, (aoff1 + k * 6), none⟩)) := h13
              replace hb := hb.trans (hC.mono hb.size)
              exact Runs.does (r_fa (congrArg some h13) Try.underlying28 (f := 5) (q := ((aoff1 + k * 6) + 5)) rfl (by kernel_rfl) rfl) ⟨Below.refl _ _, rfl, nofr rfl⟩
            refine ⟨fun wu15 hC hd => ?_, ?_⟩
            · obtain ⟨h14, _⟩ := hd
              skip
              replace h14 : V 14 = (.pointer (some ⟨ab1, ((aoff1 + k * 6) + 5), none⟩)) := h14
              replace hb := hb.trans (hC.mono hb.size)
              exact Runs.does (r_load (v := (.int .u64 y.2.2.2.2.2.1)) (congrArg some h14) Try.underlying26 rfl (cellsAt_cell (cellsAt_below hel1 hb hlb1) (i := 5) rfl rfl)) ⟨Below.refl _ _, rfl, nofr rfl⟩
            refine ⟨fun wu16 hC hd => ?_, ?_⟩
            · obtain ⟨h5, h10, h15, _⟩ := hd
              skip
              skip
              skip
              replace h5 : V 5 = (.int .u8 y.2.2.2.1) := h5
              replace h10 : V 10 = (.int .i64 y.2.2.2.2.1) := h10
              replace h15 : V 15 = (.int .u64 y.2.2.2.2.2.1) := h15
              replace hb := hb.trans (hC.mono hb.size)
              refine Does.mono (d_callX (vs := [(.int .u8 y.2.2.2.1), (.int .i64 y.2.2.2.2.1), (.int .u64 y.2.2.2.2.2.1)]) (show [some (V 5), some (V 10), some (V 15)] = [some (.int .u8 y.2.2.2.1), some (.int .i64 y.2.2.2.2.1), some (.int .u64 y.2.2.2.2.2.1)] from by rw [h5, h10, h15]) Try.func13 (by kernel_rfl) (by kernel_rfl) (made_I y.2.2.2.1 y.2.2.2.2.1 y.2.2.2.2.2.1 _ (by omega))) ?_
              rintro _ w' ⟨k, rfl, hF9⟩
              exact ⟨hF9, ⟨k, rfl⟩, nofr rfl⟩
            trivial
          · skip
            clear hf fa; intro V w4 fa he3 hp hnb hf
            have hv0 : V 0 = (.pointer (some ⟨pf, 0, none⟩)) := postsHold_at hp 0 rfl
            have hv1 : V 1 = (.slice a l.length c) := postsHold_at hp 1 rfl
            have hv2 : V 2 = (.int .i64 ((k : Nat) : Int)) := postsHold_at hp 2 rfl
            have hv3 : V 3 = (.pointer (some ⟨ab1, (aoff1 + k * 6), none⟩)) := postsHold_at hp 3 rfl
            have hv4 : V 4 = (.pointer (some ⟨ab1, ((aoff1 + k * 6) + 3), none⟩)) := postsHold_at hp 4 rfl
            have hv5 : V 5 = (.int .u8 y.2.2.2.1) := postsHold_at hp 5 rfl
            have hv6 : V 6 = (.slice a l.length c) := postsHold_at hp 6 rfl
            have hv7 : V 7 = (.int .i64 ((k : Nat) : Int)) := postsHold_at hp 7 rfl
            have hv8 : V 8 = (.pointer (some ⟨ab1, (aoff1 + k * 6), none⟩)) := postsHold_at hp 8 rfl
            have hv9 : V 9 = (.pointer (some ⟨ab1, ((aoff1 + k * 6) + 4), none⟩)) := postsHold_at hp 9 rfl
            have hv10 : V 10 = (.int .i64 y.2.2.2.2.1) := postsHold_at hp 10 rfl
            have hv11 : V 11 = (.slice a l.length c) := postsHold_at hp 11 rfl
            have hv12 : V 12 = (.int .i64 ((k : Nat) : Int)) := postsHold_at hp 12 rfl
            have hv13 : V 13 = (.pointer (some ⟨ab1, (aoff1 + k * 6), none⟩)) := postsHold_at hp 13 rfl
            have hv14 : V 14 = (.pointer (some ⟨ab1, ((aoff1 + k * 6) + 5), none⟩)) := postsHold_at hp 14 rfl
            have hv15 : V 15 = (.int .u64 y.2.2.2.2.2.1) := postsHold_at hp 15 rfl
            have hv16 := postsHold_at hp 16 rfl
            obtain ⟨mk1, hv16⟩ := hv16
            skip
            simp only [List.take_succ_cons, List.take_zero, insAll, ins, hv0, hv1, hv2, hv3, hv4, hv5, hv6, hv7, hv8, hv9, hv10, hv11, hv12, hv13, hv14, hv15, hv16] at hf
            clear hp hnb hv0 hv1 hv2 hv3 hv4 hv5 hv6 hv7 hv8 hv9 hv10 hv11 hv12 hv13 hv14 hv15 hv16
            replace hb := hb.trans (Below.mono he3 hb.size)
            replace hF := hF.ext he3
            simp only [List.drop_succ_cons, List.drop_zero]
            refine sqdt hf (d_callX (vs := [(.pointer (some ⟨pf, 0, none⟩)), (.agg #[(.string (kT (y.2.2.2.1).toNat).1), (.string (kT (y.2.2.2.1).toNat).2), (.int .i64 y.2.2.2.2.1), (.string ⟨#[]⟩), (.slice (some ⟨mk1, 0, none⟩) 2 2), (.slice none 0 0), (.slice none 0 0)])]) rfl Try.func12 (by kernel_rfl) (by kernel_rfl) (add_F hb hF ((kT (y.2.2.2.1).toNat).1, (kT (y.2.2.2.1).toNat).2, y.2.2.2.2.1, some (⟨mk1, 0, none⟩ : Addr), 2) (by omega))) rfl rfl rfl ?_; clear hf fa; rintro fa _ w5 ⟨rfl, hF2, hb2⟩ hf; clear hF; have hF : FSt w.heap.size w5 pf (L ++ [some ((kT (y.2.2.2.1).toNat).1, (kT (y.2.2.2.1).toNat).2, y.2.2.2.2.1, some (⟨mk1, 0, none⟩ : Addr), 2)]) (Sl_ ++ [((L.length : Nat) : Int)]) := hF2; clear hF2; replace hb := hb2; clear hb2
            apply wpList_nil
            (try simp only [Exit.then, Exit.inBlock, ↓reduceIte, Nat.reduceEqDiff])
            refine hK12 _ _ ?_
            refine wp_region_lit ?_
            refine sqv hf (r_move rfl) rfl rfl rfl ?_; clear hf fa; intro fa hf
            refine sqv hf (r_add (C := (((k : Nat) : Int) + (1 : Int))) rfl rfl (by rw [IntKind.wrap_i64]; omega)) rfl rfl rfl ?_; clear hf fa; intro fa hf
            refine sqv hf (r_assign rfl) rfl rfl rfl ?_; clear hf fa; intro fa hf
            apply wpList_nil
            (try simp only [Exit.then, Exit.inBlock, ↓reduceIte, Nat.reduceEqDiff])
            refine hKL1 _ _ _ (by omega) ⟨(k + 1), (L ++ [some ((kT (y.2.2.2.1).toNat).1, (kT (y.2.2.2.1).toNat).2, y.2.2.2.2.1, some (⟨mk1, 0, none⟩ : Addr), 2)]), (Sl_ ++ [((L.length : Nat) : Int)]), rfl, hf.sub ⟨rfl, rfl, (some_int (by first | rfl | omega)), trivial⟩, hb, by omega, by rw [List.length_append, List.length_singleton]; omega, TI.add hTI hlen _, hF⟩
        · have hqt27_1b := hqt27_1
          replace hqt27_1 := Bool.eq_false_iff.1 hqt27_1
          try simp only [ne_eq, decide_eq_true_eq, Bool.and_eq_true, Bool.or_eq_true, Bool.not_eq_true', decide_eq_false_iff_not] at hqt27_1
          refine wp_seq_k (fun K15 hK15 => ?_)
          refine wp_region_lit ?_
          refine sqv hf (r_eq rfl rfl) rfl rfl rfl ?_; clear hf fa; intro fa hf
          refine sqv hf (r_assign rfl) rfl rfl rfl ?_; clear hf fa; intro fa hf
          apply wpList_nil
          (try simp only [Exit.then, Exit.inBlock, ↓reduceIte, Nat.reduceEqDiff])
          refine hK15 _ _ ?_
          refine wp_cond_split (t := (decide (y.1 = (1 : Int)))) (hf.ev rfl) (fun hqt47_1 => ?_) (fun hqt47_1 => ?_)
          · have hqt47_1b := hqt47_1
            try simp only [decide_eq_true_eq, Bool.and_eq_true, Bool.or_eq_true, Bool.not_eq_true', decide_eq_false_iff_not, ne_eq, Bool.not_eq_true] at hqt47_1
            refine wp_region_unT 11 (fun wq => Below w3.heap.size w3 wq) (fun w w' => Below w.heap.size w w')
              (fun V => [(fun x _ => x = (.pointer (some ⟨pf, 0, none⟩))), (fun x _ => x = (.slice a l.length c)), (fun x _ => x = (.int .i64 ((k : Nat) : Int))), (fun x _ => x = (.pointer (some ⟨ab1, (aoff1 + k * 6), none⟩))), (fun x _ => x = (.pointer (some ⟨ab1, ((aoff1 + k * 6) + 1), none⟩))), (fun x _ => x = (.int .i64 y.2.1)), (fun x _ => x = (.slice a l.length c)), (fun x _ => x = (.int .i64 ((k : Nat) : Int))), (fun x _ => x = (.pointer (some ⟨ab1, (aoff1 + k * 6), none⟩))), (fun x _ => x = (.pointer (some ⟨ab1, ((aoff1 + k * 6) + 2), none⟩))), (fun x _ => x = (.int .i64 y.2.2.1))])
              []
              [[], [], [], [1, 2], [3], [4], [], [], [6, 7], [8], [9], []]
              hf (by kernel_rfl) (by kernel_rfl) (by kernel_rfl) (fun _ => rfl) ((Below.refl _ _).drew) (fun a b h1 h2 => h1.trans (h2.mono h1.size)) (fun _ _ h => h.size) (fun V => ⟨kept_eq, kept_eq, kept_eq, kept_eq, kept_eq, kept_eq, kept_eq, kept_eq, kept_eq, kept_eq, kept_eq, trivial⟩) (fun _ _ _ _ _ => rfl) ?_ ?_
            · skip
              intro V
              refine ⟨fun wu0 hC hd => ?_, ?_⟩
              · clear hd
                replace hb := hb.trans (hC.mono hb.size)
                exact Runs.does (r_move rfl) ⟨Below.refl _ _, rfl, nofr rfl⟩
              refine ⟨fun wu1 hC hd => ?_, ?_⟩
              · clear hd
                replace hb := hb.trans (hC.mono hb.size)
                exact Runs.does (r_move rfl) ⟨Below.refl _ _, rfl, nofr rfl⟩
              refine ⟨fun wu2 hC hd => ?_, ?_⟩
              · clear hd
                replace hb := hb.trans (hC.mono hb.size)
                exact Runs.does (r_move rfl) ⟨Below.refl _ _, rfl, nofr rfl⟩
              refine ⟨fun wu3 hC hd => ?_, ?_⟩
              · obtain ⟨h1, h2, _⟩ := hd
                skip
                skip
                replace h1 : V 1 = (.slice a l.length c) := h1
                replace h2 : V 2 = (.int .i64 ((k : Nat) : Int)) := h2
                replace hb := hb.trans (hC.mono hb.size)
                exact Runs.does (r_ixa (sz := 6) (j := k) (evAt (congrArg some h1) hat1) (congrArg some h2) Try.underlying22 (by kernel_rfl) rfl (by omega) rfl) ⟨Below.refl _ _, rfl, nofr rfl⟩
              refine ⟨fun wu4 hC hd => ?_, ?_⟩
              · obtain ⟨h3, _⟩ := hd
                skip
                replace h3 : V 3 = (.pointer (some ⟨ab1, (aoff1 + k * 6), none⟩)) := h3
                replace hb := hb.trans (hC.mono hb.size)
                exact Runs.does (r_fa (congrArg some h3) Try.underlying28 (f := 1) (q := ((aoff1 + k * 6) + 1)) rfl (by kernel_rfl) rfl) ⟨Below.refl _ _, rfl, nofr rfl⟩
              refine ⟨fun wu5 hC hd => ?_, ?_⟩
              · obtain ⟨h4, _⟩ := hd
                skip
                replace h4 : V 4 = (.pointer (some ⟨ab1, ((aoff1 + k * 6) + 1), none⟩)) := h4
                replace hb := hb.trans (hC.mono hb.size)
                exact Runs.does (r_load (v := (.int .i64 y.2.1)) (congrArg some h4) Try.underlying3 rfl (cellsAt_cell (cellsAt_below hel1 hb hlb1) (i := 1) rfl rfl)) ⟨Below.refl _ _, rfl, nofr rfl⟩
              refine ⟨fun wu6 hC hd => ?_, ?_⟩
              · clear hd
                replace hb := hb.trans (hC.mono hb.size)
                exact Runs.does (r_move rfl) ⟨Below.refl _ _, rfl, nofr rfl⟩
              refine ⟨fun wu7 hC hd => ?_, ?_⟩
              · clear hd
                replace hb := hb.trans (hC.mono hb.size)
                exact Runs.does (r_move rfl) ⟨Below.refl _ _, rfl, nofr rfl⟩
              refine ⟨fun wu8 hC hd => ?_, ?_⟩
              · obtain ⟨h6, h7, _⟩ := hd
                skip
                skip
                replace h6 : V 6 = (.slice a l.length c) := h6
                replace h7 : V 7 = (.int .i64 ((k : Nat) : Int)) := h7
                replace hb := hb.trans (hC.mono hb.size)
                exact Runs.does (r_ixa (sz := 6) (j := k) (evAt (congrArg some h6) hat1) (congrArg some h7) Try.underlying22 (by kernel_rfl) rfl (by omega) rfl) ⟨Below.refl _ _, rfl, nofr rfl⟩
              refine ⟨fun wu9 hC hd => ?_, ?_⟩
              · obtain ⟨h8, _⟩ := hd
                skip
                replace h8 : V 8 = (.pointer (some ⟨ab1, (aoff1 + k * 6), none⟩)) := h8
                replace hb := hb.trans (hC.mono hb.size)
                exact Runs.does (r_fa (congrArg some h8) Try.underlying28 (f := 2) (q := ((aoff1 + k * 6) + 2)) rfl (by kernel_rfl) rfl) ⟨Below.refl _ _, rfl, nofr rfl⟩
              refine ⟨fun wu10 hC hd => ?_, ?_⟩
              · obtain ⟨h9, _⟩ := hd
                skip
                replace h9 : V 9 = (.pointer (some ⟨ab1, ((aoff1 + k * 6) + 2), none⟩)) := h9
                replace hb := hb.trans (hC.mono hb.size)
                exact Runs.does (r_load (v := (.int .i64 y.2.2.1)) (congrArg some h9) Try.underlying3 rfl (cellsAt_cell (cellsAt_below hel1 hb hlb1) (i := 2) rfl rfl)) ⟨Below.refl _ _, rfl, nofr rfl⟩
              trivial
            · skip
              clear hf fa; intro V w6 fa he4 hp hnb hf
              have hv0 : V 0 = (.pointer (some ⟨pf, 0, none⟩)) := postsHold_at hp 0 rfl
              have hv1 : V 1 = (.slice a l.length c) := postsHold_at hp 1 rfl
              have hv2 : V 2 = (.int .i64 ((k : Nat) : Int)) := postsHold_at hp 2 rfl
              have hv3 : V 3 = (.pointer (some ⟨ab1, (aoff1 + k * 6), none⟩)) := postsHold_at hp 3 rfl
              have hv4 : V 4 = (.pointer (some ⟨ab1, ((aoff1 + k * 6) + 1), none⟩)) := postsHold_at hp 4 rfl
              have hv5 : V 5 = (.int .i64 y.2.1) := postsHold_at hp 5 rfl
              have hv6 : V 6 = (.slice a l.length c) := postsHold_at hp 6 rfl
              have hv7 : V 7 = (.int .i64 ((k : Nat) : Int)) := postsHold_at hp 7 rfl
              have hv8 : V 8 = (.pointer (some ⟨ab1, (aoff1 + k * 6), none⟩)) := postsHold_at hp 8 rfl
              have hv9 : V 9 = (.pointer (some ⟨ab1, ((aoff1 + k * 6) + 2), none⟩)) := postsHold_at hp 9 rfl
              have hv10 : V 10 = (.int .i64 y.2.2.1) := postsHold_at hp 10 rfl
              simp only [List.take_succ_cons, List.take_zero, insAll, ins, hv0, hv1, hv2, hv3, hv4, hv5, hv6, hv7, hv8, hv9, hv10] at hf
              clear hp hnb hv0 hv1 hv2 hv3 hv4 hv5 hv6 hv7 hv8 hv9 hv10
              replace hb := hb.trans (Below.mono he4 hb.size)
              replace hF := hF.ext he4
              simp only [List.drop_succ_cons, List.drop_zero]
              refine sqdt hf (d_callX (vs := [(.pointer (some ⟨pf, 0, none⟩)), (.int .i64 y.2.1), (.int .i64 y.2.2.1)]) rfl Try.func14 (by kernel_rfl) (by kernel_rfl) (swap_F hb hF y.2.1 y.2.2.1)) rfl rfl rfl ?_; clear hf fa; rintro fa _ w7 ⟨rfl, hF2, hb2⟩ hf; clear hF; have hF : FSt w.heap.size w7 pf L (swR L Sl_ y.2.1 y.2.2.1).2.2 := hF2; clear hF2; replace hb := hb2; clear hb2
              apply wpList_nil
              (try simp only [Exit.then, Exit.inBlock, ↓reduceIte, Nat.reduceEqDiff])
              refine hK12 _ _ ?_
              refine wp_region_lit ?_
              refine sqv hf (r_move rfl) rfl rfl rfl ?_; clear hf fa; intro fa hf
              refine sqv hf (r_add (C := (((k : Nat) : Int) + (1 : Int))) rfl rfl (by rw [IntKind.wrap_i64]; omega)) rfl rfl rfl ?_; clear hf fa; intro fa hf
              refine sqv hf (r_assign rfl) rfl rfl rfl ?_; clear hf fa; intro fa hf
              apply wpList_nil
              (try simp only [Exit.then, Exit.inBlock, ↓reduceIte, Nat.reduceEqDiff])
              refine hKL1 _ _ _ (by omega) ⟨(k + 1), L, (swR L Sl_ y.2.1 y.2.2.1).2.2, rfl, hf.sub ⟨rfl, rfl, (some_int (by first | rfl | omega)), trivial⟩, hb, by omega, by omega, TI.swap hTI hlen y.2.1 y.2.2.1, hF⟩
          · have hqt47_1b := hqt47_1
            replace hqt47_1 := Bool.eq_false_iff.1 hqt47_1
            try simp only [ne_eq, decide_eq_true_eq, Bool.and_eq_true, Bool.or_eq_true, Bool.not_eq_true', decide_eq_false_iff_not] at hqt47_1
            refine wp_seq_k (fun K16 hK16 => ?_)
            refine wp_region_lit ?_
            refine sqv hf (r_eq rfl rfl) rfl rfl rfl ?_; clear hf fa; intro fa hf
            refine sqv hf (r_assign rfl) rfl rfl rfl ?_; clear hf fa; intro fa hf
            apply wpList_nil
            (try simp only [Exit.then, Exit.inBlock, ↓reduceIte, Nat.reduceEqDiff])
            refine hK16 _ _ ?_
            refine wp_cond_split (t := (decide (y.1 = (2 : Int)))) (hf.ev rfl) (fun hqt61_1 => ?_) (fun hqt61_1 => ?_)
            · have hqt61_1b := hqt61_1
              try simp only [decide_eq_true_eq, Bool.and_eq_true, Bool.or_eq_true, Bool.not_eq_true', decide_eq_false_iff_not, ne_eq, Bool.not_eq_true] at hqt61_1
              refine wp_region_lit ?_
              refine sqv hf (r_move rfl) rfl rfl rfl ?_; clear hf fa; intro fa hf
              refine sqv hf (r_move rfl) rfl rfl rfl ?_; clear hf fa; intro fa hf
              refine sqv hf (r_move rfl) rfl rfl rfl ?_; clear hf fa; intro fa hf
              refine sqv hf (r_ixa (sz := 6) (j := k) (evAt rfl hat1) rfl Try.underlying22 (by kernel_rfl) rfl (by omega) rfl) rfl rfl rfl ?_; clear hf fa; intro fa hf
              refine sqv hf (r_fa rfl Try.underlying28 (f := 1) (q := ((aoff1 + k * 6) + 1)) rfl (by kernel_rfl) rfl) rfl rfl rfl ?_; clear hf fa; intro fa hf
              refine sqv hf (r_load (v := (.int .i64 y.2.1)) rfl Try.underlying3 rfl (cellsAt_cell (cellsAt_below hel1 hb hlb1) (i := 1) rfl rfl)) rfl rfl rfl ?_; clear hf fa; intro fa hf
              refine sqdt hf (d_callX (vs := [(.pointer (some ⟨pf, 0, none⟩)), (.int .i64 y.2.1)]) rfl Try.func15 (by kernel_rfl) (by kernel_rfl) (free_F hb hF y.2.1)) rfl rfl rfl ?_; clear hf fa; rintro fa _ w8 ⟨rfl, hF2, hb2⟩ hf; clear hF; have hF : FSt w.heap.size w8 pf (frL L y.2.1) (frS L Sl_ y.2.1) := hF2; clear hF2; replace hb := hb2; clear hb2
              apply wpList_nil
              (try simp only [Exit.then, Exit.inBlock, ↓reduceIte, Nat.reduceEqDiff])
              refine hK12 _ _ ?_
              refine wp_region_lit ?_
              refine sqv hf (r_move rfl) rfl rfl rfl ?_; clear hf fa; intro fa hf
              refine sqv hf (r_add (C := (((k : Nat) : Int) + (1 : Int))) rfl rfl (by rw [IntKind.wrap_i64]; omega)) rfl rfl rfl ?_; clear hf fa; intro fa hf
              refine sqv hf (r_assign rfl) rfl rfl rfl ?_; clear hf fa; intro fa hf
              apply wpList_nil
              (try simp only [Exit.then, Exit.inBlock, ↓reduceIte, Nat.reduceEqDiff])
              refine hKL1 _ _ _ (by omega) ⟨(k + 1), (frL L y.2.1), (frS L Sl_ y.2.1), rfl, hf.sub ⟨rfl, rfl, (some_int (by first | rfl | omega)), trivial⟩, hb, by omega, by rw [frL_len]; omega, TI.free hTI y.2.1, hF⟩
            · have hqt61_1b := hqt61_1
              replace hqt61_1 := Bool.eq_false_iff.1 hqt61_1
              try simp only [ne_eq, decide_eq_true_eq, Bool.and_eq_true, Bool.or_eq_true, Bool.not_eq_true', decide_eq_false_iff_not] at hqt61_1
              refine wp_skip ?_
              (try simp only [Exit.then, Exit.inBlock, ↓reduceIte, Nat.reduceEqDiff])
              refine hK12 _ _ ?_
              refine wp_region_lit ?_
              refine sqv hf (r_move rfl) rfl rfl rfl ?_; clear hf fa; intro fa hf
              refine sqv hf (r_add (C := (((k : Nat) : Int) + (1 : Int))) rfl rfl (by rw [IntKind.wrap_i64]; omega)) rfl rfl rfl ?_; clear hf fa; intro fa hf
              refine sqv hf (r_assign rfl) rfl rfl rfl ?_; clear hf fa; intro fa hf
              apply wpList_nil
              (try simp only [Exit.then, Exit.inBlock, ↓reduceIte, Nat.reduceEqDiff])
              refine hKL1 _ _ _ (by omega) ⟨(k + 1), L, Sl_, rfl, hf.sub ⟨rfl, rfl, (some_int (by first | rfl | omega)), trivial⟩, hb, by omega, by omega, hTI, hF⟩
      · have hqt19_1b := hqt19_1
        replace hqt19_1 := Bool.eq_false_iff.1 hqt19_1
        try simp only [ne_eq, decide_eq_true_eq, Bool.and_eq_true, Bool.or_eq_true, Bool.not_eq_true', decide_eq_false_iff_not] at hqt19_1
        refine wp_exit ?_
        (try simp only [Exit.then, Exit.inBlock, ↓reduceIte, Nat.reduceEqDiff])
        refine hK8 _ _ ?_
        refine wp_seq_k (fun K17 hK17 => ?_)
        refine wp_seq_k (fun K18 hK18 => ?_)
        refine wp_region_lit ?_
        refine sqv hf (r_assign rfl) rfl rfl rfl ?_; clear hf fa; intro fa hf
        apply wpList_nil
        (try simp only [Exit.then, Exit.inBlock, ↓reduceIte, Nat.reduceEqDiff])
        refine hK18 _ _ ?_
        refine wp_block ?_
        refine wp_loop_k (fun mq fa wr => ∃ (m : Nat), mq = l.length - m ∧ Fr 105 fa [(0, (.slice a l.length c)), (3, (.pointer (some ⟨pf, 0, none⟩))), (5, (.int .i64 ((m : Nat) : Int)))] ∧ Below w.heap.size w wr ∧ (m ≤ l.length) ∧ (FSt w.heap.size wr pf L Sl_)) ?_ ?_
        · skip
          exact ⟨_, 0, rfl, hf.sub ⟨rfl, rfl, (some_int (by first | rfl | omega)), trivial⟩, hb, by omega, hF⟩
        · skip
          clear hf fa; intro mq2 fa w9 hI KL2 hKL2
          clear hb
          obtain ⟨m, hmq2, hf, hb, hm, hF⟩ := hI
          have hbF : Below w9.heap.size w9 w9 := Below.refl _ _
          refine wp_seq_k (fun K19 hK19 => ?_)
          refine wp_seq_k (fun K20 hK20 => ?_)
          refine wp_region_lit ?_
          refine sqv hf (r_move rfl) rfl rfl rfl ?_; clear hf fa; intro fa hf
          refine sqv hf (r_move rfl) rfl rfl rfl ?_; clear hf fa; intro fa hf
          refine sqv hf (r_lensl rfl Try.underlying22) rfl rfl rfl ?_; clear hf fa; intro fa hf
          refine sqv hf (r_lt rfl rfl) rfl rfl rfl ?_; clear hf fa; intro fa hf
          apply wpList_nil
          (try simp only [Exit.then, Exit.inBlock, ↓reduceIte, Nat.reduceEqDiff])
          refine hK20 _ _ ?_
          refine wp_cond_split (t := (decide (((m : Nat) : Int) < ((l.length : Nat) : Int)))) (hf.ev rfl) (fun hqt73_1 => ?_) (fun hqt73_1 => ?_)
          · have hqt73_1b := hqt73_1
            try simp only [decide_eq_true_eq, Bool.and_eq_true, Bool.or_eq_true, Bool.not_eq_true', decide_eq_false_iff_not, ne_eq, Bool.not_eq_true] at hqt73_1
            refine wp_skip ?_
            (try simp only [Exit.then, Exit.inBlock, ↓reduceIte, Nat.reduceEqDiff])
            refine hK19 _ _ ?_
            refine wp_seq_k (fun K21 hK21 => ?_)
            refine wp_block ?_
            refine wp_seq_k (fun K22 hK22 => ?_)
            refine wp_region_lit ?_
            refine sqv hf (r_move rfl) rfl rfl rfl ?_; clear hf fa; intro fa hf
            refine sqv hf (r_move rfl) rfl rfl rfl ?_; clear hf fa; intro fa hf
            refine sqdt hf (d_callB (vs := [(.pointer (some ⟨pf, 0, none⟩)), (.int .i64 ((m : Nat) : Int))]) rfl Try.func16 (by kernel_rfl) (by kernel_rfl) (get_F (hF.ext hbF) ((m : Nat) : Int))) rfl rfl rfl ?_; clear hf fa; rintro fa _ w10 ⟨rfl, he5⟩ hf
            replace hbF := hbF.trans (Below.mono he5 hbF.size)
            replace hb := hb.trans (Below.mono he5 hb.size)
            refine sqv hf (r_move rfl) rfl rfl rfl ?_; clear hf fa; intro fa hf
            refine sqv hf (r_extract rfl (i := 0) rfl) rfl rfl rfl ?_; clear hf fa; intro fa hf
            refine sqv hf (r_extract rfl (i := 1) rfl) rfl rfl rfl ?_; clear hf fa; intro fa hf
            refine sqdt hf (d_alloc (z := (.agg #[(.string ⟨#[]⟩), (.string ⟨#[]⟩), (.int .i64 (0 : Int)), (.string ⟨#[]⟩), (.slice none 0 0), (.slice none 0 0), (.slice none 0 0)])) (cs := #[(.string ⟨#[]⟩), (.string ⟨#[]⟩), (.int .i64 (0 : Int)), (.string ⟨#[]⟩), (.slice none 0 0), (.slice none 0 0), (.slice none 0 0)]) (by kernel_rfl) rfl) rfl rfl rfl ?_; clear hf fa; rintro fa _ w11 ⟨b1, rfl, hle1, hk1, he6⟩ hf
            have hBb1 : w.heap.size ≤ b1 := Nat.le_trans hb.size hle1
            have hUhbFb1 := Nat.le_trans hbF.size hle1
            replace hbF := hbF.trans (Below.mono he6 hbF.size)
            replace hb := hb.trans (Below.mono he6 hb.size)
            refine sqn hf (d_storeK (T := 37) (v := (.agg #[(.string (gotL L ((m : Nat) : Int)).1), (.string (gotL L ((m : Nat) : Int)).2.1), (.int .i64 ((gotL L ((m : Nat) : Int)).2.2.1)), (.string ⟨#[]⟩), (.slice (gotL L ((m : Nat) : Int)).2.2.2.1 ((gotL L ((m : Nat) : Int)).2.2.2.2) (gotL L ((m : Nat) : Int)).2.2.2.2), (.slice none 0 0), (.slice none 0 0)])) (cs := #[(.string ⟨#[]⟩), (.string ⟨#[]⟩), (.int .i64 (0 : Int)), (.string ⟨#[]⟩), (.slice none 0 0), (.slice none 0 0), (.slice none 0 0)]) (cs' := #[(.string (gotL L ((m : Nat) : Int)).1), (.string (gotL L ((m : Nat) : Int)).2.1), (.int .i64 ((gotL L ((m : Nat) : Int)).2.2.1)), (.string ⟨#[]⟩), (.slice (gotL L ((m : Nat) : Int)).2.2.2.1 ((gotL L ((m : Nat) : Int)).2.2.2.2) (gotL L ((m : Nat) : Int)).2.2.2.2), (.slice none 0 0), (.slice none 0 0)]) rfl rfl (by kernel_rfl) (by kernel_rfl) hk1 (by kernel_rfl) (by kernel_rfl)) rfl rfl ?_; clear hf fa; rintro fa _ w12 ⟨hk2, hg1⟩ hf
            replace hbF := hbF.trans (grown_below hg1 hbF.size (by omega))
            replace hb := hb.trans (grown_below hg1 hb.size hBb1)
            refine sqv hf (r_assign rfl) rfl rfl rfl ?_; clear hf fa; intro fa hf
            apply wpList_nil
            (try simp only [Exit.then, Exit.inBlock, ↓reduceIte, Nat.reduceEqDiff])
            refine hK22 _ _ ?_
            refine wp_seq_k (fun K23 hK23 => ?_)
            refine wp_region_lit ?_
            refine sqv hf (r_move rfl) rfl rfl rfl ?_; clear hf fa; intro fa hf
            refine sqv hf (r_move rfl) rfl rfl rfl ?_; clear hf fa; intro fa hf
            refine sqdt hf (d_callB (vs := [(.pointer (some ⟨pf, 0, none⟩)), (.int .i64 ((m : Nat) : Int))]) rfl Try.func17 (by kernel_rfl) (by kernel_rfl) (called_any w.heap.size pf L Sl_ _ (hF.ext hbF) ((m : Nat) : Int))) rfl rfl rfl ?_; clear hf fa; rintro fa _ w13 ⟨rfl, he7⟩ hf
            replace hk2 := blk_ext hk2 he7
            replace hbF := hbF.trans (Below.mono he7 hbF.size)
            replace hb := hb.trans (Below.mono he7 hb.size)
            refine sqv hf (r_move rfl) rfl rfl rfl ?_; clear hf fa; intro fa hf
            refine sqv hf (r_extract rfl (i := 0) rfl) rfl rfl rfl ?_; clear hf fa; intro fa hf
            refine sqv hf (r_extract rfl (i := 1) rfl) rfl rfl rfl ?_; clear hf fa; intro fa hf
            refine sqdt hf (d_alloc (z := (.agg #[(.string ⟨#[]⟩), (.string ⟨#[]⟩), (.int .i64 (0 : Int)), (.string ⟨#[]⟩), (.slice none 0 0), (.slice none 0 0), (.slice none 0 0)])) (cs := #[(.string ⟨#[]⟩), (.string ⟨#[]⟩), (.int .i64 (0 : Int)), (.string ⟨#[]⟩), (.slice none 0 0), (.slice none 0 0), (.slice none 0 0)]) (by kernel_rfl) rfl) rfl rfl rfl ?_; clear hf fa; rintro fa _ w14 ⟨b2, rfl, hle2, hk3, he8⟩ hf
            have hBb2 : w.heap.size ≤ b2 := Nat.le_trans hb.size hle2
            have : b1 < b2 := Nat.lt_of_lt_of_le (blk_lt hk2) hle2
            have hUhbFb2 := Nat.le_trans hbF.size hle2
            replace hk2 := blk_ext hk2 he8
            replace hbF := hbF.trans (Below.mono he8 hbF.size)
            replace hb := hb.trans (Below.mono he8 hb.size)
            refine sqn hf (d_storeK (T := 37) (v := (.agg #[(.string (callL L Sl_ ((m : Nat) : Int)).1.1), (.string (callL L Sl_ ((m : Nat) : Int)).1.2.1), (.int .i64 ((callL L Sl_ ((m : Nat) : Int)).1.2.2.1)), (.string ⟨#[]⟩), (.slice (callL L Sl_ ((m : Nat) : Int)).1.2.2.2.1 ((callL L Sl_ ((m : Nat) : Int)).1.2.2.2.2) (callL L Sl_ ((m : Nat) : Int)).1.2.2.2.2), (.slice none 0 0), (.slice none 0 0)])) (cs := #[(.string ⟨#[]⟩), (.string ⟨#[]⟩), (.int .i64 (0 : Int)), (.string ⟨#[]⟩), (.slice none 0 0), (.slice none 0 0), (.slice none 0 0)]) (cs' := #[(.string (callL L Sl_ ((m : Nat) : Int)).1.1), (.string (callL L Sl_ ((m : Nat) : Int)).1.2.1), (.int .i64 ((callL L Sl_ ((m : Nat) : Int)).1.2.2.1)), (.string ⟨#[]⟩), (.slice (callL L Sl_ ((m : Nat) : Int)).1.2.2.2.1 ((callL L Sl_ ((m : Nat) : Int)).1.2.2.2.2) (callL L Sl_ ((m : Nat) : Int)).1.2.2.2.2), (.slice none 0 0), (.slice none 0 0)]) rfl rfl (by kernel_rfl) (by kernel_rfl) hk3 (by kernel_rfl) (by kernel_rfl)) rfl rfl ?_; clear hf fa; rintro fa _ w15 ⟨hk4, hg2⟩ hf
            replace hk2 := blk_grown hk2 hg2 (by omega)
            replace hbF := hbF.trans (grown_below hg2 hbF.size (by omega))
            replace hb := hb.trans (grown_below hg2 hb.size hBb2)
            refine sqv hf (r_assign rfl) rfl rfl rfl ?_; clear hf fa; intro fa hf
            apply wpList_nil
            (try simp only [Exit.then, Exit.inBlock, ↓reduceIte, Nat.reduceEqDiff])
            refine hK23 _ _ ?_
            refine wp_seq_k (fun K24 hK24 => ?_)
            refine wp_region_lit ?_
            refine sqv hf (r_move rfl) rfl rfl rfl ?_; clear hf fa; intro fa hf
            refine sqv hf (r_not rfl) rfl rfl rfl ?_; clear hf fa; intro fa hf
            refine sqv hf (r_move rfl) rfl rfl rfl ?_; clear hf fa; intro fa hf
            refine sqgT (act := (!(liveL L ((m : Nat) : Int)))) (ag := true) (c := (!(liveL L ((m : Nat) : Int)))) (v := (.int .i64 ((callL L Sl_ ((m : Nat) : Int)).2))) hf rfl rfl rfl (fun hact => (r_move rfl)) rfl rfl ?_; clear hf fa; intro fa hf
            refine sqgT (act := (!(liveL L ((m : Nat) : Int)))) (ag := true) (c := (!(liveL L ((m : Nat) : Int)))) (v := (.bool (decide (((callL L Sl_ ((m : Nat) : Int)).2) ≠ (47 : Int))))) hf rfl rfl rfl (fun hact => (r_ne (gb_ev hact rfl) rfl)) rfl rfl ?_; clear hf fa; intro fa hf
            refine sqv hf (Runs.veq (r_pickA (b := (!(liveL L ((m : Nat) : Int)))) (e := (decide (((callL L Sl_ ((m : Nat) : Int)).2) ≠ (47 : Int)))) rfl rfl rfl) (congrArg Value.bool (show _ = false from (by cases hz : liveL L ((m : Nat) : Int) <;> simp [call_one, hz])))) rfl rfl rfl ?_; clear hf fa; intro fa hf
            refine sqv hf (r_move rfl) rfl rfl rfl ?_; clear hf fa; intro fa hf
            refine sqgd (act := true) (g := 6) (want := false) (ag := true) (c := false) hf (by rfl) (by rfl) rfl (fun _ =>  Runs.does (R := fun vq wq => vq = (.int .i64 ((callL L Sl_ ((m : Nat) : Int)).2)) ∧ w15 = wq) (r_move rfl) ⟨rfl, rfl⟩) (fun h => by cases h) rfl ?_; clear hf fa; rintro fa _ _ ⟨rfl, rfl⟩ hf
            change Fr _ _ ((95, (.int .i64 ((callL L Sl_ ((m : Nat) : Int)).2))) :: _) at hf
            refine sqgd (act := true) (g := 6) (want := false) (ag := true) (c := false) hf (by rfl) (by rfl) rfl (fun _ =>  Runs.does (R := fun vq wq => vq = (.bool (decide (((callL L Sl_ ((m : Nat) : Int)).2) = (0 : Int)))) ∧ w15 = wq) (r_eq rfl rfl) ⟨rfl, rfl⟩) (fun h => by cases h) rfl ?_; clear hf fa; rintro fa _ _ ⟨rfl, rfl⟩ hf
            change Fr _ _ ((96, (.bool (decide (((callL L Sl_ ((m : Nat) : Int)).2) = (0 : Int))))) :: _) at hf
            refine sqgd (act := true) (g := 6) (want := false) (ag := true) (c := false) hf (by rfl) (by rfl) rfl (fun _ =>  Runs.does (R := fun vq wq => vq = (.bool (decide (((callL L Sl_ ((m : Nat) : Int)).2) = (0 : Int)))) ∧ w15 = wq) (r_move rfl) ⟨rfl, rfl⟩) (fun h => by cases h) rfl ?_; clear hf fa; rintro fa _ _ ⟨rfl, rfl⟩ hf
            change Fr _ _ ((97, (.bool (decide (((callL L Sl_ ((m : Nat) : Int)).2) = (0 : Int))))) :: _) at hf
            refine sqgT (act := (decide (((callL L Sl_ ((m : Nat) : Int)).2) = (0 : Int)))) (ag := true) (c := (decide (((callL L Sl_ ((m : Nat) : Int)).2) = (0 : Int)))) (v := (.pointer (some ⟨b1, 0, none⟩))) hf rfl rfl rfl (fun hact => (r_fa rfl Try.underlying37 (f := 0) (q := 0) rfl (by kernel_rfl) rfl)) rfl rfl ?_; clear hf fa; intro fa hf
            refine sqgT (act := (decide (((callL L Sl_ ((m : Nat) : Int)).2) = (0 : Int)))) (ag := true) (c := (decide (((callL L Sl_ ((m : Nat) : Int)).2) = (0 : Int)))) (v := (.agg #[(.string (gotL L ((m : Nat) : Int)).1), (.string (gotL L ((m : Nat) : Int)).2.1)])) hf rfl rfl rfl (fun hact => (r_loadA (cs := [(.string (gotL L ((m : Nat) : Int)).1), (.string (gotL L ((m : Nat) : Int)).2.1)]) (gb_ev hact rfl) Try.underlying31 rfl (by kernel_rfl) (cellsAt_part (d := 0) (n := 2) (cellsAt_blk hk2) rfl rfl))) rfl rfl ?_; clear hf fa; intro fa hf
            refine sqgT (act := (decide (((callL L Sl_ ((m : Nat) : Int)).2) = (0 : Int)))) (ag := true) (c := (decide (((callL L Sl_ ((m : Nat) : Int)).2) = (0 : Int)))) (v := (.pointer (some ⟨b2, 0, none⟩))) hf rfl rfl rfl (fun hact => (r_fa rfl Try.underlying37 (f := 0) (q := 0) rfl (by kernel_rfl) rfl)) rfl rfl ?_; clear hf fa; intro fa hf
            refine sqgT (act := (decide (((callL L Sl_ ((m : Nat) : Int)).2) = (0 : Int)))) (ag := true) (c := (decide (((callL L Sl_ ((m : Nat) : Int)).2) = (0 : Int)))) (v := (.agg #[(.string (callL L Sl_ ((m : Nat) : Int)).1.1), (.string (callL L Sl_ ((m : Nat) : Int)).1.2.1)])) hf rfl rfl rfl (fun hact => (r_loadA (cs := [(.string (callL L Sl_ ((m : Nat) : Int)).1.1), (.string (callL L Sl_ ((m : Nat) : Int)).1.2.1)]) (gb_ev hact rfl) Try.underlying31 rfl (by kernel_rfl) (cellsAt_part (d := 0) (n := 2) (cellsAt_blk hk4) rfl rfl))) rfl rfl ?_; clear hf fa; intro fa hf
            refine sqgT (act := (decide (((callL L Sl_ ((m : Nat) : Int)).2) = (0 : Int)))) (ag := true) (c := (decide (((callL L Sl_ ((m : Nat) : Int)).2) = (0 : Int)))) (v := (.bool (!((decide ((gotL L ((m : Nat) : Int)).1 = (callL L Sl_ ((m : Nat) : Int)).1.1)) && (decide ((gotL L ((m : Nat) : Int)).2.1 = (callL L Sl_ ((m : Nat) : Int)).1.2.1)))))) hf rfl rfl rfl (fun hact => (r_ane (k := 5) (gb_ev hact rfl) (gb_ev hact rfl) (by kernel_rfl) (eqt_struct (xs := #[(.string (gotL L ((m : Nat) : Int)).1), (.string (gotL L ((m : Nat) : Int)).2.1)]) (ys := #[(.string (callL L Sl_ ((m : Nat) : Int)).1.1), (.string (callL L Sl_ ((m : Nat) : Int)).1.2.1)]) Try.underlying31 (by kernel_rfl) (eqf_cons (by kernel_rfl) (fun _ => by kernel_rfl) (fun _ => by kernel_rfl) (eqt_str (a := (gotL L ((m : Nat) : Int)).1) (b := (callL L Sl_ ((m : Nat) : Int)).1.1) Try.underlying9) (eqf_one (by kernel_rfl) (fun _ => by kernel_rfl) (fun _ => by kernel_rfl) (eqt_str (a := (gotL L ((m : Nat) : Int)).2.1) (b := (callL L Sl_ ((m : Nat) : Int)).1.2.1) Try.underlying9)))) rfl)) rfl rfl ?_; clear hf fa; intro fa hf
            refine sqgd (act := true) (g := 6) (want := false) (ag := true) (c := false) hf (by rfl) (by rfl) rfl (fun _ =>  Runs.does (R := fun vq wq => vq = (.bool false) ∧ w15 = wq) (Runs.veq (r_pickA (b := (decide (((callL L Sl_ ((m : Nat) : Int)).2) = (0 : Int)))) (e := (!((decide ((gotL L ((m : Nat) : Int)).1 = (callL L Sl_ ((m : Nat) : Int)).1.1)) && (decide ((gotL L ((m : Nat) : Int)).2.1 = (callL L Sl_ ((m : Nat) : Int)).1.2.1))))) rfl rfl rfl) (congrArg Value.bool (show _ = false from (call_two hTI)))) ⟨rfl, rfl⟩) (fun h => by cases h) rfl ?_; clear hf fa; rintro fa _ _ ⟨rfl, rfl⟩ hf
            change Fr _ _ ((103, (.bool false)) :: _) at hf
            refine sqv hf (r_pick (b := false) rfl rfl rfl rfl) rfl rfl rfl ?_; clear hf fa; intro fa hf
            apply wpList_nil
            (try simp only [Exit.then, Exit.inBlock, ↓reduceIte, Nat.reduceEqDiff])
            refine hK24 _ _ ?_
            refine wp_cond_false (hf.ev rfl) ?_
            refine wp_skip ?_
            (try simp only [Exit.then, Exit.inBlock, ↓reduceIte, Nat.reduceEqDiff])
            refine hK21 _ _ ?_
            refine wp_region_lit ?_
            refine sqv hf (r_move rfl) rfl rfl rfl ?_; clear hf fa; intro fa hf
            refine sqv hf (r_add (C := (((m : Nat) : Int) + (1 : Int))) rfl rfl (by rw [IntKind.wrap_i64]; omega)) rfl rfl rfl ?_; clear hf fa; intro fa hf
            refine sqv hf (r_assign rfl) rfl rfl rfl ?_; clear hf fa; intro fa hf
            apply wpList_nil
            (try simp only [Exit.then, Exit.inBlock, ↓reduceIte, Nat.reduceEqDiff])
            refine hKL2 _ _ _ (by omega) ⟨(m + 1), rfl, hf.sub ⟨rfl, rfl, (some_int (by first | rfl | omega)), trivial⟩, hb, by omega, hF.ext hbF⟩
          · have hqt73_1b := hqt73_1
            replace hqt73_1 := Bool.eq_false_iff.1 hqt73_1
            try simp only [ne_eq, decide_eq_true_eq, Bool.and_eq_true, Bool.or_eq_true, Bool.not_eq_true', decide_eq_false_iff_not] at hqt73_1
            refine wp_exit ?_
            (try simp only [Exit.then, Exit.inBlock, ↓reduceIte, Nat.reduceEqDiff])
            refine hK17 _ _ ?_
            refine wp_seq_k (fun K25 hK25 => ?_)
            refine wp_region_lit ?_
            refine sqv hf (r_assign rfl) rfl rfl rfl ?_; clear hf fa; intro fa hf
            apply wpList_nil
            (try simp only [Exit.then, Exit.inBlock, ↓reduceIte, Nat.reduceEqDiff])
            refine hK25 _ _ ?_
            refine wp_ret ?_
            (try simp only [Exit.then, Exit.inBlock])
            refine ret1 hf rfl rfl ?_
            exact ⟨rfl, hb⟩
end Go.Proofs.Ytmcmickgllffoaa
