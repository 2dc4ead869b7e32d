/- What is proved here: the law ImportsFinds is true. -/
import Derived.Test.YtcmdajkkdognfaaImB
namespace Go.Proofs.Ytcmdajkkdognfaa
open Go.RowKit
set_option linter.unusedVariables false
set_option linter.unusedSimpArgs false
def IvI (M N : ByteArray) (L : List MImp) (kd : Int) (k n pl : Nat) (fd : Bool) : Prop :=
  (ofL L kd).drop n = ofL (L.drop k) kd ∧ n ≤ (ofL L kd).length ∧ (fd = false → pl = 0) ∧ plP M N (ofL L kd) = if fd = true then (pl, true) else plR M N (ofL (L.drop k) kd) n
section
variable {M N : ByteArray} {L : List MImp} {kd : Int} {k n pl : Nat} {fd : Bool} {y : MImp}
theorem ivI0 : IvI M N L kd 0 0 0 false := ⟨rfl, Nat.zero_le _, fun _ => rfl, rfl⟩
theorem of_drop_no (hy : L[k]? = some y) (h : ¬ y.2.2.1 = kd) : ofL (L.drop k) kd = ofL (L.drop (k + 1)) kd := by
  rw [drop_at hy]
  unfold ofL
  rw [List.filter_cons, if_neg (by simpa using h)]
theorem of_drop_yes (hy : L[k]? = some y) (h : y.2.2.1 = kd) : ofL (L.drop k) kd = y :: ofL (L.drop (k + 1)) kd := by
  rw [drop_at hy]
  unfold ofL
  rw [List.filter_cons, if_pos (by simpa using h)]
theorem ivI_no (hy : L[k]? = some y) (h : ¬ y.2.2.1 = kd) (H : IvI M N L kd k n pl fd) : IvI M N L kd (k + 1) n pl fd := by
  unfold IvI at *
  rwa [of_drop_no hy h] at H
theorem ivI_get (hy : L[k]? = some y) (h : y.2.2.1 = kd) (H : IvI M N L kd k n pl fd) : (ofL L kd)[n]? = some y ∧ n < (ofL L kd).length := by
  have e := H.1
  rw [of_drop_yes hy h] at e
  have h1 : ((ofL L kd).drop n)[0]? = some y := by rw [e]; rfl
  rw [List.getElem?_drop, Nat.add_zero] at h1
  exact ⟨h1, (List.getElem?_eq_some_iff.1 h1).1⟩
theorem ivI_tail (hy : L[k]? = some y) (h : y.2.2.1 = kd) (H : IvI M N L kd k n pl fd) : (ofL L kd).drop (n + 1) = ofL (L.drop (k + 1)) kd := by
  have e := H.1
  rw [of_drop_yes hy h] at e
  rw [← List.drop_drop, e]; rfl
theorem ivI_hit (hy : L[k]? = some y) (h : y.2.2.1 = kd) (hc : (((!fd) && (decide (y.1 = M))) && (decide (y.2.1 = N))) = true) (H : IvI M N L kd k n pl fd) : IvI M N L kd (k + 1) (n + 1) n true := by
  have hg := ivI_get hy h H
  refine ⟨ivI_tail hy h H, hg.2, fun e => (by cases e), ?_⟩
  have e := H.2.2.2
  simp only [Bool.and_eq_true, Bool.not_eq_true'] at hc
  rw [hc.1.1, if_neg (by decide), of_drop_yes hy h, plR, if_pos (by rw [Bool.and_eq_true]; exact ⟨hc.1.2, hc.2⟩)] at e
  rw [e]; rfl
theorem ivI_miss (hy : L[k]? = some y) (h : y.2.2.1 = kd) (hc : (((!fd) && (decide (y.1 = M))) && (decide (y.2.1 = N))) = false) (H : IvI M N L kd k n pl fd) : IvI M N L kd (k + 1) (n + 1) pl fd := by
  have hg := ivI_get hy h H
  refine ⟨ivI_tail hy h H, hg.2, H.2.2.1, ?_⟩
  have e := H.2.2.2
  cases fd with
  | true => exact e
  | false =>
    rw [Bool.not_false, Bool.true_and] at hc
    rw [if_neg (by decide), of_drop_yes hy h, plR, if_neg (by rw [hc]; decide)] at e
    rw [if_neg (by decide)]; exact e
theorem ivI_end (hk : L.length ≤ k) (H : IvI M N L kd k n pl fd) : n = (ofL L kd).length ∧ plP M N (ofL L kd) = (pl, fd) := by
  obtain ⟨h1, h2, h3, h4⟩ := H
  rw [List.drop_eq_nil_of_le hk, ofL_nil] at h1 h4
  have := congrArg List.length h1
  rw [List.length_drop, List.length_nil] at this
  refine ⟨by omega, ?_⟩
  cases fd with
  | true => exact h4
  | false => rw [h3 rfl]; exact h4
end

set_option maxHeartbeats 1000000 in
set_option maxRecDepth 100000 in
theorem importsFinds_any (a : Option Addr) (L : List MImp) (c : Nat) (kd : Int) (f : Nat) (w : World) (hl : RdS 9 vMImp w a L) (hlc : L.length ≤ c) (hcm : c ≤ 9223372036854775807) (hf256 : f < 256) : Calls Try.prog 8 #[(.slice a L.length c), (.int .u8 kd), (.int .u8 ((f : Nat) : Int))] w fun e w' => e = .returned (.bool true) ∧ Below w.heap.size w w' := by
  refine sx_enter (L := [(0, (.slice a L.length c)), (1, (.int .u8 kd)), (2, (.int .u8 ((f : Nat) : Int)))]) Try.func8 rfl rfl rfl rfl (fun fa hf => ?_)
  have hb : Below w.heap.size w w := Below.refl _ _
  refine wp_seq_k (fun K1 hK1 => ?_)
  refine wp_region_lit ?_
  refine sqv hf (r_assign rfl) rfl rfl rfl ?_; clear hf fa; intro fa hf
  apply wpList_nil
  (try simp only [Exit.then, Exit.inBlock, ↓reduceIte, Nat.reduceEqDiff])
  refine hK1 _ _ ?_
  refine wp_seq_k (fun K2 hK2 => ?_)
  refine wp_seq_k (fun K3 hK3 => ?_)
  refine wp_region_lit ?_
  refine sqdt hf (d_callB (vs := []) rfl Try.func53 (by kernel_rfl) (by kernel_rfl) (awake10_any _)) rfl rfl rfl ?_; clear hf fa; rintro fa _ w1 ⟨rfl, he1⟩ hf
  replace hb := hb.trans (Below.mono he1 hb.size)
  refine sqv hf (Runs.veq (v' := (.bool false)) (r_not rfl) rfl) rfl rfl rfl ?_; clear hf fa; intro fa hf
  apply wpList_nil
  (try simp only [Exit.then, Exit.inBlock, ↓reduceIte, Nat.reduceEqDiff])
  refine hK3 _ _ ?_
  refine wp_cond_false (hf.ev rfl) ?_
  refine wp_skip ?_
  (try simp only [Exit.then, Exit.inBlock, ↓reduceIte, Nat.reduceEqDiff])
  refine hK2 _ _ ?_
  refine wp_seq_k (fun K4 hK4 => ?_)
  refine wp_seq_k (fun K5 hK5 => ?_)
  refine wp_region_lit ?_
  refine sqv hf (r_move rfl) rfl rfl rfl ?_; clear hf fa; intro fa hf
  refine sqv hf (r_lensl rfl Try.underlying79) rfl rfl rfl ?_; clear hf fa; intro fa hf
  refine sqv hf (r_gt rfl rfl) rfl rfl rfl ?_; clear hf fa; intro fa hf
  apply wpList_nil
  (try simp only [Exit.then, Exit.inBlock, ↓reduceIte, Nat.reduceEqDiff])
  refine hK5 _ _ ?_
  refine wp_cond_split (t := (decide ((40 : Int) < ((L.length : Nat) : Int)))) (hf.ev rfl) (fun hqt20_1 => ?_) (fun hqt20_1 => ?_)
  · have hqt20_1b := hqt20_1
    try simp only [decide_eq_true_eq, Bool.and_eq_true, Bool.or_eq_true, Bool.not_eq_true', decide_eq_false_iff_not, ne_eq, Bool.not_eq_true] at hqt20_1
    refine wp_seq_k (fun K6 hK6 => ?_)
    refine wp_region_lit ?_
    refine sqv hf (r_assign rfl) rfl rfl rfl ?_; clear hf fa; intro fa hf
    apply wpList_nil
    (try simp only [Exit.then, Exit.inBlock, ↓reduceIte, Nat.reduceEqDiff])
    refine hK6 _ _ ?_
    refine wp_ret ?_
    (try simp only [Exit.then, Exit.inBlock])
    refine ret1 hf rfl rfl ?_
    exact ⟨rfl, hb⟩
  · have hqt20_1b := hqt20_1
    replace hqt20_1 := Bool.eq_false_iff.1 hqt20_1
    try simp only [ne_eq, decide_eq_true_eq, Bool.and_eq_true, Bool.or_eq_true, Bool.not_eq_true', decide_eq_false_iff_not] at hqt20_1
    refine wp_skip ?_
    (try simp only [Exit.then, Exit.inBlock, ↓reduceIte, Nat.reduceEqDiff])
    refine hK4 _ _ ?_
    refine wp_seq_k (fun K7 hK7 => ?_)
    have hl40 : L.length ≤ 40 := by have h := hqt20_1; omega
    have hl9 : L.length ≤ 4096 := by omega
    have hol := of_len2 L kd
    refine wp_region_lit ?_
    refine sqv hf (r_assign rfl) rfl rfl rfl ?_; clear hf fa; intro fa hf
    refine sqv hf (r_assign rfl) rfl rfl rfl ?_; clear hf fa; intro fa hf
    apply wpList_nil
    (try simp only [Exit.then, Exit.inBlock, ↓reduceIte, Nat.reduceEqDiff])
    refine hK7 _ _ ?_
    refine wp_seq_k (fun K8 hK8 => ?_)
    refine wp_seq_k (fun K9 hK9 => ?_)
    refine wp_region_lit ?_
    refine sqv hf (r_move rfl) rfl rfl rfl ?_; clear hf fa; intro fa hf
    refine sqv hf (r_lensl rfl Try.underlying79) rfl rfl rfl ?_; clear hf fa; intro fa hf
    refine sqv hf (r_gt rfl rfl) rfl rfl rfl ?_; clear hf fa; intro fa hf
    apply wpList_nil
    (try simp only [Exit.then, Exit.inBlock, ↓reduceIte, Nat.reduceEqDiff])
    refine hK9 _ _ ?_
    refine wp_cond_split (t := (decide ((0 : Int) < ((L.length : Nat) : Int)))) (hf.ev rfl) (fun hqt23_1 => ?_) (fun hqt23_1 => ?_)
    · have hqt23_1b := hqt23_1
      try simp only [decide_eq_true_eq, Bool.and_eq_true, Bool.or_eq_true, Bool.not_eq_true', decide_eq_false_iff_not, ne_eq, Bool.not_eq_true] at hqt23_1
      have hlp : 0 < L.length := by have h := hqt23_1; omega
      obtain ⟨z, hz⟩ : ∃ x, L[f % L.length]? = some x := ⟨_, List.getElem?_eq_getElem (Nat.mod_lt _ hlp)⟩
      have hmod := Nat.mod_lt f hlp
      have hy1 : (L)[(f % L.length)]? = some z := hz
      obtain ⟨ab1, aoff1, hat1, hlb1, hel1⟩ := RdS.at hl hy1
      refine wp_region_un (fun wq => Below w1.heap.size w1 wq) (fun w w' => Below w.heap.size w w')
        (fun V => [(fun x _ => x = (.slice a L.length c)), (fun x _ => x = (.int .u8 ((f : Nat) : Int))), (fun x _ => x = (.int .i64 ((f : Nat) : Int))), (fun x _ => x = (.slice a L.length c)), (fun x _ => x = (.int .i64 ((L.length : Nat) : Int))), (fun x _ => x = (.int .i64 (((f : Nat) : Int) % ((L.length : Nat) : Int)))), (fun x _ => x = (.pointer (some ⟨ab1, (aoff1 + (f % L.length) * 9), none⟩))), (fun x _ => x = (.pointer (some ⟨ab1, (aoff1 + (f % L.length) * 9), none⟩))), (fun x _ => x = (.string z.1)), (fun x _ => x = (.slice a L.length c)), (fun x _ => x = (.int .u8 ((f : Nat) : Int))), (fun x _ => x = (.int .i64 ((f : Nat) : Int))), (fun x _ => x = (.slice a L.length c)), (fun x _ => x = (.int .i64 ((L.length : Nat) : Int))), (fun x _ => x = (.int .i64 (((f : Nat) : Int) % ((L.length : Nat) : Int)))), (fun x _ => x = (.pointer (some ⟨ab1, (aoff1 + (f % L.length) * 9), none⟩))), (fun x _ => x = (.pointer (some ⟨ab1, ((aoff1 + (f % L.length) * 9) + 1), none⟩))), (fun x _ => x = (.string z.2.1)), (fun x _ => x = (.string z.1)), (fun x _ => x = (.string z.2.1))])
        []
        [[], [], [1], [], [3], [2, 4], [0, 5], [6], [7], [], [], [10], [], [12], [11, 13], [9, 14], [15], [16], [0, 1, 2, 3, 4, 5, 6, 7, 8], [0, 1, 2, 3, 4, 5, 6, 7, 8, 9, 10, 11, 12, 13, 14, 15, 16, 17, 18]]
        hf (by kernel_rfl) (by kernel_rfl) (fun _ => rfl) ((Below.refl _ _).drew) (fun a b h1 h2 => h1.trans (h2.mono h1.size)) (fun _ _ h => h.size) (fun V => ⟨kept_eq, kept_eq, kept_eq, kept_eq, kept_eq, kept_eq, kept_eq, kept_eq, kept_eq, kept_eq, kept_eq, kept_eq, kept_eq, kept_eq, kept_eq, kept_eq, kept_eq, kept_eq, kept_eq, kept_eq, trivial⟩) (fun _ _ _ _ _ => rfl) ?_ ?_
      · skip
        intro V
        refine ⟨fun wu0 hC hd => ?_, ?_⟩
        · clear hd
          replace hb := hb.trans (hC.mono hb.size)
          exact Runs.does (r_move rfl) ⟨Below.refl _ _, rfl, nofr rfl⟩
        refine ⟨fun wu1 hC hd => ?_, ?_⟩
        · clear hd
          replace hb := hb.trans (hC.mono hb.size)
          exact Runs.does (r_move rfl) ⟨Below.refl _ _, rfl, nofr rfl⟩
        refine ⟨fun wu2 hC hd => ?_, ?_⟩
        · obtain ⟨h1, _⟩ := hd
          skip
          replace h1 : V 1 = (.int .u8 ((f : Nat) : Int)) := h1
          replace hb := hb.trans (hC.mono hb.size)
          exact Runs.does (r_conv (C := ((f : Nat) : Int)) (congrArg some h1) Try.underlying5 Try.underlying3 (by rw [IntKind.wrap_i64]; omega)) ⟨Below.refl _ _, rfl, nofr rfl⟩
        refine ⟨fun wu3 hC hd => ?_, ?_⟩
        · clear hd
          replace hb := hb.trans (hC.mono hb.size)
          exact Runs.does (r_move rfl) ⟨Below.refl _ _, rfl, nofr rfl⟩
        refine ⟨fun wu4 hC hd => ?_, ?_⟩
        · obtain ⟨h3, _⟩ := hd
          skip
          replace h3 : V 3 = (.slice a L.length c) := h3
          replace hb := hb.trans (hC.mono hb.size)
          exact Runs.does (r_lensl (congrArg some h3) Try.underlying79) ⟨Below.refl _ _, rfl, nofr rfl⟩
        refine ⟨fun wu5 hC hd => ?_, ?_⟩
        · obtain ⟨h2, h4, _⟩ := hd
          skip
          skip
          replace h2 : V 2 = (.int .i64 ((f : Nat) : Int)) := h2
          replace h4 : V 4 = (.int .i64 ((L.length : Nat) : Int)) := h4
          replace hb := hb.trans (hC.mono hb.size)
          exact Runs.does (r_rem (C := (((f : Nat) : Int) % ((L.length : Nat) : Int))) (congrArg some h2) (congrArg some h4) (by omega) (Int.tmod_eq_emod_of_nonneg (by omega))) ⟨Below.refl _ _, rfl, nofr rfl⟩
        refine ⟨fun wu6 hC hd => ?_, ?_⟩
        · obtain ⟨h0, h5, _⟩ := hd
          skip
          skip
          replace h0 : V 0 = (.slice a L.length c) := h0
          replace h5 : V 5 = (.int .i64 (((f : Nat) : Int) % ((L.length : Nat) : Int))) := h5
          replace hb := hb.trans (hC.mono hb.size)
          exact Runs.does (r_ixa (sz := 9) (j := (f % L.length)) (evAt (congrArg some h0) hat1) (congrArg some h5) Try.underlying79 (by kernel_rfl) (by omega) (by omega) rfl) ⟨Below.refl _ _, rfl, nofr rfl⟩
        refine ⟨fun wu7 hC hd => ?_, ?_⟩
        · obtain ⟨h6, _⟩ := hd
          skip
          replace h6 : V 6 = (.pointer (some ⟨ab1, (aoff1 + (f % L.length) * 9), none⟩)) := h6
          replace hb := hb.trans (hC.mono hb.size)
          exact Runs.does (r_fa (congrArg some h6) Try.underlying81 (f := 0) (q := (aoff1 + (f % L.length) * 9)) rfl (by kernel_rfl) rfl) ⟨Below.refl _ _, rfl, nofr rfl⟩
        refine ⟨fun wu8 hC hd => ?_, ?_⟩
        · obtain ⟨h7, _⟩ := hd
          skip
          replace h7 : V 7 = (.pointer (some ⟨ab1, (aoff1 + (f % L.length) * 9), none⟩)) := h7
          replace hb := hb.trans (hC.mono hb.size)
          exact Runs.does (r_load (v := (.string z.1)) (congrArg some h7) Try.underlying9 rfl (cellsAt_cell (cellsAt_below hel1 hb hlb1) (i := 0) rfl rfl)) ⟨Below.refl _ _, rfl, nofr rfl⟩
        refine ⟨fun wu9 hC hd => ?_, ?_⟩
        · clear hd
          replace hb := hb.trans (hC.mono hb.size)
          exact Runs.does (r_move rfl) ⟨Below.refl _ _, rfl, nofr rfl⟩
        refine ⟨fun wu10 hC hd => ?_, ?_⟩
        · clear hd
          replace hb := hb.trans (hC.mono hb.size)
          exact Runs.does (r_move rfl) ⟨Below.refl _ _, rfl, nofr rfl⟩
        refine ⟨fun wu11 hC hd => ?_, ?_⟩
        · obtain ⟨h10, _⟩ := hd
          skip
          replace h10 : V 10 = (.int .u8 ((f : Nat) : Int)) := h10
          replace hb := hb.trans (hC.mono hb.size)
          exact Runs.does (r_conv (C := ((f : Nat) : Int)) (congrArg some h10) Try.underlying5 Try.underlying3 (by rw [IntKind.wrap_i64]; omega)) ⟨Below.refl _ _, rfl, nofr rfl⟩
        refine ⟨fun wu12 hC hd => ?_, ?_⟩
        · clear hd
          replace hb := hb.trans (hC.mono hb.size)
          exact Runs.does (r_move rfl) ⟨Below.refl _ _, rfl, nofr rfl⟩
        refine ⟨fun wu13 hC hd => ?_, ?_⟩
        · obtain ⟨h12, _⟩ := hd
          skip
          replace h12 : V 12 = (.slice a L.length c) := h12
          replace hb := hb.trans (hC.mono hb.size)
          exact Runs.does (r_lensl (congrArg some h12) Try.underlying79) ⟨Below.refl _ _, rfl, nofr rfl⟩
        refine ⟨fun wu14 hC hd => ?_, ?_⟩
        · obtain ⟨h11, h13, _⟩ := hd
          skip
          skip
          replace h11 : V 11 = (.int .i64 ((f : Nat) : Int)) := h11
          replace h13 : V 13 = (.int .i64 ((L.length : Nat) : Int)) := h13
          replace hb := hb.trans (hC.mono hb.size)
          exact Runs.does (r_rem (C := (((f : Nat) : Int) % ((L.length : Nat) : Int))) (congrArg some h11) (congrArg some h13) (by omega) (Int.tmod_eq_emod_of_nonneg (by omega))) ⟨Below.refl _ _, rfl, nofr rfl⟩
        refine ⟨fun wu15 hC hd => ?_, ?_⟩
        · obtain ⟨h9, h14, _⟩ := hd
          skip
          skip
          replace h9 : V 9 = (.slice a L.length c) := h9
          replace h14 : V 14 = (.int .i64 (((f : Nat) : Int) % ((L.length : Nat) : Int))) := h14
          replace hb := hb.trans (hC.mono hb.size)
          exact Runs.does (r_ixa (sz := 9) (j := (f % L.length)) (evAt (congrArg some h9) hat1) (congrArg some h14) Try.underlying79 (by kernel_rfl) (by omega) (by omega) rfl) ⟨Below.refl _ _, rfl, nofr rfl⟩
        refine ⟨fun wu16 hC hd => ?_, ?_⟩
        · obtain ⟨h15, _⟩ := hd
          skip
          replace h15 : V 15 = (.pointer (some ⟨ab1, (aoff1 + (f % L.length) * 9), none⟩)) := h15
          replace hb := hb.trans (hC.mono hb.size)
          exact Runs.does (r_fa (congrArg some h15) Try.underlying81 (f := 1) (q := ((aoff1 + (f % L.length) * 9) + 1)) rfl (by kernel_rfl) rfl) ⟨Below.refl _ _, rfl, nofr rfl⟩
        refine ⟨fun wu17 hC hd => ?_, ?_⟩
        · obtain ⟨h16, _⟩ := hd
          skip
          replace h16 : V 16 = (.pointer (some ⟨ab1, ((aoff1 + (f % L.length) * 9) + 1), none⟩)) := h16
          replace hb := hb.trans (hC.mono hb.size)
          exact Runs.does (r_load (v := (.string z.2.1)) (congrArg some h16) Try.underlying9 rfl (cellsAt_cell (cellsAt_below hel1 hb hlb1) (i := 1) rfl rfl)) ⟨Below.refl _ _, rfl, nofr rfl⟩
        refine ⟨fun wu18 hC hd => ?_, ?_⟩
        · obtain ⟨h0, h1, h2, h3, h4, h5, h6, h7, h8, _⟩ := hd
          skip
          skip
          skip
          skip
          skip
          skip
          skip
          skip
          skip
          replace h0 : V 0 = (.slice a L.length c) := h0
          replace h1 : V 1 = (.int .u8 ((f : Nat) : Int)) := h1
          replace h2 : V 2 = (.int .i64 ((f : Nat) : Int)) := h2
          replace h3 : V 3 = (.slice a L.length c) := h3
          replace h4 : V 4 = (.int .i64 ((L.length : Nat) : Int)) := h4
          replace h5 : V 5 = (.int .i64 (((f : Nat) : Int) % ((L.length : Nat) : Int))) := h5
          replace h6 : V 6 = (.pointer (some ⟨ab1, (aoff1 + (f % L.length) * 9), none⟩)) := h6
          replace h7 : V 7 = (.pointer (some ⟨ab1, (aoff1 + (f % L.length) * 9), none⟩)) := h7
          replace h8 : V 8 = (.string z.1) := h8
          replace hb := hb.trans (hC.mono hb.size)
          exact Runs.does (r_assign (congrArg some h8)) ⟨Below.refl _ _, rfl, nofr rfl⟩
        refine ⟨fun wu19 hC hd => ?_, ?_⟩
        · obtain ⟨h0, h1, h2, h3, h4, h5, h6, h7, h8, h9, h10, h11, h12, h13, h14, h15, h16, h17, h18, _⟩ := hd
          skip
          skip
          skip
          skip
          skip
          skip
          skip
          skip
          skip
          skip
          skip
          skip
          skip
          skip
          skip
          skip
          skip
          skip
          skip
          replace h0 : V 0 = (.slice a L.length c) := h0
          replace h1 : V 1 = (.int .u8 ((f : Nat) : Int)) := h1
          replace h2 : V 2 = (.int .i64 ((f : Nat) : Int)) := h2
          replace h3 : V 3 = (.slice a L.length c) := h3
          replace h4 : V 4 = (.int .i64 ((L.length : Nat) : Int)) := h4
          replace h5 : V 5 = (.int .i64 (((f : Nat) : Int) % ((L.length : Nat) : Int))) := h5
          replace h6 : V 6 = (.pointer (some ⟨ab1, (aoff1 + (f % L.length) * 9), none⟩)) := h6
          replace h7 : V 7 = (.pointer (some ⟨ab1, (aoff1 + (f % L.length) * 9), none⟩)) := h7
          replace h8 : V 8 = (.string z.1) := h8
          replace h9 : V 9 = (.slice a L.length c) := h9
          replace h10 : V 10 = (.int .u8 ((f : Nat) : Int)) := h10
          replace h11 : V 11 = (.int .i64 ((f : Nat) : Int)) := h11
          replace h12 : V 12 = (.slice a L.length c) := h12
          replace h13 : V 13 = (.int .i64 ((L.length : Nat) : Int)) := h13
          replace h14 : V 14 = (.int .i64 (((f : Nat) : Int) % ((L.length : Nat) : Int))) := h14
          replace h15 : V 15 = (.pointer (some ⟨ab1, (aoff1 + (f % L.length) * 9), none⟩)) := h15
          replace h16 : V 16 = (.pointer (some ⟨ab1, ((aoff1 + (f % L.length) * 9) + 1), none⟩)) := h16
          replace h17 : V 17 = (.string z.2.1) := h17
          replace h18 : V 18 = (.string z.1) := h18
          replace hb := hb.trans (hC.mono hb.size)
          exact Runs.does (r_assign (congrArg some h17)) ⟨Below.refl _ _, rfl, nofr rfl⟩
        trivial
      · skip
        clear hf fa; intro V w2 fa he2 hp hnb hf
        have hv0 : V 0 = (.slice a L.length c) := postsHold_at hp 0 rfl
        have hv1 : V 1 = (.int .u8 ((f : Nat) : Int)) := postsHold_at hp 1 rfl
        have hv2 : V 2 = (.int .i64 ((f : Nat) : Int)) := postsHold_at hp 2 rfl
        have hv3 : V 3 = (.slice a L.length c) := postsHold_at hp 3 rfl
        have hv4 : V 4 = (.int .i64 ((L.length : Nat) : Int)) := postsHold_at hp 4 rfl
        have hv5 : V 5 = (.int .i64 (((f : Nat) : Int) % ((L.length : Nat) : Int))) := postsHold_at hp 5 rfl
        have hv6 : V 6 = (.pointer (some ⟨ab1, (aoff1 + (f % L.length) * 9), none⟩)) := postsHold_at hp 6 rfl
        have hv7 : V 7 = (.pointer (some ⟨ab1, (aoff1 + (f % L.length) * 9), none⟩)) := postsHold_at hp 7 rfl
        have hv8 : V 8 = (.string z.1) := postsHold_at hp 8 rfl
        have hv9 : V 9 = (.slice a L.length c) := postsHold_at hp 9 rfl
        have hv10 : V 10 = (.int .u8 ((f : Nat) : Int)) := postsHold_at hp 10 rfl
        have hv11 : V 11 = (.int .i64 ((f : Nat) : Int)) := postsHold_at hp 11 rfl
        have hv12 : V 12 = (.slice a L.length c) := postsHold_at hp 12 rfl
        have hv13 : V 13 = (.int .i64 ((L.length : Nat) : Int)) := postsHold_at hp 13 rfl
        have hv14 : V 14 = (.int .i64 (((f : Nat) : Int) % ((L.length : Nat) : Int))) := postsHold_at hp 14 rfl
        have hv15 : V 15 = (.pointer (some ⟨ab1, (aoff1 + (f % L.length) * 9), none⟩)) := postsHold_at hp 15 rfl
        have hv16 : V 16 = (.pointer (some ⟨ab1, ((aoff1 + (f % L.length) * 9) + 1), none⟩)) := postsHold_at hp 16 rfl
        have hv17 : V 17 = (.string z.2.1) := postsHold_at hp 17 rfl
        have hv18 : V 18 = (.string z.1) := postsHold_at hp 18 rfl
        have hv19 : V 19 = (.string z.2.1) := postsHold_at hp 19 rfl
        simp only [List.take_succ_cons, List.take_zero, insAll, ins, hv0, hv1, hv2, hv3, hv4, hv5, hv6, hv7, hv8, hv9, hv10, hv11, hv12, hv13, hv14, hv15, hv16, hv17, hv18, hv19] at hf
        clear hp hnb hv0 hv1 hv2 hv3 hv4 hv5 hv6 hv7 hv8 hv9 hv10 hv11 hv12 hv13 hv14 hv15 hv16 hv17 hv18 hv19
        replace hb := hb.trans (Below.mono he2 hb.size)
        (try simp only [Exit.then, Exit.inBlock, ↓reduceIte, Nat.reduceEqDiff])
        refine hK8 _ _ ?_
        refine wp_seq_k (fun K10 hK10 => ?_)
        skip
        refine wp_region_lit ?_
        refine sqv hf (r_move rfl) rfl rfl rfl ?_; clear hf fa; intro fa hf
        refine sqv hf (r_move rfl) rfl rfl rfl ?_; clear hf fa; intro fa hf
        refine sqdt hf (d_callX (vs := [(.slice a L.length c), (.int .u8 kd)]) rfl Try.func54 (by kernel_rfl) (by kernel_rfl) (of_any a L c kd _ (RdS.ext hl hb) hlc hl9)) rfl rfl rfl ?_; clear hf fa; rintro fa v w3 ⟨hr1, he3⟩ hf; obtain ⟨ra1, rc1, rfl, hcrc1, hmrc1⟩ := Row.slice hr1
        replace hr1 := Row.rebase hr1 hb.size
        replace hb := hb.trans (Below.mono he3 hb.size)
        refine sqv hf (r_assign rfl) rfl rfl rfl ?_; clear hf fa; intro fa hf
        refine sqv hf (r_assign rfl) rfl rfl rfl ?_; clear hf fa; intro fa hf
        refine sqv hf (r_assign rfl) rfl rfl rfl ?_; clear hf fa; intro fa hf
        refine sqv hf (r_assign rfl) rfl rfl rfl ?_; clear hf fa; intro fa hf
        apply wpList_nil
        (try simp only [Exit.then, Exit.inBlock, ↓reduceIte, Nat.reduceEqDiff])
        refine hK10 _ _ ?_
        refine wp_seq_k (fun K11 hK11 => ?_)
        refine wp_seq_k (fun K12 hK12 => ?_)
        refine wp_region_lit ?_
        refine sqv hf (r_assign rfl) rfl rfl rfl ?_; clear hf fa; intro fa hf
        apply wpList_nil
        (try simp only [Exit.then, Exit.inBlock, ↓reduceIte, Nat.reduceEqDiff])
        refine hK12 _ _ ?_
        refine wp_block ?_
        refine wp_loop_k (fun mq fa wr => ∃ (k : Nat) (n : Nat) (pl : Nat) (fd : Bool) (roa : Option Addr) (roc : Nat), mq = L.length - k ∧ Fr 125 fa [(0, (.slice a L.length c)), (1, (.int .u8 kd)), (7, (.string z.1)), (8, (.string z.2.1)), (10, (.int .i64 ((n : Nat) : Int))), (11, (.int .i64 ((pl : Nat) : Int))), (12, (.bool fd)), (13, (.int .i64 ((k : Nat) : Int))), (9, (.slice roa (((ofL L kd)).length) roc))] ∧ Below w.heap.size w wr ∧ Row 9 vMImp 81 (w.heap.size) wr (.slice roa (((ofL L kd)).length) roc) (ofL L kd) ∧ (k ≤ L.length) ∧ (IvI z.1 z.2.1 L kd k n pl fd)) ?_ ?_
        · skip
          exact ⟨_, 0, 0, 0, false, ra1, rc1, rfl, hf.sub ⟨rfl, rfl, rfl, rfl, (some_int (by first | rfl | omega)), (some_int (by first | rfl | omega)), rfl, (some_int (by first | rfl | omega)), rfl, trivial⟩, hb, (Row.relen hr1), by omega, ivI0⟩
        · skip
          clear hf fa; intro mq1 fa w4 hI KL1 hKL1
          clear hb
          clear hr1
          obtain ⟨k, n, pl, fd, roa, roc, hmq1, hf, hb, hro, hk, Hi⟩ := hI
          have hcro := Row.caps hro
          refine wp_seq_k (fun K13 hK13 => ?_)
          refine wp_seq_k (fun K14 hK14 => ?_)
          refine wp_region_lit ?_
          refine sqv hf (r_move rfl) rfl rfl rfl ?_; clear hf fa; intro fa hf
          refine sqv hf (r_move rfl) rfl rfl rfl ?_; clear hf fa; intro fa hf
          refine sqv hf (r_lensl rfl Try.underlying79) rfl rfl rfl ?_; clear hf fa; intro fa hf
          refine sqv hf (r_lt rfl rfl) rfl rfl rfl ?_; clear hf fa; intro fa hf
          apply wpList_nil
          (try simp only [Exit.then, Exit.inBlock, ↓reduceIte, Nat.reduceEqDiff])
          refine hK14 _ _ ?_
          refine wp_cond_split (t := (decide (((k : Nat) : Int) < ((L.length : Nat) : Int)))) (hf.ev rfl) (fun hqt48_1 => ?_) (fun hqt48_1 => ?_)
          · have hqt48_1b := hqt48_1
            try simp only [decide_eq_true_eq, Bool.and_eq_true, Bool.or_eq_true, Bool.not_eq_true', decide_eq_false_iff_not, ne_eq, Bool.not_eq_true] at hqt48_1
            refine wp_skip ?_
            (try simp only [Exit.then, Exit.inBlock, ↓reduceIte, Nat.reduceEqDiff])
            refine hK13 _ _ ?_
            refine wp_seq_k (fun K15 hK15 => ?_)
            refine wp_block ?_
            refine wp_seq_k (fun K16 hK16 => ?_)
            refine wp_seq_k (fun K17 hK17 => ?_)
            obtain ⟨y, hy⟩ : ∃ x, L[k]? = some x := ⟨_, List.getElem?_eq_getElem (by omega)⟩
            refine wp_region_lit ?_
            refine sqv hf (r_move rfl) rfl rfl rfl ?_; clear hf fa; intro fa hf
            refine sqv hf (r_move rfl) rfl rfl rfl ?_; clear hf fa; intro fa hf
            have hy2 : (L)[k]? = some y := hy
            obtain ⟨_, _, hab1, hlb2, hel2⟩ := RdS.at hl hy2
            rw [hat1] at hab1; cases hab1
            refine sqv hf (r_ixa (sz := 9) (j := k) (evAt rfl hat1) rfl Try.underlying79 (by kernel_rfl) rfl (by omega) rfl) rfl rfl rfl ?_; clear hf fa; intro fa hf
            refine sqv hf (r_fa rfl Try.underlying81 (f := 2) (q := ((aoff1 + k * 9) + 2)) rfl (by kernel_rfl) rfl) rfl rfl rfl ?_; clear hf fa; intro fa hf
            refine sqv hf (r_load (v := (.int .u8 y.2.2.1)) rfl Try.underlying5 rfl (cellsAt_cell (cellsAt_below hel2 hb hlb2) (i := 2) rfl rfl)) rfl rfl rfl ?_; clear hf fa; intro fa hf
            refine sqv hf (r_move rfl) rfl rfl rfl ?_; clear hf fa; intro fa hf
            refine sqv hf (r_ne rfl rfl) rfl rfl rfl ?_; clear hf fa; intro fa hf
            apply wpList_nil
            (try simp only [Exit.then, Exit.inBlock, ↓reduceIte, Nat.reduceEqDiff])
            refine hK17 _ _ ?_
            refine wp_cond_split (t := (decide (y.2.2.1 ≠ kd))) (hf.ev rfl) (fun hqt57_1 => ?_) (fun hqt57_1 => ?_)
            · have hqt57_1b := hqt57_1
              try simp only [decide_eq_true_eq, Bool.and_eq_true, Bool.or_eq_true, Bool.not_eq_true', decide_eq_false_iff_not, ne_eq, Bool.not_eq_true] at hqt57_1
              refine wp_exit ?_
              (try simp only [Exit.then, Exit.inBlock, ↓reduceIte, Nat.reduceEqDiff])
              refine hK15 _ _ ?_
              refine wp_region_lit ?_
              refine sqv hf (r_move rfl) rfl rfl rfl ?_; clear hf fa; intro fa hf
              refine sqv hf (r_add (C := (((k : Nat) : Int) + (1 : Int))) rfl rfl (by rw [IntKind.wrap_i64]; omega)) rfl rfl rfl ?_; clear hf fa; intro fa hf
              refine sqv hf (r_assign rfl) rfl rfl rfl ?_; clear hf fa; intro fa hf
              apply wpList_nil
              (try simp only [Exit.then, Exit.inBlock, ↓reduceIte, Nat.reduceEqDiff])
              refine hKL1 _ _ _ (by omega) ⟨(k + 1), n, pl, fd, roa, roc, rfl, hf.sub ⟨rfl, rfl, rfl, rfl, rfl, rfl, rfl, (some_int (by first | rfl | omega)), rfl, trivial⟩, hb, (Row.relen hro), by omega, (ivI_no hy hqt57_1 Hi)⟩
            · have hqt57_1b := hqt57_1
              replace hqt57_1 := Bool.eq_false_iff.1 hqt57_1
              try simp only [ne_eq, decide_eq_true_eq, Bool.and_eq_true, Bool.or_eq_true, Bool.not_eq_true', decide_eq_false_iff_not] at hqt57_1
              refine wp_skip ?_
              (try simp only [Exit.then, Exit.inBlock, ↓reduceIte, Nat.reduceEqDiff])
              refine hK16 _ _ ?_
              refine wp_seq_k (fun K18 hK18 => ?_)
              refine wp_seq_k (fun K19 hK19 => ?_)
              obtain ⟨hx, hnl⟩ := ivI_get hy (by have h := hqt57_1; exact Decidable.not_not.1 h) Hi
              obtain ⟨rb1, rfl, hbbrb1, hlbrb1⟩ := Row.some hro (by first | omega | (simp only [Sl.list_length, List.length_set, List.length_take, List.length_append, List.length_replicate, List.length_cons, List.length_nil, List.length_map, nums_len]; omega))
              have hy3 : ((ofL L kd))[n]? = some y := hx
              have hel3 := RdS.at (Row.rd (by intros; rfl) hro) hy3
              obtain ⟨_, _, hab, hlr1, hel3⟩ := hel3
              cases hab
              refine wp_region_un (fun wq => Below w4.heap.size w4 wq) (fun w w' => Below w.heap.size w w')
                (fun V => [(fun x _ => x = (.int .i64 ((n : Nat) : Int))), (fun x _ => x = (.slice (some ⟨rb1, 0, none⟩) (((ofL L kd)).length) roc)), (fun x _ => x = (.int .i64 ((((ofL L kd)).length : Nat) : Int))), (fun x _ => x = (.bool false)), (fun x _ => x = (.bool false)), (fun x _ => x = (.slice (some ⟨rb1, 0, none⟩) (((ofL L kd)).length) roc)), (fun x _ => x = (.int .i64 ((n : Nat) : Int))), (fun x _ => x = (.pointer (some ⟨rb1, (0 + n * 9), none⟩))), (fun x _ => x = (.agg #[(.string y.1), (.string y.2.1), (.int .u8 y.2.2.1), (.int .u32 y.2.2.2.1), (.int .u32 y.2.2.2.2.1.1), (.int .u32 y.2.2.2.2.1.2.1), (.bool y.2.2.2.2.1.2.2.1), (.int .u8 y.2.2.2.2.2.1.1), (.bool y.2.2.2.2.2.1.2.1)])), (fun x _ => x = (.slice a L.length c)), (fun x _ => x = (.int .i64 ((k : Nat) : Int))), (fun x _ => x = (.pointer (some ⟨ab1, (aoff1 + k * 9), none⟩))), (fun x _ => x = (.agg #[(.string y.1), (.string y.2.1), (.int .u8 y.2.2.1), (.int .u32 y.2.2.2.1), (.int .u32 y.2.2.2.2.1.1), (.int .u32 y.2.2.2.2.1.2.1), (.bool y.2.2.2.2.1.2.2.1), (.int .u8 y.2.2.2.2.2.1.1), (.bool y.2.2.2.2.2.1.2.1)])), (fun x _ => x = (.bool false)), (fun x _ => x = (.bool false))])
                []
                [[], [], [1], [0, 2], [3], [4], [4], [4, 5, 6], [4, 7], [4], [4], [4, 9, 10], [4, 11], [4, 8, 12], [4, 13]]
                hf (by kernel_rfl) (by kernel_rfl) (fun _ => rfl) ((Below.refl _ _).drew) (fun a b h1 h2 => h1.trans (h2.mono h1.size)) (fun _ _ h => h.size) (fun V => ⟨kept_eq, kept_eq, kept_eq, kept_eq, kept_eq, kept_eq, kept_eq, kept_eq, kept_eq, kept_eq, kept_eq, kept_eq, kept_eq, kept_eq, kept_eq, trivial⟩) (fun _ _ _ _ _ => rfl) ?_ ?_
              · skip
                intro V
                refine ⟨fun wu0 hC hd => ?_, ?_⟩
                · clear hd
                  replace hb := hb.trans (hC.mono hb.size)
                  replace hro := Row.ext hro hC
                  exact Runs.does (r_move rfl) ⟨Below.refl _ _, rfl, nofr rfl⟩
                refine ⟨fun wu1 hC hd => ?_, ?_⟩
                · clear hd
                  replace hb := hb.trans (hC.mono hb.size)
                  replace hro := Row.ext hro hC
                  exact Runs.does (r_move rfl) ⟨Below.refl _ _, rfl, nofr rfl⟩
                refine ⟨fun wu2 hC hd => ?_, ?_⟩
                · obtain ⟨h1, _⟩ := hd
                  skip
                  replace h1 : V 1 = (.slice (some ⟨rb1, 0, none⟩) (((ofL L kd)).length) roc) := h1
                  replace hb := hb.trans (hC.mono hb.size)
                  replace hro := Row.ext hro hC
                  exact Runs.does (r_lensl (congrArg some h1) Try.underlying79) ⟨Below.refl _ _, rfl, nofr rfl⟩
                refine ⟨fun wu3 hC hd => ?_, ?_⟩
                · obtain ⟨h0, h2, _⟩ := hd
                  skip
                  skip
                  replace h0 : V 0 = (.int .i64 ((n : Nat) : Int)) := h0
                  replace h2 : V 2 = (.int .i64 ((((ofL L kd)).length : Nat) : Int)) := h2
                  replace hb := hb.trans (hC.mono hb.size)
                  replace hro := Row.ext hro hC
                  exact Runs.does (Runs.veq (r_ge (congrArg some h0) (congrArg some h2)) (congrArg Value.bool (show _ = false from (by simp; omega)))) ⟨Below.refl _ _, rfl, nofr rfl⟩
                refine ⟨fun wu4 hC hd => ?_, ?_⟩
                · obtain ⟨h3, _⟩ := hd
                  skip
                  replace h3 : V 3 = (.bool false) := h3
                  replace hb := hb.trans (hC.mono hb.size)
                  replace hro := Row.ext hro hC
                  exact Runs.does (r_move (congrArg some h3)) ⟨Below.refl _ _, rfl, nofr rfl⟩
                refine ⟨fun wu5 hC hd => ?_, ?_⟩
                · obtain ⟨h4, _⟩ := hd
                  skip
                  replace h4 : V 4 = (.bool false) := h4
                  replace hb := hb.trans (hC.mono hb.size)
                  replace hro := Row.ext hro hC
                  refine ⟨true, false, congrArg some h4, fun hact => ?_, fun hact => ?_⟩
                  · exact Runs.does (r_move rfl) ⟨Below.refl _ _, rfl, nofr rfl⟩
                  · exfalso; simp at hact
                refine ⟨fun wu6 hC hd => ?_, ?_⟩
                · obtain ⟨h4, _⟩ := hd
                  skip
                  replace h4 : V 4 = (.bool false) := h4
                  replace hb := hb.trans (hC.mono hb.size)
                  replace hro := Row.ext hro hC
                  refine ⟨true, false, congrArg some h4, fun hact => ?_, fun hact => ?_⟩
                  · exact Runs.does (r_move rfl) ⟨Below.refl _ _, rfl, nofr rfl⟩
                  · exfalso; simp at hact
                refine ⟨fun wu7 hC hd => ?_, ?_⟩
                · obtain ⟨h4, h5, h6, _⟩ := hd
                  skip
                  skip
                  skip
                  replace h4 : V 4 = (.bool false) := h4
                  replace h5 : V 5 = (.slice (some ⟨rb1, 0, none⟩) (((ofL L kd)).length) roc) := h5
                  replace h6 : V 6 = (.int .i64 ((n : Nat) : Int)) := h6
                  replace hb := hb.trans (hC.mono hb.size)
                  replace hro := Row.ext hro hC
                  refine ⟨true, false, congrArg some h4, fun hact => ?_, fun hact => ?_⟩
                  · exact Runs.does (r_ixa (sz := 9) (j := n) (congrArg some h5) (congrArg some h6) Try.underlying79 (by kernel_rfl) rfl (by omega) rfl) ⟨Below.refl _ _, rfl, nofr rfl⟩
                  · exfalso; simp at hact
                refine ⟨fun wu8 hC hd => ?_, ?_⟩
                · obtain ⟨h4, h7, _⟩ := hd
                  skip
                  skip
                  replace h4 : V 4 = (.bool false) := h4
                  replace h7 : V 7 = (.pointer (some ⟨rb1, (0 + n * 9), none⟩)) := h7
                  replace hb := hb.trans (hC.mono hb.size)
                  replace hro := Row.ext hro hC
                  refine ⟨true, false, congrArg some h4, fun hact => ?_, fun hact => ?_⟩
                  · exact Runs.does (r_loadA (cs := [(.string y.1), (.string y.2.1), (.int .u8 y.2.2.1), (.int .u32 y.2.2.2.1), (.int .u32 y.2.2.2.2.1.1), (.int .u32 y.2.2.2.2.1.2.1), (.bool y.2.2.2.2.1.2.2.1), (.int .u8 y.2.2.2.2.2.1.1), (.bool y.2.2.2.2.2.1.2.1)]) (congrArg some h7) Try.underlying81 rfl (by kernel_rfl) (cellsAt_below hel3 hC hlr1)) ⟨Below.refl _ _, rfl, nofr rfl⟩
                  · exfalso; simp at hact
                refine ⟨fun wu9 hC hd => ?_, ?_⟩
                · obtain ⟨h4, _⟩ := hd
                  skip
                  replace h4 : V 4 = (.bool false) := h4
                  replace hb := hb.trans (hC.mono hb.size)
                  replace hro := Row.ext hro hC
                  refine ⟨true, false, congrArg some h4, fun hact => ?_, fun hact => ?_⟩
                  · exact Runs.does (r_move rfl) ⟨Below.refl _ _, rfl, nofr rfl⟩
                  · exfalso; simp at hact
                refine ⟨fun wu10 hC hd => ?_, ?_⟩
                · obtain ⟨h4, _⟩ := hd
                  skip
                  replace h4 : V 4 = (.bool false) := h4
                  replace hb := hb.trans (hC.mono hb.size)
                  replace hro := Row.ext hro hC
                  refine ⟨true, false, congrArg some h4, fun hact => ?_, fun hact => ?_⟩
                  · exact Runs.does (r_move rfl) ⟨Below.refl _ _, rfl, nofr rfl⟩
                  · exfalso; simp at hact
                refine ⟨fun wu11 hC hd => ?_, ?_⟩
                · obtain ⟨h4, h9, h10, _⟩ := hd
                  skip
                  skip
                  skip
                  replace h4 : V 4 = (.bool false) := h4
                  replace h9 : V 9 = (.slice a L.length c) := h9
                  replace h10 : V 10 = (.int .i64 ((k : Nat) : Int)) := h10
                  replace hb := hb.trans (hC.mono hb.size)
                  replace hro := Row.ext hro hC
                  refine ⟨true, false, congrArg some h4, fun hact => ?_, fun hact => ?_⟩
                  · exact Runs.does (r_ixa (sz := 9) (j := k) (evAt (congrArg some h9) hat1) (congrArg some h10) Try.underlying79 (by kernel_rfl) rfl (by omega) rfl) ⟨Below.refl _ _, rfl, nofr rfl⟩
                  · exfalso; simp at hact
                refine ⟨fun wu12 hC hd => ?_, ?_⟩
                · obtain ⟨h4, h11, _⟩ := hd
                  skip
                  skip
                  replace h4 : V 4 = (.bool false) := h4
                  replace h11 : V 11 = (.pointer (some ⟨ab1, (aoff1 + k * 9), none⟩)) := h11
                  replace hb := hb.trans (hC.mono hb.size)
                  replace hro := Row.ext hro hC
                  refine ⟨true, false, congrArg some h4, fun hact => ?_, fun hact => ?_⟩
                  · exact Runs.does (r_loadA (cs := [(.string y.1), (.string y.2.1), (.int .u8 y.2.2.1), (.int .u32 y.2.2.2.1), (.int .u32 y.2.2.2.2.1.1), (.int .u32 y.2.2.2.2.1.2.1), (.bool y.2.2.2.2.1.2.2.1), (.int .u8 y.2.2.2.2.2.1.1), (.bool y.2.2.2.2.2.1.2.1)]) (congrArg some h11) Try.underlying81 rfl (by kernel_rfl) (cellsAt_below hel2 hb hlb2)) ⟨Below.refl _ _, rfl, nofr rfl⟩
                  · exfalso; simp at hact
                refine ⟨fun wu13 hC hd => ?_, ?_⟩
                · obtain ⟨h4, h8, h12, _⟩ := hd
                  skip
                  skip
                  skip
                  replace h4 : V 4 = (.bool false) := h4
                  replace h8 : V 8 = (.agg #[(.string y.1), (.string y.2.1), (.int .u8 y.2.2.1), (.int .u32 y.2.2.2.1), (.int .u32 y.2.2.2.2.1.1), (.int .u32 y.2.2.2.2.1.2.1), (.bool y.2.2.2.2.1.2.2.1), (.int .u8 y.2.2.2.2.2.1.1), (.bool y.2.2.2.2.2.1.2.1)]) := h8
                  replace h12 : V 12 = (.agg #[(.string y.1), (.string y.2.1), (.int .u8 y.2.2.1), (.int .u32 y.2.2.2.1), (.int .u32 y.2.2.2.2.1.1), (.int .u32 y.2.2.2.2.1.2.1), (.bool y.2.2.2.2.1.2.2.1), (.int .u8 y.2.2.2.2.2.1.1), (.bool y.2.2.2.2.2.1.2.1)]) := h12
                  replace hb := hb.trans (hC.mono hb.size)
                  replace hro := Row.ext hro hC
                  refine ⟨true, false, congrArg some h4, fun hact => ?_, fun hact => ?_⟩
                  · exact Runs.does (Runs.veq (r_ane (k := 5) (congrArg some h8) (congrArg some h12) (by kernel_rfl) (eqt_struct (xs := #[(.string y.1), (.string y.2.1), (.int .u8 y.2.2.1), (.int .u32 y.2.2.2.1), (.int .u32 y.2.2.2.2.1.1), (.int .u32 y.2.2.2.2.1.2.1), (.bool y.2.2.2.2.1.2.2.1), (.int .u8 y.2.2.2.2.2.1.1), (.bool y.2.2.2.2.2.1.2.1)]) (ys := #[(.string y.1), (.string y.2.1), (.int .u8 y.2.2.1), (.int .u32 y.2.2.2.1), (.int .u32 y.2.2.2.2.1.1), (.int .u32 y.2.2.2.2.1.2.1), (.bool y.2.2.2.2.1.2.2.1), (.int .u8 y.2.2.2.2.2.1.1), (.bool y.2.2.2.2.2.1.2.1)]) Try.underlying81 (by kernel_rfl) (eqf_cons (by kernel_rfl) (fun _ => by kernel_rfl) (fun _ => by kernel_rfl) (eqt_str (a := y.1) (b := y.1) Try.underlying9) (eqf_cons (by kernel_rfl) (fun _ => by kernel_rfl) (fun _ => by kernel_rfl) (eqt_str (a := y.2.1) (b := y.2.1) Try.underlying9) (eqf_cons (by kernel_rfl) (fun _ => by kernel_rfl) (fun _ => by kernel_rfl) (eqt_int (kk := .u8) (a := y.2.2.1) (b := y.2.2.1) Try.underlying5) (eqf_cons (by kernel_rfl) (fun _ => by kernel_rfl) (fun _ => by kernel_rfl) (eqt_int (kk := .u32) (a := y.2.2.2.1) (b := y.2.2.2.1) Try.underlying24) (eqf_cons (by kernel_rfl) (fun _ => by kernel_rfl) (fun _ => by kernel_rfl) (eqt_struct (xs := #[(.int .u32 y.2.2.2.2.1.1), (.int .u32 y.2.2.2.2.1.2.1), (.bool y.2.2.2.2.1.2.2.1)]) (ys := #[(.int .u32 y.2.2.2.2.1.1), (.int .u32 y.2.2.2.2.1.2.1), (.bool y.2.2.2.2.1.2.2.1)]) Try.underlying43 (by kernel_rfl) (eqf_cons (by kernel_rfl) (fun _ => by kernel_rfl) (fun _ => by kernel_rfl) (eqt_int (kk := .u32) (a := y.2.2.2.2.1.1) (b := y.2.2.2.2.1.1) Try.underlying24) (eqf_cons (by kernel_rfl) (fun _ => by kernel_rfl) (fun _ => by kernel_rfl) (eqt_int (kk := .u32) (a := y.2.2.2.2.1.2.1) (b := y.2.2.2.2.1.2.1) Try.underlying24) (eqf_one (by kernel_rfl) (fun _ => by kernel_rfl) (fun _ => by kernel_rfl) (eqt_bool (a := y.2.2.2.2.1.2.2.1) (b := y.2.2.2.2.1.2.2.1) Try.underlying4))))) (eqf_one (by kernel_rfl) (fun _ => by kernel_rfl) (fun _ => by kernel_rfl) (eqt_struct (xs := #[(.int .u8 y.2.2.2.2.2.1.1), (.bool y.2.2.2.2.2.1.2.1)]) (ys := #[(.int .u8 y.2.2.2.2.2.1.1), (.bool y.2.2.2.2.2.1.2.1)]) Try.underlying54 (by kernel_rfl) (eqf_cons (by kernel_rfl) (fun _ => by kernel_rfl) (fun _ => by kernel_rfl) (eqt_int (kk := .u8) (a := y.2.2.2.2.2.1.1) (b := y.2.2.2.2.2.1.1) Try.underlying5) (eqf_one (by kernel_rfl) (fun _ => by kernel_rfl) (fun _ => by kernel_rfl) (eqt_bool (a := y.2.2.2.2.2.1.2.1) (b := y.2.2.2.2.2.1.2.1) Try.underlying4))))))))))) rfl) (congrArg Value.bool (show _ = false from (by simp)))) ⟨Below.refl _ _, rfl, nofr rfl⟩
                  · exfalso; simp at hact
                refine ⟨fun wu14 hC hd => ?_, ?_⟩
                · obtain ⟨h4, h13, _⟩ := hd
                  skip
                  skip
                  replace h4 : V 4 = (.bool false) := h4
                  replace h13 : V 13 = (.bool false) := h13
                  replace hb := hb.trans (hC.mono hb.size)
                  replace hro := Row.ext hro hC
                  exact Runs.does (r_pick (b := false) (congrArg some h4) rfl (congrArg some h13) rfl) ⟨Below.refl _ _, rfl, nofr rfl⟩
                trivial
              · skip
                clear hf fa; intro V w5 fa he4 hp hnb hf
                have hv0 : V 0 = (.int .i64 ((n : Nat) : Int)) := postsHold_at hp 0 rfl
                have hv1 : V 1 = (.slice (some ⟨rb1, 0, none⟩) (((ofL L kd)).length) roc) := postsHold_at hp 1 rfl
                have hv2 : V 2 = (.int .i64 ((((ofL L kd)).length : Nat) : Int)) := postsHold_at hp 2 rfl
                have hv3 : V 3 = (.bool false) := postsHold_at hp 3 rfl
                have hv4 : V 4 = (.bool false) := postsHold_at hp 4 rfl
                have hv5 : V 5 = (.slice (some ⟨rb1, 0, none⟩) (((ofL L kd)).length) roc) := postsHold_at hp 5 rfl
                have hv6 : V 6 = (.int .i64 ((n : Nat) : Int)) := postsHold_at hp 6 rfl
                have hv7 : V 7 = (.pointer (some ⟨rb1, (0 + n * 9), none⟩)) := postsHold_at hp 7 rfl
                have hv8 : V 8 = (.agg #[(.string y.1), (.string y.2.1), (.int .u8 y.2.2.1), (.int .u32 y.2.2.2.1), (.int .u32 y.2.2.2.2.1.1), (.int .u32 y.2.2.2.2.1.2.1), (.bool y.2.2.2.2.1.2.2.1), (.int .u8 y.2.2.2.2.2.1.1), (.bool y.2.2.2.2.2.1.2.1)]) := postsHold_at hp 8 rfl
                have hv9 : V 9 = (.slice a L.length c) := postsHold_at hp 9 rfl
                have hv10 : V 10 = (.int .i64 ((k : Nat) : Int)) := postsHold_at hp 10 rfl
                have hv11 : V 11 = (.pointer (some ⟨ab1, (aoff1 + k * 9), none⟩)) := postsHold_at hp 11 rfl
                have hv12 : V 12 = (.agg #[(.string y.1), (.string y.2.1), (.int .u8 y.2.2.1), (.int .u32 y.2.2.2.1), (.int .u32 y.2.2.2.2.1.1), (.int .u32 y.2.2.2.2.1.2.1), (.bool y.2.2.2.2.1.2.2.1), (.int .u8 y.2.2.2.2.2.1.1), (.bool y.2.2.2.2.2.1.2.1)]) := postsHold_at hp 12 rfl
                have hv13 : V 13 = (.bool false) := postsHold_at hp 13 rfl
                have hv14 : V 14 = (.bool false) := postsHold_at hp 14 rfl
                simp only [List.take_succ_cons, List.take_zero, insAll, ins, hv0, hv1, hv2, hv3, hv4, hv5, hv6, hv7, hv8, hv9, hv10, hv11, hv12, hv13, hv14] at hf
                clear hp hnb hv0 hv1 hv2 hv3 hv4 hv5 hv6 hv7 hv8 hv9 hv10 hv11 hv12 hv13 hv14
                replace hro := Row.ext hro he4
                replace hb := hb.trans (Below.mono he4 hb.size)
                (try simp only [Exit.then, Exit.inBlock, ↓reduceIte, Nat.reduceEqDiff])
                refine hK19 _ _ ?_
                refine wp_cond_false (hf.ev rfl) ?_
                refine wp_skip ?_
                (try simp only [Exit.then, Exit.inBlock, ↓reduceIte, Nat.reduceEqDiff])
                refine hK18 _ _ ?_
                refine wp_seq_k (fun K20 hK20 => ?_)
                refine wp_seq_k (fun K21 hK21 => ?_)
                refine wp_region_lit ?_
                refine sqv hf (r_move rfl) rfl rfl rfl ?_; clear hf fa; intro fa hf
                refine sqv hf (r_not rfl) rfl rfl rfl ?_; clear hf fa; intro fa hf
                refine sqv hf (r_move rfl) rfl rfl rfl ?_; clear hf fa; intro fa hf
                refine sqgT (act := (!fd)) (ag := true) (c := (!fd)) (v := (.slice a L.length c)) hf rfl rfl rfl (fun hact => (r_move rfl)) rfl rfl ?_; clear hf fa; intro fa hf
                refine sqgT (act := (!fd)) (ag := true) (c := (!fd)) (v := (.int .i64 ((k : Nat) : Int))) hf rfl rfl rfl (fun hact => (r_move rfl)) rfl rfl ?_; clear hf fa; intro fa hf
                refine sqgT (act := (!fd)) (ag := true) (c := (!fd)) (v := (.pointer (some ⟨ab1, (aoff1 + k * 9), none⟩))) hf rfl rfl rfl (fun hact => (by have hact0 := hact; (try simp only [Bool.and_eq_true, Bool.not_eq_true', Bool.or_eq_false_iff, Bool.or_eq_true, Bool.and_eq_false_iff, ne_eq, decide_eq_true_eq, decide_eq_false_iff_not] at hact0); exact (r_ixa (sz := 9) (j := k) (evAt (gb_ev hact rfl) hat1) (gb_ev hact rfl) Try.underlying79 (by kernel_rfl) rfl (by omega) rfl))) rfl rfl ?_; clear hf fa; intro fa hf
                refine sqgT (act := (!fd)) (ag := true) (c := (!fd)) (v := (.pointer (some ⟨ab1, (aoff1 + k * 9), none⟩))) hf rfl rfl rfl (fun hact => (r_fa (gb_ev hact rfl) Try.underlying81 (f := 0) (q := (aoff1 + k * 9)) rfl (by kernel_rfl) rfl)) rfl rfl ?_; clear hf fa; intro fa hf
                refine sqgT (act := (!fd)) (ag := true) (c := (!fd)) (v := (.string y.1)) hf rfl rfl rfl (fun hact => (r_load (v := (.string y.1)) (gb_ev hact rfl) Try.underlying9 rfl (cellsAt_cell (cellsAt_below hel2 hb hlb2) (i := 0) rfl rfl))) rfl rfl ?_; clear hf fa; intro fa hf
                refine sqgT (act := (!fd)) (ag := true) (c := (!fd)) (v := (.string z.1)) hf rfl rfl rfl (fun hact => (r_move rfl)) rfl rfl ?_; clear hf fa; intro fa hf
                refine sqgT (act := (!fd)) (ag := true) (c := (!fd)) (v := (.bool (decide (y.1 = z.1)))) hf rfl rfl rfl (fun hact => (r_seq (gb_ev hact rfl) (gb_ev hact rfl))) rfl rfl ?_; clear hf fa; intro fa hf
                refine sqv hf (r_pickA (b := (!fd)) (e := (decide (y.1 = z.1))) rfl rfl rfl) rfl rfl rfl ?_; clear hf fa; intro fa hf
                refine sqv hf (r_move rfl) rfl rfl rfl ?_; clear hf fa; intro fa hf
                refine sqgT (act := ((!fd) && (decide (y.1 = z.1)))) (ag := true) (c := ((!fd) && (decide (y.1 = z.1)))) (v := (.slice a L.length c)) hf rfl rfl rfl (fun hact => (r_move rfl)) rfl rfl ?_; clear hf fa; intro fa hf
                refine sqgT (act := ((!fd) && (decide (y.1 = z.1)))) (ag := true) (c := ((!fd) && (decide (y.1 = z.1)))) (v := (.int .i64 ((k : Nat) : Int))) hf rfl rfl rfl (fun hact => (r_move rfl)) rfl rfl ?_; clear hf fa; intro fa hf
                refine sqgT (act := ((!fd) && (decide (y.1 = z.1)))) (ag := true) (c := ((!fd) && (decide (y.1 = z.1)))) (v := (.pointer (some ⟨ab1, (aoff1 + k * 9), none⟩))) hf rfl rfl rfl (fun hact => (by have hact0 := hact; (try simp only [Bool.and_eq_true, Bool.not_eq_true', Bool.or_eq_false_iff, Bool.or_eq_true, Bool.and_eq_false_iff, ne_eq, decide_eq_true_eq, decide_eq_false_iff_not] at hact0); exact (r_ixa (sz := 9) (j := k) (evAt (gb_ev hact rfl) hat1) (gb_ev hact rfl) Try.underlying79 (by kernel_rfl) rfl (by omega) rfl))) rfl rfl ?_; clear hf fa; intro fa hf
                refine sqgT (act := ((!fd) && (decide (y.1 = z.1)))) (ag := true) (c := ((!fd) && (decide (y.1 = z.1)))) (v := (.pointer (some ⟨ab1, ((aoff1 + k * 9) + 1), none⟩))) hf rfl rfl rfl (fun hact => (r_fa (gb_ev hact rfl) Try.underlying81 (f := 1) (q := ((aoff1 + k * 9) + 1)) rfl (by kernel_rfl) rfl)) rfl rfl ?_; clear hf fa; intro fa hf
                refine sqgT (act := ((!fd) && (decide (y.1 = z.1)))) (ag := true) (c := ((!fd) && (decide (y.1 = z.1)))) (v := (.string y.2.1)) hf rfl rfl rfl (fun hact => (r_load (v := (.string y.2.1)) (gb_ev hact rfl) Try.underlying9 rfl (cellsAt_cell (cellsAt_below hel2 hb hlb2) (i := 1) rfl rfl))) rfl rfl ?_; clear hf fa; intro fa hf
                refine sqgT (act := ((!fd) && (decide (y.1 = z.1)))) (ag := true) (c := ((!fd) && (decide (y.1 = z.1)))) (v := (.string z.2.1)) hf rfl rfl rfl (fun hact => (r_move rfl)) rfl rfl ?_; clear hf fa; intro fa hf
                refine sqgT (act := ((!fd) && (decide (y.1 = z.1)))) (ag := true) (c := ((!fd) && (decide (y.1 = z.1)))) (v := (.bool (decide (y.2.1 = z.2.1)))) hf rfl rfl rfl (fun hact => (r_seq (gb_ev hact rfl) (gb_ev hact rfl))) rfl rfl ?_; clear hf fa; intro fa hf
                refine sqv hf (r_pickA (b := ((!fd) && (decide (y.1 = z.1)))) (e := (decide (y.2.1 = z.2.1))) rfl rfl rfl) rfl rfl rfl ?_; clear hf fa; intro fa hf
                apply wpList_nil
                (try simp only [Exit.then, Exit.inBlock, ↓reduceIte, Nat.reduceEqDiff])
                refine hK21 _ _ ?_
                refine wp_cond_split (t := (((!fd) && (decide (y.1 = z.1))) && (decide (y.2.1 = z.2.1)))) (hf.ev rfl) (fun hqt92_1 => ?_) (fun hqt92_1 => ?_)
                · have hqt92_1b := hqt92_1
                  try simp only [decide_eq_true_eq, Bool.and_eq_true, Bool.or_eq_true, Bool.not_eq_true', decide_eq_false_iff_not, ne_eq, Bool.not_eq_true] at hqt92_1
                  refine wp_region_lit ?_
                  refine sqv hf (r_move rfl) rfl rfl rfl ?_; clear hf fa; intro fa hf
                  refine sqv hf (r_assign rfl) rfl rfl rfl ?_; clear hf fa; intro fa hf
                  refine sqv hf (r_assign rfl) rfl rfl rfl ?_; clear hf fa; intro fa hf
                  apply wpList_nil
                  (try simp only [Exit.then, Exit.inBlock, ↓reduceIte, Nat.reduceEqDiff])
                  refine hK20 _ _ ?_
                  refine wp_region_lit ?_
                  refine sqv hf (r_move rfl) rfl rfl rfl ?_; clear hf fa; intro fa hf
                  refine sqv hf (r_add (C := (((n : Nat) : Int) + (1 : Int))) rfl rfl (by rw [IntKind.wrap_i64]; omega)) rfl rfl rfl ?_; clear hf fa; intro fa hf
                  refine sqv hf (r_assign rfl) rfl rfl rfl ?_; clear hf fa; intro fa hf
                  apply wpList_nil
                  (try simp only [Exit.then, Exit.inBlock, ↓reduceIte, Nat.reduceEqDiff])
                  refine hK15 _ _ ?_
                  refine wp_region_lit ?_
                  refine sqv hf (r_move rfl) rfl rfl rfl ?_; clear hf fa; intro fa hf
                  refine sqv hf (r_add (C := (((k : Nat) : Int) + (1 : Int))) rfl rfl (by rw [IntKind.wrap_i64]; omega)) rfl rfl rfl ?_; clear hf fa; intro fa hf
                  refine sqv hf (r_assign rfl) rfl rfl rfl ?_; clear hf fa; intro fa hf
                  apply wpList_nil
                  (try simp only [Exit.then, Exit.inBlock, ↓reduceIte, Nat.reduceEqDiff])
                  refine hKL1 _ _ _ (by omega) ⟨(k + 1), (n + 1), n, true, (some ⟨rb1, 0, none⟩), roc, rfl, hf.sub ⟨rfl, rfl, rfl, rfl, (some_int (by first | rfl | omega)), rfl, rfl, (some_int (by first | rfl | omega)), rfl, trivial⟩, hb, (Row.relen hro), by omega, (ivI_hit hy (by have h := hqt57_1; exact Decidable.not_not.1 h) hqt92_1b Hi)⟩
                · have hqt92_1b := hqt92_1
                  replace hqt92_1 := Bool.eq_false_iff.1 hqt92_1
                  try simp only [ne_eq, decide_eq_true_eq, Bool.and_eq_true, Bool.or_eq_true, Bool.not_eq_true', decide_eq_false_iff_not] at hqt92_1
                  refine wp_skip ?_
                  (try simp only [Exit.then, Exit.inBlock, ↓reduceIte, Nat.reduceEqDiff])
                  refine hK20 _ _ ?_
                  refine wp_region_lit ?_
                  refine sqv hf (r_move rfl) rfl rfl rfl ?_; clear hf fa; intro fa hf
                  refine sqv hf (r_add (C := (((n : Nat) : Int) + (1 : Int))) rfl rfl (by rw [IntKind.wrap_i64]; omega)) rfl rfl rfl ?_; clear hf fa; intro fa hf
                  refine sqv hf (r_assign rfl) rfl rfl rfl ?_; clear hf fa; intro fa hf
                  apply wpList_nil
                  (try simp only [Exit.then, Exit.inBlock, ↓reduceIte, Nat.reduceEqDiff])
                  refine hK15 _ _ ?_
                  refine wp_region_lit ?_
                  refine sqv hf (r_move rfl) rfl rfl rfl ?_; clear hf fa; intro fa hf
                  refine sqv hf (r_add (C := (((k : Nat) : Int) + (1 : Int))) rfl rfl (by rw [IntKind.wrap_i64]; omega)) rfl rfl rfl ?_; clear hf fa; intro fa hf
                  refine sqv hf (r_assign rfl) rfl rfl rfl ?_; clear hf fa; intro fa hf
                  apply wpList_nil
                  (try simp only [Exit.then, Exit.inBlock, ↓reduceIte, Nat.reduceEqDiff])
                  refine hKL1 _ _ _ (by omega) ⟨(k + 1), (n + 1), pl, fd, (some ⟨rb1, 0, none⟩), roc, rfl, hf.sub ⟨rfl, rfl, rfl, rfl, (some_int (by first | rfl | omega)), rfl, rfl, (some_int (by first | rfl | omega)), rfl, trivial⟩, hb, (Row.relen hro), by omega, (ivI_miss hy (by have h := hqt57_1; exact Decidable.not_not.1 h) hqt92_1b Hi)⟩
          · have hqt48_1b := hqt48_1
            replace hqt48_1 := Bool.eq_false_iff.1 hqt48_1
            try simp only [ne_eq, decide_eq_true_eq, Bool.and_eq_true, Bool.or_eq_true, Bool.not_eq_true', decide_eq_false_iff_not] at hqt48_1
            refine wp_exit ?_
            (try simp only [Exit.then, Exit.inBlock, ↓reduceIte, Nat.reduceEqDiff])
            refine hK11 _ _ ?_
            refine wp_seq_k (fun K22 hK22 => ?_)
            obtain ⟨hE1, hE2⟩ := ivI_end (by omega) Hi
            refine wp_region_lit ?_
            refine sqv hf (r_move rfl) rfl rfl rfl ?_; clear hf fa; intro fa hf
            refine sqv hf (r_move rfl) rfl rfl rfl ?_; clear hf fa; intro fa hf
            refine sqv hf (r_move rfl) rfl rfl rfl ?_; clear hf fa; intro fa hf
            refine sqv hf (r_move rfl) rfl rfl rfl ?_; clear hf fa; intro fa hf
            refine sqdt hf (d_callB (vs := [(.slice a L.length c), (.int .u8 kd), (.string z.1), (.string z.2.1)]) rfl Try.func55 (by kernel_rfl) (by kernel_rfl) (place_any a L c kd z.1 z.2.1 _ (RdS.ext hl hb) hlc hl9)) rfl rfl rfl ?_; clear hf fa; rintro fa _ w6 ⟨rfl, he5⟩ hf
            replace hro := Row.ext hro he5
            replace hb := hb.trans (Below.mono he5 hb.size)
            refine sqv hf (r_move rfl) rfl rfl rfl ?_; clear hf fa; intro fa hf
            refine sqv hf (r_extract rfl (i := 0) rfl) rfl rfl rfl ?_; clear hf fa; intro fa hf
            refine sqv hf (r_extract rfl (i := 1) rfl) rfl rfl rfl ?_; clear hf fa; intro fa hf
            refine sqv hf (r_assign rfl) rfl rfl rfl ?_; clear hf fa; intro fa hf
            refine sqv hf (r_assign rfl) rfl rfl rfl ?_; clear hf fa; intro fa hf
            apply wpList_nil
            (try simp only [Exit.then, Exit.inBlock, ↓reduceIte, Nat.reduceEqDiff])
            refine hK22 _ _ ?_
            refine wp_seq_k (fun K23 hK23 => ?_)
            refine wp_region_lit ?_
            refine sqv hf (r_move rfl) rfl rfl rfl ?_; clear hf fa; intro fa hf
            refine sqv hf (r_move rfl) rfl rfl rfl ?_; clear hf fa; intro fa hf
            refine sqv hf (r_lensl rfl Try.underlying79) rfl rfl rfl ?_; clear hf fa; intro fa hf
            refine sqv hf (Runs.veq (r_eq rfl rfl) (congrArg Value.bool (show _ = true from (by simp; omega)))) rfl rfl rfl ?_; clear hf fa; intro fa hf
            refine sqv hf (r_move rfl) rfl rfl rfl ?_; clear hf fa; intro fa hf
            refine sqgd (act := true) (g := 4) (want := true) (ag := true) (c := true) hf (by rfl) (by rfl) rfl (fun _ =>  Runs.does (R := fun vq wq => vq = (.slice a L.length c) ∧ w6 = wq) (r_move rfl) ⟨rfl, rfl⟩) (fun h => by cases h) rfl ?_; clear hf fa; rintro fa _ _ ⟨rfl, rfl⟩ hf
            change Fr _ _ ((109, (.slice a L.length c)) :: _) at hf
            refine sqgd (act := true) (g := 4) (want := true) (ag := true) (c := true) hf (by rfl) (by rfl) rfl (fun _ =>  Runs.does (R := fun vq wq => vq = (.int .u8 kd) ∧ w6 = wq) (r_move rfl) ⟨rfl, rfl⟩) (fun h => by cases h) rfl ?_; clear hf fa; rintro fa _ _ ⟨rfl, rfl⟩ hf
            change Fr _ _ ((110, (.int .u8 kd)) :: _) at hf
            refine sqgd (act := true) (g := 4) (want := true) (ag := true) (c := true) hf (by rfl) (by rfl) rfl (fun _ =>  (d_callB (vs := [(.slice a L.length c), (.int .u8 kd)]) rfl Try.func56 (by kernel_rfl) (by kernel_rfl) (icount_any a L c kd _ (RdS.ext hl hb) hlc hl9)) ) (fun h => by cases h) rfl ?_; clear hf fa; rintro fa _ w7 ⟨rfl, he6⟩ hf
            replace hro := Row.ext hro he6
            replace hb := hb.trans (Below.mono he6 hb.size)
            change Fr _ _ ((111, (.int .i64 (((ofL L kd).length : Nat) : Int))) :: _) at hf
            refine sqgd (act := true) (g := 4) (want := true) (ag := true) (c := true) hf (by rfl) (by rfl) rfl (fun _ =>  Runs.does (R := fun vq wq => vq = (.int .i64 ((n : Nat) : Int)) ∧ w7 = wq) (r_move rfl) ⟨rfl, rfl⟩) (fun h => by cases h) rfl ?_; clear hf fa; rintro fa _ _ ⟨rfl, rfl⟩ hf
            change Fr _ _ ((112, (.int .i64 ((n : Nat) : Int))) :: _) at hf
            refine sqgd (act := true) (g := 4) (want := true) (ag := true) (c := true) hf (by rfl) (by rfl) rfl (fun _ =>  Runs.does (R := fun vq wq => vq = (.bool true) ∧ w7 = wq) (Runs.veq (r_eq rfl rfl) (congrArg Value.bool (show _ = true from (by simp; omega)))) ⟨rfl, rfl⟩) (fun h => by cases h) rfl ?_; clear hf fa; rintro fa _ _ ⟨rfl, rfl⟩ hf
            change Fr _ _ ((113, (.bool true)) :: _) at hf
            refine sqv hf (r_pick (b := true) rfl rfl rfl rfl) rfl rfl rfl ?_; clear hf fa; intro fa hf
            refine sqv hf (r_move rfl) rfl rfl rfl ?_; clear hf fa; intro fa hf
            refine sqgd (act := true) (g := 11) (want := true) (ag := true) (c := true) hf (by rfl) (by rfl) rfl (fun _ =>  Runs.does (R := fun vq wq => vq = (.int .i64 (((plP z.1 z.2.1 (ofL L kd)).1 : Nat) : Int)) ∧ w7 = wq) (r_move rfl) ⟨rfl, rfl⟩) (fun h => by cases h) rfl ?_; clear hf fa; rintro fa _ _ ⟨rfl, rfl⟩ hf
            change Fr _ _ ((116, (.int .i64 (((plP z.1 z.2.1 (ofL L kd)).1 : Nat) : Int))) :: _) at hf
            refine sqgd (act := true) (g := 11) (want := true) (ag := true) (c := true) hf (by rfl) (by rfl) rfl (fun _ =>  Runs.does (R := fun vq wq => vq = (.int .i64 ((pl : Nat) : Int)) ∧ w7 = wq) (r_move rfl) ⟨rfl, rfl⟩) (fun h => by cases h) rfl ?_; clear hf fa; rintro fa _ _ ⟨rfl, rfl⟩ hf
            change Fr _ _ ((117, (.int .i64 ((pl : Nat) : Int))) :: _) at hf
            refine sqgd (act := true) (g := 11) (want := true) (ag := true) (c := true) hf (by rfl) (by rfl) rfl (fun _ =>  Runs.does (R := fun vq wq => vq = (.bool true) ∧ w7 = wq) (Runs.veq (r_eq rfl rfl) (congrArg Value.bool (show _ = true from (by rw [hE2]; simp)))) ⟨rfl, rfl⟩) (fun h => by cases h) rfl ?_; clear hf fa; rintro fa _ _ ⟨rfl, rfl⟩ hf
            change Fr _ _ ((118, (.bool true)) :: _) at hf
            refine sqv hf (r_pick (b := true) rfl rfl rfl rfl) rfl rfl rfl ?_; clear hf fa; intro fa hf
            refine sqv hf (r_move rfl) rfl rfl rfl ?_; clear hf fa; intro fa hf
            refine sqgd (act := true) (g := 16) (want := true) (ag := true) (c := true) hf (by rfl) (by rfl) rfl (fun _ =>  Runs.does (R := fun vq wq => vq = (.bool (plP z.1 z.2.1 (ofL L kd)).2) ∧ w7 = wq) (r_move rfl) ⟨rfl, rfl⟩) (fun h => by cases h) rfl ?_; clear hf fa; rintro fa _ _ ⟨rfl, rfl⟩ hf
            change Fr _ _ ((121, (.bool (plP z.1 z.2.1 (ofL L kd)).2)) :: _) at hf
            refine sqgd (act := true) (g := 16) (want := true) (ag := true) (c := true) hf (by rfl) (by rfl) rfl (fun _ =>  Runs.does (R := fun vq wq => vq = (.bool fd) ∧ w7 = wq) (r_move rfl) ⟨rfl, rfl⟩) (fun h => by cases h) rfl ?_; clear hf fa; rintro fa _ _ ⟨rfl, rfl⟩ hf
            change Fr _ _ ((122, (.bool fd)) :: _) at hf
            refine sqgd (act := true) (g := 16) (want := true) (ag := true) (c := true) hf (by rfl) (by rfl) rfl (fun _ =>  Runs.does (R := fun vq wq => vq = (.bool true) ∧ w7 = wq) (Runs.veq (r_beq Try.underlying4 rfl rfl) (congrArg Value.bool (show _ = true from (by rw [hE2]; simp)))) ⟨rfl, rfl⟩) (fun h => by cases h) rfl ?_; clear hf fa; rintro fa _ _ ⟨rfl, rfl⟩ hf
            change Fr _ _ ((123, (.bool true)) :: _) at hf
            refine sqv hf (r_pick (b := true) rfl rfl rfl rfl) rfl rfl rfl ?_; clear hf fa; intro fa hf
            refine sqv hf (r_assign rfl) rfl rfl rfl ?_; clear hf fa; intro fa hf
            apply wpList_nil
            (try simp only [Exit.then, Exit.inBlock, ↓reduceIte, Nat.reduceEqDiff])
            refine hK23 _ _ ?_
            refine wp_ret ?_
            (try simp only [Exit.then, Exit.inBlock])
            refine ret1 hf rfl rfl ?_
            exact ⟨rfl, hb⟩
    · have hqt23_1b := hqt23_1
      replace hqt23_1 := Bool.eq_false_iff.1 hqt23_1
      try simp only [ne_eq, decide_eq_true_eq, Bool.and_eq_true, Bool.or_eq_true, Bool.not_eq_true', decide_eq_false_iff_not] at hqt23_1
      refine wp_skip ?_
      (try simp only [Exit.then, Exit.inBlock, ↓reduceIte, Nat.reduceEqDiff])
      refine hK8 _ _ ?_
      refine wp_seq_k (fun K24 hK24 => ?_)
      skip
      refine wp_region_lit ?_
      refine sqv hf (r_move rfl) rfl rfl rfl ?_; clear hf fa; intro fa hf
      refine sqv hf (r_move rfl) rfl rfl rfl ?_; clear hf fa; intro fa hf
      refine sqdt hf (d_callX (vs := [(.slice a L.length c), (.int .u8 kd)]) rfl Try.func54 (by kernel_rfl) (by kernel_rfl) (of_any a L c kd _ (RdS.ext hl hb) hlc hl9)) rfl rfl rfl ?_; clear hf fa; rintro fa v w8 ⟨hr2, he7⟩ hf; obtain ⟨ra2, rc2, rfl, hcrc2, hmrc2⟩ := Row.slice hr2
      replace hr2 := Row.rebase hr2 hb.size
      replace hb := hb.trans (Below.mono he7 hb.size)
      refine sqv hf (r_assign rfl) rfl rfl rfl ?_; clear hf fa; intro fa hf
      refine sqv hf (r_assign rfl) rfl rfl rfl ?_; clear hf fa; intro fa hf
      refine sqv hf (r_assign rfl) rfl rfl rfl ?_; clear hf fa; intro fa hf
      refine sqv hf (r_assign rfl) rfl rfl rfl ?_; clear hf fa; intro fa hf
      apply wpList_nil
      (try simp only [Exit.then, Exit.inBlock, ↓reduceIte, Nat.reduceEqDiff])
      refine hK24 _ _ ?_
      refine wp_seq_k (fun K25 hK25 => ?_)
      refine wp_seq_k (fun K26 hK26 => ?_)
      refine wp_region_lit ?_
      refine sqv hf (r_assign rfl) rfl rfl rfl ?_; clear hf fa; intro fa hf
      apply wpList_nil
      (try simp only [Exit.then, Exit.inBlock, ↓reduceIte, Nat.reduceEqDiff])
      refine hK26 _ _ ?_
      refine wp_block ?_
      refine wp_loop_k (fun mq fa wr => ∃ (k : Nat) (n : Nat) (pl : Nat) (fd : Bool) (roa : Option Addr) (roc : Nat), mq = L.length - k ∧ Fr 125 fa [(0, (.slice a L.length c)), (1, (.int .u8 kd)), (7, (.string ⟨#[101, 110, 118]⟩)), (8, (.string ⟨#[102]⟩)), (10, (.int .i64 ((n : Nat) : Int))), (11, (.int .i64 ((pl : Nat) : Int))), (12, (.bool fd)), (13, (.int .i64 ((k : Nat) : Int))), (9, (.slice roa (((ofL L kd)).length) roc))] ∧ Below w.heap.size w wr ∧ Row 9 vMImp 81 (w.heap.size) wr (.slice roa (((ofL L kd)).length) roc) (ofL L kd) ∧ (k ≤ L.length) ∧ (IvI (⟨#[101, 110, 118]⟩ : ByteArray) (⟨#[102]⟩ : ByteArray) L kd k n pl fd)) ?_ ?_
      · skip
        exact ⟨_, 0, 0, 0, false, ra2, rc2, rfl, hf.sub ⟨rfl, rfl, rfl, rfl, (some_int (by first | rfl | omega)), (some_int (by first | rfl | omega)), rfl, (some_int (by first | rfl | omega)), rfl, trivial⟩, hb, (Row.relen hr2), by omega, ivI0⟩
      · skip
        clear hf fa; intro mq2 fa w9 hI KL2 hKL2
        clear hb
        clear hr2
        obtain ⟨k, n, pl, fd, roa, roc, hmq2, hf, hb, hro, hk, Hi⟩ := hI
        have hcro := Row.caps hro
        refine wp_seq_k (fun K27 hK27 => ?_)
        refine wp_seq_k (fun K28 hK28 => ?_)
        refine wp_region_lit ?_
        refine sqv hf (r_move rfl) rfl rfl rfl ?_; clear hf fa; intro fa hf
        refine sqv hf (r_move rfl) rfl rfl rfl ?_; clear hf fa; intro fa hf
        refine sqv hf (r_lensl rfl Try.underlying79) rfl rfl rfl ?_; clear hf fa; intro fa hf
        refine sqv hf (r_lt rfl rfl) rfl rfl rfl ?_; clear hf fa; intro fa hf
        apply wpList_nil
        (try simp only [Exit.then, Exit.inBlock, ↓reduceIte, Nat.reduceEqDiff])
        refine hK28 _ _ ?_
        refine wp_cond_split (t := (decide (((k : Nat) : Int) < ((L.length : Nat) : Int)))) (hf.ev rfl) (fun hqt48_2 => ?_) (fun hqt48_2 => ?_)
        · have hqt48_2b := hqt48_2
          try simp only [decide_eq_true_eq, Bool.and_eq_true, Bool.or_eq_true, Bool.not_eq_true', decide_eq_false_iff_not, ne_eq, Bool.not_eq_true] at hqt48_2
          refine wp_skip ?_
          (try simp only [Exit.then, Exit.inBlock, ↓reduceIte, Nat.reduceEqDiff])
          refine hK27 _ _ ?_
          refine wp_seq_k (fun K29 hK29 => ?_)
          refine wp_block ?_
          refine wp_seq_k (fun K30 hK30 => ?_)
          refine wp_seq_k (fun K31 hK31 => ?_)
          obtain ⟨y, hy⟩ : ∃ x, L[k]? = some x := ⟨_, List.getElem?_eq_getElem (by omega)⟩
          refine wp_region_lit ?_
          refine sqv hf (r_move rfl) rfl rfl rfl ?_; clear hf fa; intro fa hf
          refine sqv hf (r_move rfl) rfl rfl rfl ?_; clear hf fa; intro fa hf
          have hy4 : (L)[k]? = some y := hy
          obtain ⟨ab2, aoff2, hat2, hlb3, hel4⟩ := RdS.at hl hy4
          refine sqv hf (r_ixa (sz := 9) (j := k) (evAt rfl hat2) rfl Try.underlying79 (by kernel_rfl) rfl (by omega) rfl) rfl rfl rfl ?_; clear hf fa; intro fa hf
          refine sqv hf (r_fa rfl Try.underlying81 (f := 2) (q := ((aoff2 + k * 9) + 2)) rfl (by kernel_rfl) rfl) rfl rfl rfl ?_; clear hf fa; intro fa hf
          refine sqv hf (r_load (v := (.int .u8 y.2.2.1)) rfl Try.underlying5 rfl (cellsAt_cell (cellsAt_below hel4 hb hlb3) (i := 2) rfl rfl)) rfl rfl rfl ?_; clear hf fa; intro fa hf
          refine sqv hf (r_move rfl) rfl rfl rfl ?_; clear hf fa; intro fa hf
          refine sqv hf (r_ne rfl rfl) rfl rfl rfl ?_; clear hf fa; intro fa hf
          apply wpList_nil
          (try simp only [Exit.then, Exit.inBlock, ↓reduceIte, Nat.reduceEqDiff])
          refine hK31 _ _ ?_
          refine wp_cond_split (t := (decide (y.2.2.1 ≠ kd))) (hf.ev rfl) (fun hqt57_2 => ?_) (fun hqt57_2 => ?_)
          · have hqt57_2b := hqt57_2
            try simp only [decide_eq_true_eq, Bool.and_eq_true, Bool.or_eq_true, Bool.not_eq_true', decide_eq_false_iff_not, ne_eq, Bool.not_eq_true] at hqt57_2
            refine wp_exit ?_
            (try simp only [Exit.then, Exit.inBlock, ↓reduceIte, Nat.reduceEqDiff])
            refine hK29 _ _ ?_
            refine wp_region_lit ?_
            refine sqv hf (r_move rfl) rfl rfl rfl ?_; clear hf fa; intro fa hf
            refine sqv hf (r_add (C := (((k : Nat) : Int) + (1 : Int))) rfl rfl (by rw [IntKind.wrap_i64]; omega)) rfl rfl rfl ?_; clear hf fa; intro fa hf
            refine sqv hf (r_assign rfl) rfl rfl rfl ?_; clear hf fa; intro fa hf
            apply wpList_nil
            (try simp only [Exit.then, Exit.inBlock, ↓reduceIte, Nat.reduceEqDiff])
            refine hKL2 _ _ _ (by omega) ⟨(k + 1), n, pl, fd, roa, roc, rfl, hf.sub ⟨rfl, rfl, rfl, rfl, rfl, rfl, rfl, (some_int (by first | rfl | omega)), rfl, trivial⟩, hb, (Row.relen hro), by omega, (ivI_no hy hqt57_2 Hi)⟩
          · have hqt57_2b := hqt57_2
            replace hqt57_2 := Bool.eq_false_iff.1 hqt57_2
            try simp only [ne_eq, decide_eq_true_eq, Bool.and_eq_true, Bool.or_eq_true, Bool.not_eq_true', decide_eq_false_iff_not] at hqt57_2
            refine wp_skip ?_
            (try simp only [Exit.then, Exit.inBlock, ↓reduceIte, Nat.reduceEqDiff])
            refine hK30 _ _ ?_
            refine wp_seq_k (fun K32 hK32 => ?_)
            refine wp_seq_k (fun K33 hK33 => ?_)
            obtain ⟨hx, hnl⟩ := ivI_get hy (by have h := hqt57_2; exact Decidable.not_not.1 h) Hi
            obtain ⟨rb2, rfl, hbbrb2, hlbrb2⟩ := Row.some hro (by first | omega | (simp only [Sl.list_length, List.length_set, List.length_take, List.length_append, List.length_replicate, List.length_cons, List.length_nil, List.length_map, nums_len]; omega))
            have hy5 : ((ofL L kd))[n]? = some y := hx
            have hel5 := RdS.at (Row.rd (by intros; rfl) hro) hy5
            obtain ⟨_, _, hab, hlr2, hel5⟩ := hel5
            cases hab
            refine wp_region_un (fun wq => Below w9.heap.size w9 wq) (fun w w' => Below w.heap.size w w')
              (fun V => [(fun x _ => x = (.int .i64 ((n : Nat) : Int))), (fun x _ => x = (.slice (some ⟨rb2, 0, none⟩) (((ofL L kd)).length) roc)), (fun x _ => x = (.int .i64 ((((ofL L kd)).length : Nat) : Int))), (fun x _ => x = (.bool false)), (fun x _ => x = (.bool false)), (fun x _ => x = (.slice (some ⟨rb2, 0, none⟩) (((ofL L kd)).length) roc)), (fun x _ => x = (.int .i64 ((n : Nat) : Int))), (fun x _ => x = (.pointer (some ⟨rb2, (0 + n * 9), none⟩))), (fun x _ => x = (.agg #[(.string y.1), (.string y.2.1), (.int .u8 y.2.2.1), (.int .u32 y.2.2.2.1), (.int .u32 y.2.2.2.2.1.1), (.int .u32 y.2.2.2.2.1.2.1), (.bool y.2.2.2.2.1.2.2.1), (.int .u8 y.2.2.2.2.2.1.1), (.bool y.2.2.2.2.2.1.2.1)])), (fun x _ => x = (.slice a L.length c)), (fun x _ => x = (.int .i64 ((k : Nat) : Int))), (fun x _ => x = (.pointer (some ⟨ab2, (aoff2 + k * 9), none⟩))), (fun x _ => x = (.agg #[(.string y.1), (.string y.2.1), (.int .u8 y.2.2.1), (.int .u32 y.2.2.2.1), (.int .u32 y.2.2.2.2.1.1), (.int .u32 y.2.2.2.2.1.2.1), (.bool y.2.2.2.2.1.2.2.1), (.int .u8 y.2.2.2.2.2.1.1), (.bool y.2.2.2.2.2.1.2.1)])), (fun x _ => x = (.bool false)), (fun x _ => x = (.bool false))])
              []
              [[], [], [1], [0, 2], [3], [4], [4], [4, 5, 6], [4, 7], [4], [4], [4, 9, 10], [4, 11], [4, 8, 12], [4, 13]]
              hf (by kernel_rfl) (by kernel_rfl) (fun _ => rfl) ((Below.refl _ _).drew) (fun a b h1 h2 => h1.trans (h2.mono h1.size)) (fun _ _ h => h.size) (fun V => ⟨kept_eq, kept_eq, kept_eq, kept_eq, kept_eq, kept_eq, kept_eq, kept_eq, kept_eq, kept_eq, kept_eq, kept_eq, kept_eq, kept_eq, kept_eq, trivial⟩) (fun _ _ _ _ _ => rfl) ?_ ?_
            · skip
              intro V
              refine ⟨fun wu0 hC hd => ?_, ?_⟩
              · clear hd
                replace hb := hb.trans (hC.mono hb.size)
                replace hro := Row.ext hro hC
                exact Runs.does (r_move rfl) ⟨Below.refl _ _, rfl, nofr rfl⟩
              refine ⟨fun wu1 hC hd => ?_, ?_⟩
              · clear hd
                replace hb := hb.trans (hC.mono hb.size)
                replace hro := Row.ext hro hC
                exact Runs.does (r_move rfl) ⟨Below.refl _ _, rfl, nofr rfl⟩
              refine ⟨fun wu2 hC hd => ?_, ?_⟩
              · obtain ⟨h1, _⟩ := hd
                skip
                replace h1 : V 1 = (.slice (some ⟨rb2, 0, none⟩) (((ofL L kd)).length) roc) := h1
                replace hb := hb.trans (hC.mono hb.size)
                replace hro := Row.ext hro hC
                exact Runs.does (r_lensl (congrArg some h1) Try.underlying79) ⟨Below.refl _ _, rfl, nofr rfl⟩
              refine ⟨fun wu3 hC hd => ?_, ?_⟩
              · obtain ⟨h0, h2, _⟩ := hd
                skip
                skip
                replace h0 : V 0 = (.int .i64 ((n : Nat) : Int)) := h0
                replace h2 : V 2 = (.int .i64 ((((ofL L kd)).length : Nat) : Int)) := h2
                replace hb := hb.trans (hC.mono hb.size)
                replace hro := Row.ext hro hC
                exact Runs.does (Runs.veq (r_ge (congrArg some h0) (congrArg some h2)) (congrArg Value.bool (show _ = false from (by simp; omega)))) ⟨Below.refl _ _, rfl, nofr rfl⟩
              refine ⟨fun wu4 hC hd => ?_, ?_⟩
              · obtain ⟨h3, _⟩ := hd
                skip
                replace h3 : V 3 = (.bool false) := h3
                replace hb := hb.trans (hC.mono hb.size)
                replace hro := Row.ext hro hC
                exact Runs.does (r_move (congrArg some h3)) ⟨Below.refl _ _, rfl, nofr rfl⟩
              refine ⟨fun wu5 hC hd => ?_, ?_⟩
              · obtain ⟨h4, _⟩ := hd
                skip
                replace h4 : V 4 = (.bool false) := h4
                replace hb := hb.trans (hC.mono hb.size)
                replace hro := Row.ext hro hC
                refine ⟨true, false, congrArg some h4, fun hact => ?_, fun hact => ?_⟩
                · exact Runs.does (r_move rfl) ⟨Below.refl _ _, rfl, nofr rfl⟩
                · exfalso; simp at hact
              refine ⟨fun wu6 hC hd => ?_, ?_⟩
              · obtain ⟨h4, _⟩ := hd
                skip
                replace h4 : V 4 = (.bool false) := h4
                replace hb := hb.trans (hC.mono hb.size)
                replace hro := Row.ext hro hC
                refine ⟨true, false, congrArg some h4, fun hact => ?_, fun hact => ?_⟩
                · exact Runs.does (r_move rfl) ⟨Below.refl _ _, rfl, nofr rfl⟩
                · exfalso; simp at hact
              refine ⟨fun wu7 hC hd => ?_, ?_⟩
              · obtain ⟨h4, h5, h6, _⟩ := hd
                skip
                skip
                skip
                replace h4 : V 4 = (.bool false) := h4
                replace h5 : V 5 = (.slice (some ⟨rb2, 0, none⟩) (((ofL L kd)).length) roc) := h5
                replace h6 : V 6 = (.int .i64 ((n : Nat) : Int)) := h6
                replace hb := hb.trans (hC.mono hb.size)
                replace hro := Row.ext hro hC
                refine ⟨true, false, congrArg some h4, fun hact => ?_, fun hact => ?_⟩
                · exact Runs.does (r_ixa (sz := 9) (j := n) (congrArg some h5) (congrArg some h6) Try.underlying79 (by kernel_rfl) rfl (by omega) rfl) ⟨Below.refl _ _, rfl, nofr rfl⟩
                · exfalso; simp at hact
              refine ⟨fun wu8 hC hd => ?_, ?_⟩
              · obtain ⟨h4, h7, _⟩ := hd
                skip
                skip
                replace h4 : V 4 = (.bool false) := h4
                replace h7 : V 7 = (.pointer (some ⟨rb2, (0 + n * 9), none⟩)) := h7
                replace hb := hb.trans (hC.mono hb.size)
                replace hro := Row.ext hro hC
                refine ⟨true, false, congrArg some h4, fun hact => ?_, fun hact => ?_⟩
                · exact Runs.does (r_loadA (cs := [(.string y.1), (.string y.2.1), (.int .u8 y.2.2.1), (.int .u32 y.2.2.2.1), (.int .u32 y.2.2.2.2.1.1), (.int .u32 y.2.2.2.2.1.2.1), (.bool y.2.2.2.2.1.2.2.1), (.int .u8 y.2.2.2.2.2.1.1), (.bool y.2.2.2.2.2.1.2.1)]) (congrArg some h7) Try.underlying81 rfl (by kernel_rfl) (cellsAt_below hel5 hC hlr2)) ⟨Below.refl _ _, rfl, nofr rfl⟩
                · exfalso; simp at hact
              refine ⟨fun wu9 hC hd => ?_, ?_⟩
              · obtain ⟨h4, _⟩ := hd
                skip
                replace h4 : V 4 = (.bool false) := h4
                replace hb := hb.trans (hC.mono hb.size)
                replace hro := Row.ext hro hC
                refine ⟨true, false, congrArg some h4, fun hact => ?_, fun hact => ?_⟩
                · exact Runs.does (r_move rfl) ⟨Below.refl _ _, rfl, nofr rfl⟩
                · exfalso; simp at hact
              refine ⟨fun wu10 hC hd => ?_, ?_⟩
              · obtain ⟨h4, _⟩ := hd
                skip
                replace h4 : V 4 = (.bool false) := h4
                replace hb := hb.trans (hC.mono hb.size)
                replace hro := Row.ext hro hC
                refine ⟨true, false, congrArg some h4, fun hact => ?_, fun hact => ?_⟩
                · exact Runs.does (r_move rfl) ⟨Below.refl _ _, rfl, nofr rfl⟩
                · exfalso; simp at hact
              refine ⟨fun wu11 hC hd => ?_, ?_⟩
              · obtain ⟨h4, h9, h10, _⟩ := hd
                skip
                skip
                skip
                replace h4 : V 4 = (.bool false) := h4
                replace h9 : V 9 = (.slice a L.length c) := h9
                replace h10 : V 10 = (.int .i64 ((k : Nat) : Int)) := h10
                replace hb := hb.trans (hC.mono hb.size)
                replace hro := Row.ext hro hC
                refine ⟨true, false, congrArg some h4, fun hact => ?_, fun hact => ?_⟩
                · exact Runs.does (r_ixa (sz := 9) (j := k) (evAt (congrArg some h9) hat2) (congrArg some h10) Try.underlying79 (by kernel_rfl) rfl (by omega) rfl) ⟨Below.refl _ _, rfl, nofr rfl⟩
                · exfalso; simp at hact
              refine ⟨fun wu12 hC hd => ?_, ?_⟩
              · obtain ⟨h4, h11, _⟩ := hd
                skip
                skip
                replace h4 : V 4 = (.bool false) := h4
                replace h11 : V 11 = (.pointer (some ⟨ab2, (aoff2 + k * 9), none⟩)) := h11
                replace hb := hb.trans (hC.mono hb.size)
                replace hro := Row.ext hro hC
                refine ⟨true, false, congrArg some h4, fun hact => ?_, fun hact => ?_⟩
                · exact Runs.does (r_loadA (cs := [(.string y.1), (.string y.2.1), (.int .u8 y.2.2.1), (.int .u32 y.2.2.2.1), (.int .u32 y.2.2.2.2.1.1), (.int .u32 y.2.2.2.2.1.2.1), (.bool y.2.2.2.2.1.2.2.1), (.int .u8 y.2.2.2.2.2.1.1), (.bool y.2.2.2.2.2.1.2.1)]) (congrArg some h11) Try.underlying81 rfl (by kernel_rfl) (cellsAt_below hel4 hb hlb3)) ⟨Below.refl _ _, rfl, nofr rfl⟩
                · exfalso; simp at hact
              refine ⟨fun wu13 hC hd => ?_, ?_⟩
              · obtain ⟨h4, h8, h12, _⟩ := hd
                skip
                skip
                skip
                replace h4 : V 4 = (.bool false) := h4
                replace h8 : V 8 = (.agg #[(.string y.1), (.string y.2.1), (.int .u8 y.2.2.1), (.int .u32 y.2.2.2.1), (.int .u32 y.2.2.2.2.1.1), (.int .u32 y.2.2.2.2.1.2.1), (.bool y.2.2.2.2.1.2.2.1), (.int .u8 y.2.2.2.2.2.1.1), (.bool y.2.2.2.2.2.1.2.1)]) := h8
                replace h12 : V 12 = (.agg #[(.string y.1), (.string y.2.1), (.int .u8 y.2.2.1), (.int .u32 y.2.2.2.1), (.int .u32 y.2.2.2.2.1.1), (.int .u32 y.2.2.2.2.1.2.1), (.bool y.2.2.2.2.1.2.2.1), (.int .u8 y.2.2.2.2.2.1.1), (.bool y.2.2.2.2.2.1.2.1)]) := h12
                replace hb := hb.trans (hC.mono hb.size)
                replace hro := Row.ext hro hC
                refine ⟨true, false, congrArg some h4, fun hact => ?_, fun hact => ?_⟩
                · exact Runs.does (Runs.veq (r_ane (k := 5) (congrArg some h8) (congrArg some h12) (by kernel_rfl) (eqt_struct (xs := #[(.string y.1), (.string y.2.1), (.int .u8 y.2.2.1), (.int .u32 y.2.2.2.1), (.int .u32 y.2.2.2.2.1.1), (.int .u32 y.2.2.2.2.1.2.1), (.bool y.2.2.2.2.1.2.2.1), (.int .u8 y.2.2.2.2.2.1.1), (.bool y.2.2.2.2.2.1.2.1)]) (ys := #[(.string y.1), (.string y.2.1), (.int .u8 y.2.2.1), (.int .u32 y.2.2.2.1), (.int .u32 y.2.2.2.2.1.1), (.int .u32 y.2.2.2.2.1.2.1), (.bool y.2.2.2.2.1.2.2.1), (.int .u8 y.2.2.2.2.2.1.1), (.bool y.2.2.2.2.2.1.2.1)]) Try.underlying81 (by kernel_rfl) (eqf_cons (by kernel_rfl) (fun _ => by kernel_rfl) (fun _ => by kernel_rfl) (eqt_str (a := y.1) (b := y.1) Try.underlying9) (eqf_cons (by kernel_rfl) (fun _ => by kernel_rfl) (fun _ => by kernel_rfl) (eqt_str (a := y.2.1) (b := y.2.1) Try.underlying9) (eqf_cons (by kernel_rfl) (fun _ => by kernel_rfl) (fun _ => by kernel_rfl) (eqt_int (kk := .u8) (a := y.2.2.1) (b := y.2.2.1) Try.underlying5) (eqf_cons (by kernel_rfl) (fun _ => by kernel_rfl) (fun _ => by kernel_rfl) (eqt_int (kk := .u32) (a := y.2.2.2.1) (b := y.2.2.2.1) Try.underlying24) (eqf_cons (by kernel_rfl) (fun _ => by kernel_rfl) (fun _ => by kernel_rfl) (eqt_struct (xs := #[(.int .u32 y.2.2.2.2.1.1), (.int .u32 y.2.2.2.2.1.2.1), (.bool y.2.2.2.2.1.2.2.1)]) (ys := #[(.int .u32 y.2.2.2.2.1.1), (.int .u32 y.2.2.2.2.1.2.1), (.bool y.2.2.2.2.1.2.2.1)]) Try.underlying43 (by kernel_rfl) (eqf_cons (by kernel_rfl) (fun _ => by kernel_rfl) (fun _ => by kernel_rfl) (eqt_int (kk := .u32) (a := y.2.2.2.2.1.1) (b := y.2.2.2.2.1.1) Try.underlying24) (eqf_cons (by kernel_rfl) (fun _ => by kernel_rfl) (fun _ => by kernel_rfl) (eqt_int (kk := .u32) (a := y.2.2.2.2.1.2.1) (b := y.2.2.2.2.1.2.1) Try.underlying24) (eqf_one (by kernel_rfl) (fun _ => by kernel_rfl) (fun _ => by kernel_rfl) (eqt_bool (a := y.2.2.2.2.1.2.2.1) (b := y.2.2.2.2.1.2.2.1) Try.underlying4))))) (eqf_one (by kernel_rfl) (fun _ => by kernel_rfl) (fun _ => by kernel_rfl) (eqt_struct (xs := #[(.int .u8 y.2.2.2.2.2.1.1), (.bool y.2.2.2.2.2.1.2.1)]) (ys := #[(.int .u8 y.2.2.2.2.2.1.1), (.bool y.2.2.2.2.2.1.2.1)]) Try.underlying54 (by kernel_rfl) (eqf_cons (by kernel_rfl) (fun _ => by kernel_rfl) (fun _ => by kernel_rfl) (eqt_int (kk := .u8) (a := y.2.2.2.2.2.1.1) (b := y.2.2.2.2.2.1.1) Try.underlying5) (eqf_one (by kernel_rfl) (fun _ => by kernel_rfl) (fun _ => by kernel_rfl) (eqt_bool (a := y.2.2.2.2.2.1.2.1) (b := y.2.2.2.2.2.1.2.1) Try.underlying4))))))))))) rfl) (congrArg Value.bool (show _ = false from (by simp)))) ⟨Below.refl _ _, rfl, nofr rfl⟩
                · exfalso; simp at hact
              refine ⟨fun wu14 hC hd => ?_, ?_⟩
              · obtain ⟨h4, h13, _⟩ := hd
                skip
                skip
                replace h4 : V 4 = (.bool false) := h4
                replace h13 : V 13 = (.bool false) := h13
                replace hb := hb.trans (hC.mono hb.size)
                replace hro := Row.ext hro hC
                exact Runs.does (r_pick (b := false) (congrArg some h4) rfl (congrArg some h13) rfl) ⟨Below.refl _ _, rfl, nofr rfl⟩
              trivial
            · skip
              clear hf fa; intro V w10 fa he8 hp hnb hf
              have hv0 : V 0 = (.int .i64 ((n : Nat) : Int)) := postsHold_at hp 0 rfl
              have hv1 : V 1 = (.slice (some ⟨rb2, 0, none⟩) (((ofL L kd)).length) roc) := postsHold_at hp 1 rfl
              have hv2 : V 2 = (.int .i64 ((((ofL L kd)).length : Nat) : Int)) := postsHold_at hp 2 rfl
              have hv3 : V 3 = (.bool false) := postsHold_at hp 3 rfl
              have hv4 : V 4 = (.bool false) := postsHold_at hp 4 rfl
              have hv5 : V 5 = (.slice (some ⟨rb2, 0, none⟩) (((ofL L kd)).length) roc) := postsHold_at hp 5 rfl
              have hv6 : V 6 = (.int .i64 ((n : Nat) : Int)) := postsHold_at hp 6 rfl
              have hv7 : V 7 = (.pointer (some ⟨rb2, (0 + n * 9), none⟩)) := postsHold_at hp 7 rfl
              have hv8 : V 8 = (.agg #[(.string y.1), (.string y.2.1), (.int .u8 y.2.2.1), (.int .u32 y.2.2.2.1), (.int .u32 y.2.2.2.2.1.1), (.int .u32 y.2.2.2.2.1.2.1), (.bool y.2.2.2.2.1.2.2.1), (.int .u8 y.2.2.2.2.2.1.1), (.bool y.2.2.2.2.2.1.2.1)]) := postsHold_at hp 8 rfl
              have hv9 : V 9 = (.slice a L.length c) := postsHold_at hp 9 rfl
              have hv10 : V 10 = (.int .i64 ((k : Nat) : Int)) := postsHold_at hp 10 rfl
              have hv11 : V 11 = (.pointer (some ⟨ab2, (aoff2 + k * 9), none⟩)) := postsHold_at hp 11 rfl
              have hv12 : V 12 = (.agg #[(.string y.1), (.string y.2.1), (.int .u8 y.2.2.1), (.int .u32 y.2.2.2.1), (.int .u32 y.2.2.2.2.1.1), (.int .u32 y.2.2.2.2.1.2.1), (.bool y.2.2.2.2.1.2.2.1), (.int .u8 y.2.2.2.2.2.1.1), (.bool y.2.2.2.2.2.1.2.1)]) := postsHold_at hp 12 rfl
              have hv13 : V 13 = (.bool false) := postsHold_at hp 13 rfl
              have hv14 : V 14 = (.bool false) := postsHold_at hp 14 rfl
              simp only [List.take_succ_cons, List.take_zero, insAll, ins, hv0, hv1, hv2, hv3, hv4, hv5, hv6, hv7, hv8, hv9, hv10, hv11, hv12, hv13, hv14] at hf
              clear hp hnb hv0 hv1 hv2 hv3 hv4 hv5 hv6 hv7 hv8 hv9 hv10 hv11 hv12 hv13 hv14
              replace hro := Row.ext hro he8
              replace hb := hb.trans (Below.mono he8 hb.size)
              (try simp only [Exit.then, Exit.inBlock, ↓reduceIte, Nat.reduceEqDiff])
              refine hK33 _ _ ?_
              refine wp_cond_false (hf.ev rfl) ?_
              refine wp_skip ?_
              (try simp only [Exit.then, Exit.inBlock, ↓reduceIte, Nat.reduceEqDiff])
              refine hK32 _ _ ?_
              refine wp_seq_k (fun K34 hK34 => ?_)
              refine wp_seq_k (fun K35 hK35 => ?_)
              refine wp_region_lit ?_
              refine sqv hf (r_move rfl) rfl rfl rfl ?_; clear hf fa; intro fa hf
              refine sqv hf (r_not rfl) rfl rfl rfl ?_; clear hf fa; intro fa hf
              refine sqv hf (r_move rfl) rfl rfl rfl ?_; clear hf fa; intro fa hf
              refine sqgT (act := (!fd)) (ag := true) (c := (!fd)) (v := (.slice a L.length c)) hf rfl rfl rfl (fun hact => (r_move rfl)) rfl rfl ?_; clear hf fa; intro fa hf
              refine sqgT (act := (!fd)) (ag := true) (c := (!fd)) (v := (.int .i64 ((k : Nat) : Int))) hf rfl rfl rfl (fun hact => (r_move rfl)) rfl rfl ?_; clear hf fa; intro fa hf
              refine sqgT (act := (!fd)) (ag := true) (c := (!fd)) (v := (.pointer (some ⟨ab2, (aoff2 + k * 9), none⟩))) hf rfl rfl rfl (fun hact => (by have hact0 := hact; (try simp only [Bool.and_eq_true, Bool.not_eq_true', Bool.or_eq_false_iff, Bool.or_eq_true, Bool.and_eq_false_iff, ne_eq, decide_eq_true_eq, decide_eq_false_iff_not] at hact0); exact (r_ixa (sz := 9) (j := k) (evAt (gb_ev hact rfl) hat2) (gb_ev hact rfl) Try.underlying79 (by kernel_rfl) rfl (by omega) rfl))) rfl rfl ?_; clear hf fa; intro fa hf
              refine sqgT (act := (!fd)) (ag := true) (c := (!fd)) (v := (.pointer (some ⟨ab2, (aoff2 + k * 9), none⟩))) hf rfl rfl rfl (fun hact => (r_fa (gb_ev hact rfl) Try.underlying81 (f := 0) (q := (aoff2 + k * 9)) rfl (by kernel_rfl) rfl)) rfl rfl ?_; clear hf fa; intro fa hf
              refine sqgT (act := (!fd)) (ag := true) (c := (!fd)) (v := (.string y.1)) hf rfl rfl rfl (fun hact => (r_load (v := (.string y.1)) (gb_ev hact rfl) Try.underlying9 rfl (cellsAt_cell (cellsAt_below hel4 hb hlb3) (i := 0) rfl rfl))) rfl rfl ?_; clear hf fa; intro fa hf
              refine sqgT (act := (!fd)) (ag := true) (c := (!fd)) (v := (.string ⟨#[101, 110, 118]⟩)) hf rfl rfl rfl (fun hact => (r_move rfl)) rfl rfl ?_; clear hf fa; intro fa hf
              refine sqgT (act := (!fd)) (ag := true) (c := (!fd)) (v := (.bool (decide (y.1 = ⟨#[101, 110, 118]⟩)))) hf rfl rfl rfl (fun hact => (r_seq (gb_ev hact rfl) (gb_ev hact rfl))) rfl rfl ?_; clear hf fa; intro fa hf
              refine sqv hf (r_pickA (b := (!fd)) (e := (decide (y.1 = ⟨#[101, 110, 118]⟩))) rfl rfl rfl) rfl rfl rfl ?_; clear hf fa; intro fa hf
              refine sqv hf (r_move rfl) rfl rfl rfl ?_; clear hf fa; intro fa hf
              refine sqgT (act := ((!fd) && (decide (y.1 = ⟨#[101, 110, 118]⟩)))) (ag := true) (c := ((!fd) && (decide (y.1 = ⟨#[101, 110, 118]⟩)))) (v := (.slice a L.length c)) hf rfl rfl rfl (fun hact => (r_move rfl)) rfl rfl ?_; clear hf fa; intro fa hf
              refine sqgT (act := ((!fd) && (decide (y.1 = ⟨#[101, 110, 118]⟩)))) (ag := true) (c := ((!fd) && (decide (y.1 = ⟨#[101, 110, 118]⟩)))) (v := (.int .i64 ((k : Nat) : Int))) hf rfl rfl rfl (fun hact => (r_move rfl)) rfl rfl ?_; clear hf fa; intro fa hf
              refine sqgT (act := ((!fd) && (decide (y.1 = ⟨#[101, 110, 118]⟩)))) (ag := true) (c := ((!fd) && (decide (y.1 = ⟨#[101, 110, 118]⟩)))) (v := (.pointer (some ⟨ab2, (aoff2 + k * 9), none⟩))) hf rfl rfl rfl (fun hact => (by have hact0 := hact; (try simp only [Bool.and_eq_true, Bool.not_eq_true', Bool.or_eq_false_iff, Bool.or_eq_true, Bool.and_eq_false_iff, ne_eq, decide_eq_true_eq, decide_eq_false_iff_not] at hact0); exact (r_ixa (sz := 9) (j := k) (evAt (gb_ev hact rfl) hat2) (gb_ev hact rfl) Try.underlying79 (by kernel_rfl) rfl (by omega) rfl))) rfl rfl ?_; clear hf fa; intro fa hf
              refine sqgT (act := ((!fd) && (decide (y.1 = ⟨#[101, 110, 118]⟩)))) (ag := true) (c := ((!fd) && (decide (y.1 = ⟨#[101, 110, 118]⟩)))) (v := (.pointer (some ⟨ab2, ((aoff2 + k * 9) + 1), none⟩))) hf rfl rfl rfl (fun hact => (r_fa (gb_ev hact rfl) Try.underlying81 (f := 1) (q := ((aoff2 + k * 9) + 1)) rfl (by kernel_rfl) rfl)) rfl rfl ?_; clear hf fa; intro fa hf
              refine sqgT (act := ((!fd) && (decide (y.1 = ⟨#[101, 110, 118]⟩)))) (ag := true) (c := ((!fd) && (decide (y.1 = ⟨#[101, 110, 118]⟩)))) (v := (.string y.2.1)) hf rfl rfl rfl (fun hact => (r_load (v := (.string y.2.1)) (gb_ev hact rfl) Try.underlying9 rfl (cellsAt_cell (cellsAt_below hel4 hb hlb3) (i := 1) rfl rfl))) rfl rfl ?_; clear hf fa; intro fa hf
              refine sqgT (act := ((!fd) && (decide (y.1 = ⟨#[101, 110, 118]⟩)))) (ag := true) (c := ((!fd) && (decide (y.1 = ⟨#[101, 110, 118]⟩)))) (v := (.string ⟨#[102]⟩)) hf rfl rfl rfl (fun hact => (r_move rfl)) rfl rfl ?_; clear hf fa; intro fa hf
              refine sqgT (act := ((!fd) && (decide (y.1 = ⟨#[101, 110, 118]⟩)))) (ag := true) (c := ((!fd) && (decide (y.1 = ⟨#[101, 110, 118]⟩)))) (v := (.bool (decide (y.2.1 = ⟨#[102]⟩)))) hf rfl rfl rfl (fun hact => (r_seq (gb_ev hact rfl) (gb_ev hact rfl))) rfl rfl ?_; clear hf fa; intro fa hf
              refine sqv hf (r_pickA (b := ((!fd) && (decide (y.1 = ⟨#[101, 110, 118]⟩)))) (e := (decide (y.2.1 = ⟨#[102]⟩))) rfl rfl rfl) rfl rfl rfl ?_; clear hf fa; intro fa hf
              apply wpList_nil
              (try simp only [Exit.then, Exit.inBlock, ↓reduceIte, Nat.reduceEqDiff])
              refine hK35 _ _ ?_
              refine wp_cond_split (t := (((!fd) && (decide (y.1 = ⟨#[101, 110, 118]⟩))) && (decide (y.2.1 = ⟨#[102]⟩)))) (hf.ev rfl) (fun hqt92_2 => ?_) (fun hqt92_2 => ?_)
              · have hqt92_2b := hqt92_2
                try simp only [decide_eq_true_eq, Bool.and_eq_true, Bool.or_eq_true, Bool.not_eq_true', decide_eq_false_iff_not, ne_eq, Bool.not_eq_true] at hqt92_2
                refine wp_region_lit ?_
                refine sqv hf (r_move rfl) rfl rfl rfl ?_; clear hf fa; intro fa hf
                refine sqv hf (r_assign rfl) rfl rfl rfl ?_; clear hf fa; intro fa hf
                refine sqv hf (r_assign rfl) rfl rfl rfl ?_; clear hf fa; intro fa hf
                apply wpList_nil
                (try simp only [Exit.then, Exit.inBlock, ↓reduceIte, Nat.reduceEqDiff])
                refine hK34 _ _ ?_
                refine wp_region_lit ?_
                refine sqv hf (r_move rfl) rfl rfl rfl ?_; clear hf fa; intro fa hf
                refine sqv hf (r_add (C := (((n : Nat) : Int) + (1 : Int))) rfl rfl (by rw [IntKind.wrap_i64]; omega)) rfl rfl rfl ?_; clear hf fa; intro fa hf
                refine sqv hf (r_assign rfl) rfl rfl rfl ?_; clear hf fa; intro fa hf
                apply wpList_nil
                (try simp only [Exit.then, Exit.inBlock, ↓reduceIte, Nat.reduceEqDiff])
                refine hK29 _ _ ?_
                refine wp_region_lit ?_
                refine sqv hf (r_move rfl) rfl rfl rfl ?_; clear hf fa; intro fa hf
                refine sqv hf (r_add (C := (((k : Nat) : Int) + (1 : Int))) rfl rfl (by rw [IntKind.wrap_i64]; omega)) rfl rfl rfl ?_; clear hf fa; intro fa hf
                refine sqv hf (r_assign rfl) rfl rfl rfl ?_; clear hf fa; intro fa hf
                apply wpList_nil
                (try simp only [Exit.then, Exit.inBlock, ↓reduceIte, Nat.reduceEqDiff])
                refine hKL2 _ _ _ (by omega) ⟨(k + 1), (n + 1), n, true, (some ⟨rb2, 0, none⟩), roc, rfl, hf.sub ⟨rfl, rfl, rfl, rfl, (some_int (by first | rfl | omega)), rfl, rfl, (some_int (by first | rfl | omega)), rfl, trivial⟩, hb, (Row.relen hro), by omega, (ivI_hit hy (by have h := hqt57_2; exact Decidable.not_not.1 h) hqt92_2b Hi)⟩
              · have hqt92_2b := hqt92_2
                replace hqt92_2 := Bool.eq_false_iff.1 hqt92_2
                try simp only [ne_eq, decide_eq_true_eq, Bool.and_eq_true, Bool.or_eq_true, Bool.not_eq_true', decide_eq_false_iff_not] at hqt92_2
                refine wp_skip ?_
                (try simp only [Exit.then, Exit.inBlock, ↓reduceIte, Nat.reduceEqDiff])
                refine hK34 _ _ ?_
                refine wp_region_lit ?_
                refine sqv hf (r_move rfl) rfl rfl rfl ?_; clear hf fa; intro fa hf
                refine sqv hf (r_add (C := (((n : Nat) : Int) + (1 : Int))) rfl rfl (by rw [IntKind.wrap_i64]; omega)) rfl rfl rfl ?_; clear hf fa; intro fa hf
                refine sqv hf (r_assign rfl) rfl rfl rfl ?_; clear hf fa; intro fa hf
                apply wpList_nil
                (try simp only [Exit.then, Exit.inBlock, ↓reduceIte, Nat.reduceEqDiff])
                refine hK29 _ _ ?_
                refine wp_region_lit ?_
                refine sqv hf (r_move rfl) rfl rfl rfl ?_; clear hf fa; intro fa hf
                refine sqv hf (r_add (C := (((k : Nat) : Int) + (1 : Int))) rfl rfl (by rw [IntKind.wrap_i64]; omega)) rfl rfl rfl ?_; clear hf fa; intro fa hf
                refine sqv hf (r_assign rfl) rfl rfl rfl ?_; clear hf fa; intro fa hf
                apply wpList_nil
                (try simp only [Exit.then, Exit.inBlock, ↓reduceIte, Nat.reduceEqDiff])
                refine hKL2 _ _ _ (by omega) ⟨(k + 1), (n + 1), pl, fd, (some ⟨rb2, 0, none⟩), roc, rfl, hf.sub ⟨rfl, rfl, rfl, rfl, (some_int (by first | rfl | omega)), rfl, rfl, (some_int (by first | rfl | omega)), rfl, trivial⟩, hb, (Row.relen hro), by omega, (ivI_miss hy (by have h := hqt57_2; exact Decidable.not_not.1 h) hqt92_2b Hi)⟩
        · have hqt48_2b := hqt48_2
          replace hqt48_2 := Bool.eq_false_iff.1 hqt48_2
          try simp only [ne_eq, decide_eq_true_eq, Bool.and_eq_true, Bool.or_eq_true, Bool.not_eq_true', decide_eq_false_iff_not] at hqt48_2
          refine wp_exit ?_
          (try simp only [Exit.then, Exit.inBlock, ↓reduceIte, Nat.reduceEqDiff])
          refine hK25 _ _ ?_
          refine wp_seq_k (fun K36 hK36 => ?_)
          obtain ⟨hE1, hE2⟩ := ivI_end (by omega) Hi
          refine wp_region_lit ?_
          refine sqv hf (r_move rfl) rfl rfl rfl ?_; clear hf fa; intro fa hf
          refine sqv hf (r_move rfl) rfl rfl rfl ?_; clear hf fa; intro fa hf
          refine sqv hf (r_move rfl) rfl rfl rfl ?_; clear hf fa; intro fa hf
          refine sqv hf (r_move rfl) rfl rfl rfl ?_; clear hf fa; intro fa hf
          refine sqdt hf (d_callB (vs := [(.slice a L.length c), (.int .u8 kd), (.string ⟨#[101, 110, 118]⟩), (.string ⟨#[102]⟩)]) rfl Try.func55 (by kernel_rfl) (by kernel_rfl) (place_any a L c kd ⟨#[101, 110, 118]⟩ ⟨#[102]⟩ _ (RdS.ext hl hb) hlc hl9)) rfl rfl rfl ?_; clear hf fa; rintro fa _ w11 ⟨rfl, he9⟩ hf
          replace hro := Row.ext hro he9
          replace hb := hb.trans (Below.mono he9 hb.size)
          refine sqv hf (r_move rfl) rfl rfl rfl ?_; clear hf fa; intro fa hf
          refine sqv hf (r_extract rfl (i := 0) rfl) rfl rfl rfl ?_; clear hf fa; intro fa hf
          refine sqv hf (r_extract rfl (i := 1) rfl) rfl rfl rfl ?_; clear hf fa; intro fa hf
          refine sqv hf (r_assign rfl) rfl rfl rfl ?_; clear hf fa; intro fa hf
          refine sqv hf (r_assign rfl) rfl rfl rfl ?_; clear hf fa; intro fa hf
          apply wpList_nil
          (try simp only [Exit.then, Exit.inBlock, ↓reduceIte, Nat.reduceEqDiff])
          refine hK36 _ _ ?_
          refine wp_seq_k (fun K37 hK37 => ?_)
          refine wp_region_lit ?_
          refine sqv hf (r_move rfl) rfl rfl rfl ?_; clear hf fa; intro fa hf
          refine sqv hf (r_move rfl) rfl rfl rfl ?_; clear hf fa; intro fa hf
          refine sqv hf (r_lensl rfl Try.underlying79) rfl rfl rfl ?_; clear hf fa; intro fa hf
          refine sqv hf (Runs.veq (r_eq rfl rfl) (congrArg Value.bool (show _ = true from (by simp; omega)))) rfl rfl rfl ?_; clear hf fa; intro fa hf
          refine sqv hf (r_move rfl) rfl rfl rfl ?_; clear hf fa; intro fa hf
          refine sqgd (act := true) (g := 4) (want := true) (ag := true) (c := true) hf (by rfl) (by rfl) rfl (fun _ =>  Runs.does (R := fun vq wq => vq = (.slice a L.length c) ∧ w11 = wq) (r_move rfl) ⟨rfl, rfl⟩) (fun h => by cases h) rfl ?_; clear hf fa; rintro fa _ _ ⟨rfl, rfl⟩ hf
          change Fr _ _ ((109, (.slice a L.length c)) :: _) at hf
          refine sqgd (act := true) (g := 4) (want := true) (ag := true) (c := true) hf (by rfl) (by rfl) rfl (fun _ =>  Runs.does (R := fun vq wq => vq = (.int .u8 kd) ∧ w11 = wq) (r_move rfl) ⟨rfl, rfl⟩) (fun h => by cases h) rfl ?_; clear hf fa; rintro fa _ _ ⟨rfl, rfl⟩ hf
          change Fr _ _ ((110, (.int .u8 kd)) :: _) at hf
          refine sqgd (act := true) (g := 4) (want := true) (ag := true) (c := true) hf (by rfl) (by rfl) rfl (fun _ =>  (d_callB (vs := [(.slice a L.length c), (.int .u8 kd)]) rfl Try.func56 (by kernel_rfl) (by kernel_rfl) (icount_any a L c kd _ (RdS.ext hl hb) hlc hl9)) ) (fun h => by cases h) rfl ?_; clear hf fa; rintro fa _ w12 ⟨rfl, he10⟩ hf
          replace hro := Row.ext hro he10
          replace hb := hb.trans (Below.mono he10 hb.size)
          change Fr _ _ ((111, (.int .i64 (((ofL L kd).length : Nat) : Int))) :: _) at hf
          refine sqgd (act := true) (g := 4) (want := true) (ag := true) (c := true) hf (by rfl) (by rfl) rfl (fun _ =>  Runs.does (R := fun vq wq => vq = (.int .i64 ((n : Nat) : Int)) ∧ w12 = wq) (r_move rfl) ⟨rfl, rfl⟩) (fun h => by cases h) rfl ?_; clear hf fa; rintro fa _ _ ⟨rfl, rfl⟩ hf
          change Fr _ _ ((112, (.int .i64 ((n : Nat) : Int))) :: _) at hf
          refine sqgd (act := true) (g := 4) (want := true) (ag := true) (c := true) hf (by rfl) (by rfl) rfl (fun _ =>  Runs.does (R := fun vq wq => vq = (.bool true) ∧ w12 = wq) (Runs.veq (r_eq rfl rfl) (congrArg Value.bool (show _ = true from (by simp; omega)))) ⟨rfl, rfl⟩) (fun h => by cases h) rfl ?_; clear hf fa; rintro fa _ _ ⟨rfl, rfl⟩ hf
          change Fr _ _ ((113, (.bool true)) :: _) at hf
          refine sqv hf (r_pick (b := true) rfl rfl rfl rfl) rfl rfl rfl ?_; clear hf fa; intro fa hf
          refine sqv hf (r_move rfl) rfl rfl rfl ?_; clear hf fa; intro fa hf
          refine sqgd (act := true) (g := 11) (want := true) (ag := true) (c := true) hf (by rfl) (by rfl) rfl (fun _ =>  Runs.does (R := fun vq wq => vq = (.int .i64 (((plP ⟨#[101, 110, 118]⟩ ⟨#[102]⟩ (ofL L kd)).1 : Nat) : Int)) ∧ w12 = wq) (r_move rfl) ⟨rfl, rfl⟩) (fun h => by cases h) rfl ?_; clear hf fa; rintro fa _ _ ⟨rfl, rfl⟩ hf
          change Fr _ _ ((116, (.int .i64 (((plP ⟨#[101, 110, 118]⟩ ⟨#[102]⟩ (ofL L kd)).1 : Nat) : Int))) :: _) at hf
          refine sqgd (act := true) (g := 11) (want := true) (ag := true) (c := true) hf (by rfl) (by rfl) rfl (fun _ =>  Runs.does (R := fun vq wq => vq = (.int .i64 ((pl : Nat) : Int)) ∧ w12 = wq) (r_move rfl) ⟨rfl, rfl⟩) (fun h => by cases h) rfl ?_; clear hf fa; rintro fa _ _ ⟨rfl, rfl⟩ hf
          change Fr _ _ ((117, (.int .i64 ((pl : Nat) : Int))) :: _) at hf
          refine sqgd (act := true) (g := 11) (want := true) (ag := true) (c := true) hf (by rfl) (by rfl) rfl (fun _ =>  Runs.does (R := fun vq wq => vq = (.bool true) ∧ w12 = wq) (Runs.veq (r_eq rfl rfl) (congrArg Value.bool (show _ = true from (by rw [hE2]; simp)))) ⟨rfl, rfl⟩) (fun h => by cases h) rfl ?_; clear hf fa; rintro fa _ _ ⟨rfl, rfl⟩ hf
          change Fr _ _ ((118, (.bool true)) :: _) at hf
          refine sqv hf (r_pick (b := true) rfl rfl rfl rfl) rfl rfl rfl ?_; clear hf fa; intro fa hf
          refine sqv hf (r_move rfl) rfl rfl rfl ?_; clear hf fa; intro fa hf
          refine sqgd (act := true) (g := 16) (want := true) (ag := true) (c := true) hf (by rfl) (by rfl) rfl (fun _ =>  Runs.does (R := fun vq wq => vq = (.bool (plP ⟨#[101, 110, 118]⟩ ⟨#[102]⟩ (ofL L kd)).2) ∧ w12 = wq) (r_move rfl) ⟨rfl, rfl⟩) (fun h => by cases h) rfl ?_; clear hf fa; rintro fa _ _ ⟨rfl, rfl⟩ hf
          change Fr _ _ ((121, (.bool (plP ⟨#[101, 110, 118]⟩ ⟨#[102]⟩ (ofL L kd)).2)) :: _) at hf
          refine sqgd (act := true) (g := 16) (want := true) (ag := true) (c := true) hf (by rfl) (by rfl) rfl (fun _ =>  Runs.does (R := fun vq wq => vq = (.bool fd) ∧ w12 = wq) (r_move rfl) ⟨rfl, rfl⟩) (fun h => by cases h) rfl ?_; clear hf fa; rintro fa _ _ ⟨rfl, rfl⟩ hf
          change Fr _ _ ((122, (.bool fd)) :: _) at hf
          refine sqgd (act := true) (g := 16) (want := true) (ag := true) (c := true) hf (by rfl) (by rfl) rfl (fun _ =>  Runs.does (R := fun vq wq => vq = (.bool true) ∧ w12 = wq) (Runs.veq (r_beq Try.underlying4 rfl rfl) (congrArg Value.bool (show _ = true from (by rw [hE2]; simp)))) ⟨rfl, rfl⟩) (fun h => by cases h) rfl ?_; clear hf fa; rintro fa _ _ ⟨rfl, rfl⟩ hf
          change Fr _ _ ((123, (.bool true)) :: _) at hf
          refine sqv hf (r_pick (b := true) rfl rfl rfl rfl) rfl rfl rfl ?_; clear hf fa; intro fa hf
          refine sqv hf (r_assign rfl) rfl rfl rfl ?_; clear hf fa; intro fa hf
          apply wpList_nil
          (try simp only [Exit.then, Exit.inBlock, ↓reduceIte, Nat.reduceEqDiff])
          refine hK37 _ _ ?_
          refine wp_ret ?_
          (try simp only [Exit.then, Exit.inBlock])
          refine ret1 hf rfl rfl ?_
          exact ⟨rfl, hb⟩
end Go.Proofs.Ytcmdajkkdognfaa
