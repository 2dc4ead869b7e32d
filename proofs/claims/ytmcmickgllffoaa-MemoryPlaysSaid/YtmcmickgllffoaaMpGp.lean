/- What is proved here: the law MemoryPlays, walked. -/
import Derived.Test.YtmcmickgllffoaaMpFp
namespace Go.Proofs.Ytmcmickgllffoaa
open Go.RowKit
set_option linter.unusedVariables false
set_option linter.unusedSimpArgs false
set_option maxRecDepth 100000
abbrev MOq := (Int × Int × Int × Int × Int × Int × (Sl Int) × Unit)
def zMOq : MOq := ((0 : Int), (0 : Int), (0 : Int), (0 : Int), (0 : Int), (0 : Int), ⟨none, 0, 0, fun _ => default⟩, ())
def vMOq : MOq → List Value := (fun d => (vInt .i64) d.1 ++ (fun d => (vInt .u64) d.1 ++ (fun d => (vInt .i64) d.1 ++ (fun d => (vInt .u8) d.1 ++ (fun d => (vInt .u64) d.1 ++ (fun d => (vInt .u64) d.1 ++ (fun d => vSl d.1 ++ (fun _ => []) d.2) d.2) d.2) d.2) d.2) d.2) d.2)
def fMOq : World → MOq → Prop := (fun w d => (fInt .i64) w d.1 ∧ (fun w d => (fInt .u64) w d.1 ∧ (fun w d => (fInt .i64) w d.1 ∧ (fun w d => (fInt .u8) w d.1 ∧ (fun w d => (fInt .u64) w d.1 ∧ (fun w d => (fInt .u64) w d.1 ∧ (fun w d => (fSlW 1 1 (vInt .u8) (fInt .u8)) w d.1 ∧ (fun _ _ => True) w d.2) w d.2) w d.2) w d.2) w d.2) w d.2) w d.2)
theorem rdMOq : ReadsW Try.prog 113 vMOq fMOq := (readsW_struct Try.underlying113 (by kernel_rfl) (readsFsW_cons (o := 0) (c := 1) rfl (by kernel_rfl) (reads_int Try.underlying3).toW (readsFsW_cons (o := 1) (c := 1) rfl (by kernel_rfl) (reads_int Try.underlying26).toW (readsFsW_cons (o := 2) (c := 1) rfl (by kernel_rfl) (reads_int Try.underlying3).toW (readsFsW_cons (o := 3) (c := 1) rfl (by kernel_rfl) (reads_int Try.underlying5).toW (readsFsW_cons (o := 4) (c := 1) rfl (by kernel_rfl) (reads_int Try.underlying26).toW (readsFsW_cons (o := 5) (c := 1) rfl (by kernel_rfl) (reads_int Try.underlying26).toW (readsFsW_cons (o := 6) (c := 1) rfl (by kernel_rfl) (readsW_slice Try.underlying84 (by kernel_rfl) (by kernel_rfl) (by decide) (reads_int Try.underlying5).toW) (readsFsW_nil rfl)))))))))
/-- What a call's fields are. -/
def opOk (w : World) (y : MOq) : Prop := (0 ≤ y.2.1 ∧ y.2.1 < 18446744073709551616) ∧ (-9223372036854775808 ≤ y.2.2.1 ∧ y.2.2.1 < 9223372036854775808) ∧ (0 ≤ y.2.2.2.1 ∧ y.2.2.2.1 < 256) ∧ (0 ≤ y.2.2.2.2.1 ∧ y.2.2.2.2.1 < 18446744073709551616) ∧ (0 ≤ y.2.2.2.2.2.1 ∧ y.2.2.2.2.2.1 < 18446744073709551616) ∧ RdS 1 (vInt .u8) w y.2.2.2.2.2.2.1.at' y.2.2.2.2.2.2.1.list ∧ (∀ x ∈ y.2.2.2.2.2.2.1.list, 0 ≤ x ∧ x < 256)
def Fx26 (B b : Nat) (wq : World) (n mo : Int) (C : List MCe) : Prop := ∃ sv, wq.heap[b]? = some (.cells #[.int .i64 n, .int .i64 mo, sv] 111 (0, 0)) ∧ Row 2 vCe 162 B wq sv C
theorem Fx26.ext {B b : Nat} {w w' : World} {n mo : Int} {C : List MCe} (h : Fx26 B b w n mo C) (hB : Below w.heap.size w w') : Fx26 B b w' n mo C := by
  obtain ⟨sv, h1, h2⟩ := h
  exact ⟨sv, blk_ext h1 hB, h2.ext hB⟩
structure Af26 (w0 wR w : World) (p ln : Nat) (mo : Int) (C : List MCe) : Prop where
  st : St26 w0.heap.size w p ln mo C
  hb : Below w0.heap.size w0 w
  kt : KT 111 wR w
  sz : wR.heap.size ≤ w.heap.size
theorem Af26.ext {w0 wR w w' : World} {p ln : Nat} {mo : Int} {C : List MCe} (h : Af26 w0 wR w p ln mo C) (hB : Below w.heap.size w w') : Af26 w0 wR w' p ln mo C := ⟨h.st.ext hB, h.hb.trans (Below.mono hB h.hb.size), h.kt.trans (KT.of_below hB), Nat.le_trans h.sz hB.size⟩
theorem Af26.grown {w0 wR w w' : World} {p ln b : Nat} {mo : Int} {C : List MCe} {cs : Array Value} {fr : Nat × Nat} (h : Af26 w0 wR w p ln mo C) (hg : w.grownBy w' (some b)) (hk : w.heap[b]? = some (.cells cs 111 fr)) (hb : wR.heap.size ≤ b) (h0 : w0.heap.size ≤ wR.heap.size) : Af26 w0 wR w' p ln mo C := ⟨h.st.grown hg hk rfl rfl, h.hb.trans (grown_below hg h.hb.size (Nat.le_trans h0 hb)), h.kt.grownI hg hb, Nat.le_trans h.sz hg.size⟩
theorem doN_len (kd nn : Int) (at_ ln : Nat) (mo : Int) (C : List MCe) {M : List Int} (hM : ∀ x ∈ M, 0 ≤ x ∧ x < 256) : (doN kd nn at_ ln mo C M).2.length ≤ C.length + M.length := by
  have hf : ∀ p : MCe → Bool, (C.filter p).length ≤ C.length := fun p => List.length_filter_le _ _
  unfold doN
  split
  · split
    · unfold wrC
      rw [List.length_append, newC_len, sz_str hM]
      have := hf (wrQ at_ M.length)
      exact Nat.add_le_add_right this _
    · exact Nat.le_add_right _ _
  · split
    · split
      · exact Nat.le_trans (hf _) (Nat.le_add_right _ _)
      · exact Nat.le_add_right _ _
    · split
      · split
        · exact Nat.le_trans (hf _) (Nat.le_add_right _ _)
        · exact Nat.le_add_right _ _
      · exact Nat.le_add_right _ _
theorem do_to26 {w0 w : World} (hb : Below w0.heap.size w0 w) {p ln : Nat} {mo : Int} {ca : Option Addr} {C : List MCe} {cc : Nat} (hSt : St26 w0.heap.size w p ln mo C) (hrr : Row 2 vCe 162 w0.heap.size w (.slice ca C.length cc) C) (hCl : C.length ≤ 1000000) {y : MOq} (hy : opOk w0 y) (hMl : y.2.2.2.2.2.2.1.len ≤ 1000000) : Calls Try.prog 60 #[.pointer (some ⟨p, 0, none⟩), .agg #[.int .i64 ((ln : Nat) : Int), .int .i64 mo, .slice ca C.length cc], .agg #[(.int .i64 y.1), (.int .u64 y.2.1), (.int .i64 y.2.2.1), (.int .u8 y.2.2.2.1), (.int .u64 y.2.2.2.2.1), (.int .u64 y.2.2.2.2.2.1), (.slice y.2.2.2.2.2.2.1.at' y.2.2.2.2.2.2.1.len y.2.2.2.2.2.2.1.cap)]] w fun e w' => ∃ x, e = .returned x ∧ ∃ sxa sxc, x = .tuple #[.agg #[.int .i64 ((((doN y.1 y.2.2.1 y.2.1.toNat ln mo C y.2.2.2.2.2.2.1.list)).1 : Nat) : Int), .int .i64 mo, .slice sxa ((doN y.1 y.2.2.1 y.2.1.toNat ln mo C y.2.2.2.2.2.2.1.list)).2.length sxc], .bool true] ∧ Row 2 vCe 162 w0.heap.size w' (.slice sxa ((doN y.1 y.2.2.1 y.2.1.toNat ln mo C y.2.2.2.2.2.2.1.list)).2.length sxc) ((doN y.1 y.2.2.1 y.2.1.toNat ln mo C y.2.2.2.2.2.2.1.list)).2 ∧ St26 w0.heap.size w' p ((doN y.1 y.2.2.1 y.2.1.toNat ln mo C y.2.2.2.2.2.2.1.list)).1 mo ((doN y.1 y.2.2.1 y.2.1.toNat ln mo C y.2.2.2.2.2.2.1.list)).2 ∧ Below w0.heap.size w0 w' ∧ KT 111 w w' ∧ w.heap.size ≤ w'.heap.size := by
  obtain ⟨h1, h2, h3, h4, h5, h6, h7⟩ := hy
  have key := do26_any w0 w hb p ln mo ca C cc hSt hrr hCl y.1 y.2.2.1 y.2.1.toNat y.2.2.2.1.toNat y.2.2.2.2.1.toNat y.2.2.2.2.2.1.toNat y.2.2.2.2.2.2.1.at' y.2.2.2.2.2.2.1.list y.2.2.2.2.2.2.1.cap h6 h7 (by rw [Sl.list_length]; exact hMl) (by omega) (by omega) (by omega) (by omega) h2
  rw [Sl.list_length, show ((y.2.1.toNat : Nat) : Int) = y.2.1 by omega, show ((y.2.2.2.1.toNat : Nat) : Int) = y.2.2.2.1 by omega, show ((y.2.2.2.2.1.toNat : Nat) : Int) = y.2.2.2.2.1 by omega, show ((y.2.2.2.2.2.1.toNat : Nat) : Int) = y.2.2.2.2.2.1 by omega] at key
  refine key.mono (fun e w' h => ?_)
  obtain ⟨x, e1, sv, e2, e3, e4⟩ := h
  obtain ⟨sxa, sxc, rfl, _, _⟩ := Row.slice e3
  exact ⟨x, e1, sxa, sxc, e2, e3, e4⟩

theorem St26.lower {B B2 p ln : Nat} {w : World} {mo : Int} {C : List MCe} (h : St26 B w p ln mo C) (hB : B2 ≤ B) : St26 B2 w p ln mo C := by
  obtain ⟨L, h1, h2⟩ := h
  exact ⟨L, h1.lower hB, h2⟩
theorem new_to26 {pg mo : Int} (w : World) (h0 : 0 ≤ pg) (h1 : pg ≤ mo) (h2 : mo ≤ 256) : Calls Try.prog 57 #[.int .i64 pg, .int .i64 mo] w fun e w' => ∃ x, e = .returned x ∧ ∃ p, x = .tuple #[.pointer (some ⟨p, 0, none⟩), .int .i64 0] ∧ St26 w.heap.size w' p (pg.toNat * 65536) mo [] ∧ Below w.heap.size w w' := by
  have h := new_S26 pg.toNat mo w (by omega) (by omega) h2
  rw [show ((pg.toNat : Nat) : Int) = pg by omega] at h
  exact h
theorem pages_to {B p ln : Nat} {w : World} {mo n : Int} {C : List MCe} (hS : St26 B w p ln mo C) (h : ((ln / 65536 : Nat) : Int) = n) : Calls Try.prog 58 #[.pointer (some ⟨p, 0, none⟩)] w fun e w' => e = .returned (.int .i64 n) ∧ Below w.heap.size w w' := by
  have h2 := pages_S hS
  rw [h] at h2
  exact h2

set_option maxHeartbeats 1000000 in
set_option maxRecDepth 100000 in
theorem memoryPlays_any (pg mo : Int) (a : Option Addr) (l : List MOq) (c : Nat) (w : World) (hp0 : -9223372036854775808 ≤ pg ∧ pg < 9223372036854775808) (hl : RdS 7 vMOq w a l) (hlc : l.length ≤ 9223372036854775807) (hwl : ∀ y ∈ l, opOk w y) : Calls Try.prog 9 #[(.int .i64 pg), (.int .i64 mo), (.slice a l.length c)] w fun e w' => e = .returned (.bool true) ∧ Below w.heap.size w w' := by
  refine sx_enter (L := [(0, (.int .i64 pg)), (1, (.int .i64 mo)), (2, (.slice a l.length c))]) Try.func9 rfl rfl rfl rfl (fun fa hf => ?_)
  have hb : Below w.heap.size w w := Below.refl _ _
  refine wp_seq_k (fun K1 hK1 => ?_)
  refine wp_region_lit ?_
  refine sqv hf (r_assign rfl) rfl rfl rfl ?_; clear hf fa; intro fa hf
  apply wpList_nil
  (try simp only [Exit.then, Exit.inBlock, ↓reduceIte, Nat.reduceEqDiff])
  refine hK1 _ _ ?_
  refine wp_seq_k (fun K2 hK2 => ?_)
  refine wp_seq_k (fun K3 hK3 => ?_)
  refine wp_region_lit ?_
  refine sqdt hf (d_callB (vs := []) rfl Try.func56 (by kernel_rfl) (by kernel_rfl) (awake26_any _)) rfl rfl rfl ?_; clear hf fa; rintro fa _ w1 ⟨rfl, he1⟩ hf
  replace hb := hb.trans (Below.mono he1 hb.size)
  refine sqv hf (Runs.veq (v' := (.bool false)) (r_not rfl) rfl) rfl rfl rfl ?_; clear hf fa; intro fa hf
  apply wpList_nil
  (try simp only [Exit.then, Exit.inBlock, ↓reduceIte, Nat.reduceEqDiff])
  refine hK3 _ _ ?_
  refine wp_cond_false (hf.ev rfl) ?_
  refine wp_skip ?_
  (try simp only [Exit.then, Exit.inBlock, ↓reduceIte, Nat.reduceEqDiff])
  refine hK2 _ _ ?_
  refine wp_seq_k (fun K4 hK4 => ?_)
  refine wp_seq_k (fun K5 hK5 => ?_)
  refine wp_region_lit ?_
  refine sqv hf (r_move rfl) rfl rfl rfl ?_; clear hf fa; intro fa hf
  refine sqv hf (r_lensl rfl Try.underlying105) rfl rfl rfl ?_; clear hf fa; intro fa hf
  refine sqv hf (r_gt rfl rfl) rfl rfl rfl ?_; clear hf fa; intro fa hf
  apply wpList_nil
  (try simp only [Exit.then, Exit.inBlock, ↓reduceIte, Nat.reduceEqDiff])
  refine hK5 _ _ ?_
  refine wp_cond_split (t := (decide ((30 : Int) < ((l.length : Nat) : Int)))) (hf.ev rfl) (fun hqt17_1 => ?_) (fun hqt17_1 => ?_)
  · have hqt17_1b := hqt17_1
    try simp only [decide_eq_true_eq, Bool.and_eq_true, Bool.or_eq_true, Bool.not_eq_true', decide_eq_false_iff_not, ne_eq, Bool.not_eq_true] at hqt17_1
    refine wp_seq_k (fun K6 hK6 => ?_)
    refine wp_region_lit ?_
    refine sqv hf (r_assign rfl) rfl rfl rfl ?_; clear hf fa; intro fa hf
    apply wpList_nil
    (try simp only [Exit.then, Exit.inBlock, ↓reduceIte, Nat.reduceEqDiff])
    refine hK6 _ _ ?_
    refine wp_ret ?_
    (try simp only [Exit.then, Exit.inBlock])
    refine ret1 hf rfl rfl ?_
    exact ⟨rfl, hb⟩
  · have hqt17_1b := hqt17_1
    replace hqt17_1 := Bool.eq_false_iff.1 hqt17_1
    try simp only [ne_eq, decide_eq_true_eq, Bool.and_eq_true, Bool.or_eq_true, Bool.not_eq_true', decide_eq_false_iff_not] at hqt17_1
    refine wp_skip ?_
    (try simp only [Exit.then, Exit.inBlock, ↓reduceIte, Nat.reduceEqDiff])
    refine hK4 _ _ ?_
    refine wp_seq_k (fun K7 hK7 => ?_)
    by_cases hsp1 : 0 ≤ pg ∧ pg ≤ mo ∧ mo ≤ 256
    · have hsp1b : decide (0 ≤ pg ∧ pg ≤ mo ∧ mo ≤ 256) = true := decide_eq_true hsp1
      refine wp_region_lit ?_
      refine sqv hf (r_move rfl) rfl rfl rfl ?_; clear hf fa; intro fa hf
      refine sqv hf (r_move rfl) rfl rfl rfl ?_; clear hf fa; intro fa hf
      refine sqdt hf (d_callX (vs := [(.int .i64 pg), (.int .i64 mo)]) rfl Try.func57 (by kernel_rfl) (by kernel_rfl) (new_to26 _ (by omega) (by omega) (by omega))) rfl rfl rfl ?_; clear hf fa; rintro fa _ w2 ⟨pm, rfl, hSt, he2⟩ hf
      replace hSt : St26 w.heap.size w2 pm (pg.toNat * 65536) mo [] := hSt.lower hb.size
      replace hb := hb.trans (Below.mono he2 hb.size)
      refine sqv hf (r_move rfl) rfl rfl rfl ?_; clear hf fa; intro fa hf
      refine sqv hf (r_extract rfl (i := 0) rfl) rfl rfl rfl ?_; clear hf fa; intro fa hf
      refine sqv hf (r_extract rfl (i := 1) rfl) rfl rfl rfl ?_; clear hf fa; intro fa hf
      refine sqv hf (r_assign rfl) rfl rfl rfl ?_; clear hf fa; intro fa hf
      refine sqv hf (r_assign rfl) rfl rfl rfl ?_; clear hf fa; intro fa hf
      apply wpList_nil
      (try simp only [Exit.then, Exit.inBlock, ↓reduceIte, Nat.reduceEqDiff])
      refine hK7 _ _ ?_
      refine wp_seq_k (fun K8 hK8 => ?_)
      refine wp_seq_k (fun K9 hK9 => ?_)
      refine wp_region_lit ?_
      refine sqv hf (r_move rfl) rfl rfl rfl ?_; clear hf fa; intro fa hf
      refine sqv hf (r_lt rfl rfl) rfl rfl rfl ?_; clear hf fa; intro fa hf
      refine sqv hf (r_move rfl) rfl rfl rfl ?_; clear hf fa; intro fa hf
      refine sqgF (act := (!(decide (pg < (0 : Int))))) (ag := true) (c := (decide (pg < (0 : Int)))) (v := (.int .i64 mo)) hf rfl rfl rfl (fun hact => (r_move rfl)) rfl rfl ?_; clear hf fa; intro fa hf
      refine sqgF (act := (!(decide (pg < (0 : Int))))) (ag := true) (c := (decide (pg < (0 : Int)))) (v := (.int .i64 pg)) hf rfl rfl rfl (fun hact => (r_move rfl)) rfl rfl ?_; clear hf fa; intro fa hf
      refine sqgF (act := (!(decide (pg < (0 : Int))))) (ag := true) (c := (decide (pg < (0 : Int)))) (v := (.bool (decide (mo < pg)))) hf rfl rfl rfl (fun hact => (r_lt (gb_ev hact rfl) (gb_ev hact rfl))) rfl rfl ?_; clear hf fa; intro fa hf
      refine sqv hf (r_pickO (b := (decide (pg < (0 : Int)))) (e := (decide (mo < pg))) rfl rfl rfl) rfl rfl rfl ?_; clear hf fa; intro fa hf
      refine sqv hf (r_move rfl) rfl rfl rfl ?_; clear hf fa; intro fa hf
      refine sqgF (act := (!((decide (pg < (0 : Int))) || (decide (mo < pg))))) (ag := true) (c := ((decide (pg < (0 : Int))) || (decide (mo < pg)))) (v := (.int .i64 mo)) hf rfl rfl rfl (fun hact => (r_move rfl)) rfl rfl ?_; clear hf fa; intro fa hf
      refine sqgF (act := (!((decide (pg < (0 : Int))) || (decide (mo < pg))))) (ag := true) (c := ((decide (pg < (0 : Int))) || (decide (mo < pg)))) (v := (.bool (decide ((256 : Int) < mo)))) hf rfl rfl rfl (fun hact => (r_gt (gb_ev hact rfl) rfl)) rfl rfl ?_; clear hf fa; intro fa hf
      refine sqv hf (Runs.veq (r_pickO (b := ((decide (pg < (0 : Int))) || (decide (mo < pg)))) (e := (decide ((256 : Int) < mo))) rfl rfl rfl) (congrArg Value.bool (show _ = false from (by have h := hsp1; simp; omega)))) rfl rfl rfl ?_; clear hf fa; intro fa hf
      apply wpList_nil
      (try simp only [Exit.then, Exit.inBlock, ↓reduceIte, Nat.reduceEqDiff])
      refine hK9 _ _ ?_
      refine wp_cond_false (hf.ev rfl) ?_
      refine wp_skip ?_
      (try simp only [Exit.then, Exit.inBlock, ↓reduceIte, Nat.reduceEqDiff])
      refine hK8 _ _ ?_
      refine wp_seq_k (fun K10 hK10 => ?_)
      refine wp_seq_k (fun K11 hK11 => ?_)
      refine wp_region_lit ?_
      refine sqv hf (r_move rfl) rfl rfl rfl ?_; clear hf fa; intro fa hf
      refine sqv hf (r_gt rfl rfl) rfl rfl rfl ?_; clear hf fa; intro fa hf
      apply wpList_nil
      (try simp only [Exit.then, Exit.inBlock, ↓reduceIte, Nat.reduceEqDiff])
      refine hK11 _ _ ?_
      refine wp_cond_split (t := (decide ((4 : Int) < pg))) (hf.ev rfl) (fun hqt42_1 => ?_) (fun hqt42_1 => ?_)
      · have hqt42_1b := hqt42_1
        try simp only [decide_eq_true_eq, Bool.and_eq_true, Bool.or_eq_true, Bool.not_eq_true', decide_eq_false_iff_not, ne_eq, Bool.not_eq_true] at hqt42_1
        refine wp_seq_k (fun K12 hK12 => ?_)
        refine wp_region_lit ?_
        refine sqv hf (r_move rfl) rfl rfl rfl ?_; clear hf fa; intro fa hf
        refine sqv hf (Runs.veq (r_eq rfl rfl) (congrArg Value.bool (show _ = true from by decide))) rfl rfl rfl ?_; clear hf fa; intro fa hf
        refine sqv hf (r_move rfl) rfl rfl rfl ?_; clear hf fa; intro fa hf
        refine sqgd (act := true) (g := 2) (want := true) (ag := true) (c := true) hf (by rfl) (by rfl) rfl (fun _ =>  Runs.does (R := fun vq wq => vq = (.pointer (some ⟨pm, 0, none⟩)) ∧ w2 = wq) (r_move rfl) ⟨rfl, rfl⟩) (fun h => by cases h) rfl ?_; clear hf fa; rintro fa _ _ ⟨rfl, rfl⟩ hf
        change Fr _ _ ((46, (.pointer (some ⟨pm, 0, none⟩))) :: _) at hf
        refine sqgd (act := true) (g := 2) (want := true) (ag := true) (c := true) hf (by rfl) (by rfl) rfl (fun _ =>  Runs.does (R := fun vq wq => vq = (.bool true) ∧ w2 = wq) (r_pnnil rfl rfl Try.underlying106) ⟨rfl, rfl⟩) (fun h => by cases h) rfl ?_; clear hf fa; rintro fa _ _ ⟨rfl, rfl⟩ hf
        change Fr _ _ ((47, (.bool true)) :: _) at hf
        refine sqv hf (r_pick (b := true) rfl rfl rfl rfl) rfl rfl rfl ?_; clear hf fa; intro fa hf
        refine sqv hf (r_move rfl) rfl rfl rfl ?_; clear hf fa; intro fa hf
        refine sqgd (act := true) (g := 6) (want := true) (ag := true) (c := true) hf (by rfl) (by rfl) rfl (fun _ =>  Runs.does (R := fun vq wq => vq = (.pointer (some ⟨pm, 0, none⟩)) ∧ w2 = wq) (r_move rfl) ⟨rfl, rfl⟩) (fun h => by cases h) rfl ?_; clear hf fa; rintro fa _ _ ⟨rfl, rfl⟩ hf
        change Fr _ _ ((50, (.pointer (some ⟨pm, 0, none⟩))) :: _) at hf
        refine sqgd (act := true) (g := 6) (want := true) (ag := true) (c := true) hf (by rfl) (by rfl) rfl (fun _ =>  (d_callB (vs := [(.pointer (some ⟨pm, 0, none⟩))]) rfl Try.func58 (by kernel_rfl) (by kernel_rfl) (pages_to (n := pg) hSt (by omega))) ) (fun h => by cases h) rfl ?_; clear hf fa; rintro fa _ w3 ⟨rfl, he3⟩ hf
        replace hb := hb.trans (Below.mono he3 hb.size)
        replace hSt := hSt.ext he3
        change Fr _ _ ((51, (.int .i64 pg)) :: _) at hf
        refine sqgd (act := true) (g := 6) (want := true) (ag := true) (c := true) hf (by rfl) (by rfl) rfl (fun _ =>  Runs.does (R := fun vq wq => vq = (.int .i64 pg) ∧ w3 = wq) (r_move rfl) ⟨rfl, rfl⟩) (fun h => by cases h) rfl ?_; clear hf fa; rintro fa _ _ ⟨rfl, rfl⟩ hf
        change Fr _ _ ((52, (.int .i64 pg)) :: _) at hf
        refine sqgd (act := true) (g := 6) (want := true) (ag := true) (c := true) hf (by rfl) (by rfl) rfl (fun _ =>  Runs.does (R := fun vq wq => vq = (.bool true) ∧ w3 = wq) (Runs.veq (r_eq rfl rfl) (congrArg Value.bool (show _ = true from (by simp)))) ⟨rfl, rfl⟩) (fun h => by cases h) rfl ?_; clear hf fa; rintro fa _ _ ⟨rfl, rfl⟩ hf
        change Fr _ _ ((53, (.bool true)) :: _) at hf
        refine sqv hf (r_pick (b := true) rfl rfl rfl rfl) rfl rfl rfl ?_; clear hf fa; intro fa hf
        refine sqv hf (r_assign rfl) rfl rfl rfl ?_; clear hf fa; intro fa hf
        apply wpList_nil
        (try simp only [Exit.then, Exit.inBlock, ↓reduceIte, Nat.reduceEqDiff])
        refine hK12 _ _ ?_
        refine wp_ret ?_
        (try simp only [Exit.then, Exit.inBlock])
        refine ret1 hf rfl rfl ?_
        exact ⟨rfl, hb⟩
      · have hqt42_1b := hqt42_1
        replace hqt42_1 := Bool.eq_false_iff.1 hqt42_1
        try simp only [ne_eq, decide_eq_true_eq, Bool.and_eq_true, Bool.or_eq_true, Bool.not_eq_true', decide_eq_false_iff_not] at hqt42_1
        refine wp_skip ?_
        (try simp only [Exit.then, Exit.inBlock, ↓reduceIte, Nat.reduceEqDiff])
        refine hK10 _ _ ?_
        refine wp_seq_k (fun K13 hK13 => ?_)
        refine wp_seq_k (fun K14 hK14 => ?_)
        refine wp_region_lit ?_
        refine sqv hf (r_move rfl) rfl rfl rfl ?_; clear hf fa; intro fa hf
        refine sqv hf (Runs.veq (r_ne rfl rfl) (congrArg Value.bool (show _ = false from by decide))) rfl rfl rfl ?_; clear hf fa; intro fa hf
        refine sqv hf (r_move rfl) rfl rfl rfl ?_; clear hf fa; intro fa hf
        refine sqgd (act := true) (g := 2) (want := false) (ag := true) (c := false) hf (by rfl) (by rfl) rfl (fun _ =>  Runs.does (R := fun vq wq => vq = (.pointer (some ⟨pm, 0, none⟩)) ∧ w2 = wq) (r_move rfl) ⟨rfl, rfl⟩) (fun h => by cases h) rfl ?_; clear hf fa; rintro fa _ _ ⟨rfl, rfl⟩ hf
        change Fr _ _ ((58, (.pointer (some ⟨pm, 0, none⟩))) :: _) at hf
        refine sqgd (act := true) (g := 2) (want := false) (ag := true) (c := false) hf (by rfl) (by rfl) rfl (fun _ =>  Runs.does (R := fun vq wq => vq = (.bool false) ∧ w2 = wq) (r_pnil rfl rfl Try.underlying106) ⟨rfl, rfl⟩) (fun h => by cases h) rfl ?_; clear hf fa; rintro fa _ _ ⟨rfl, rfl⟩ hf
        change Fr _ _ ((59, (.bool false)) :: _) at hf
        refine sqv hf (r_pick (b := false) rfl rfl rfl rfl) rfl rfl rfl ?_; clear hf fa; intro fa hf
        refine sqv hf (r_move rfl) rfl rfl rfl ?_; clear hf fa; intro fa hf
        refine sqgd (act := true) (g := 6) (want := false) (ag := true) (c := false) hf (by rfl) (by rfl) rfl (fun _ =>  Runs.does (R := fun vq wq => vq = (.pointer (some ⟨pm, 0, none⟩)) ∧ w2 = wq) (r_move rfl) ⟨rfl, rfl⟩) (fun h => by cases h) rfl ?_; clear hf fa; rintro fa _ _ ⟨rfl, rfl⟩ hf
        change Fr _ _ ((62, (.pointer (some ⟨pm, 0, none⟩))) :: _) at hf
        refine sqgd (act := true) (g := 6) (want := false) (ag := true) (c := false) hf (by rfl) (by rfl) rfl (fun _ =>  (d_callB (vs := [(.pointer (some ⟨pm, 0, none⟩))]) rfl Try.func59 (by kernel_rfl) (by kernel_rfl) (mmost_S hSt)) ) (fun h => by cases h) rfl ?_; clear hf fa; rintro fa _ w4 ⟨rfl, he4⟩ hf
        replace hb := hb.trans (Below.mono he4 hb.size)
        replace hSt := hSt.ext he4
        change Fr _ _ ((63, (.int .i64 mo)) :: _) at hf
        refine sqgd (act := true) (g := 6) (want := false) (ag := true) (c := false) hf (by rfl) (by rfl) rfl (fun _ =>  Runs.does (R := fun vq wq => vq = (.int .i64 mo) ∧ w4 = wq) (r_move rfl) ⟨rfl, rfl⟩) (fun h => by cases h) rfl ?_; clear hf fa; rintro fa _ _ ⟨rfl, rfl⟩ hf
        change Fr _ _ ((64, (.int .i64 mo)) :: _) at hf
        refine sqgd (act := true) (g := 6) (want := false) (ag := true) (c := false) hf (by rfl) (by rfl) rfl (fun _ =>  Runs.does (R := fun vq wq => vq = (.bool false) ∧ w4 = wq) (Runs.veq (r_ne rfl rfl) (congrArg Value.bool (show _ = false from (by simp)))) ⟨rfl, rfl⟩) (fun h => by cases h) rfl ?_; clear hf fa; rintro fa _ _ ⟨rfl, rfl⟩ hf
        change Fr _ _ ((65, (.bool false)) :: _) at hf
        refine sqv hf (r_pick (b := false) rfl rfl rfl rfl) rfl rfl rfl ?_; clear hf fa; intro fa hf
        apply wpList_nil
        (try simp only [Exit.then, Exit.inBlock, ↓reduceIte, Nat.reduceEqDiff])
        refine hK14 _ _ ?_
        refine wp_cond_false (hf.ev rfl) ?_
        refine wp_skip ?_
        (try simp only [Exit.then, Exit.inBlock, ↓reduceIte, Nat.reduceEqDiff])
        refine hK13 _ _ ?_
        refine wp_seq_k (fun K15 hK15 => ?_)
        refine wp_region_lit ?_
        refine sqv hf (r_move rfl) rfl rfl rfl ?_; clear hf fa; intro fa hf
        refine sqv hf (r_mul (C := (((pg.toNat * 65536) : Nat) : Int)) rfl rfl (by rw [IntKind.wrap_i64]; omega)) rfl rfl rfl ?_; clear hf fa; intro fa hf
        refine sqv hf (r_move rfl) rfl rfl rfl ?_; clear hf fa; intro fa hf
        refine sqv hf (r_build (vs := [(0, (.int .i64 (((pg.toNat * 65536) : Nat) : Int))), (1, (.int .i64 mo))]) (cs := #[(.int .i64 (((pg.toNat * 65536) : Nat) : Int)), (.int .i64 mo), (.slice none 0 0)]) rfl (fun _ => by kernel_rfl)) rfl rfl rfl ?_; clear hf fa; intro fa hf
        refine sqdt hf (d_alloc (z := (.agg #[(.int .i64 (0 : Int)), (.int .i64 (0 : Int)), (.slice none 0 0)])) (cs := #[(.int .i64 (0 : Int)), (.int .i64 (0 : Int)), (.slice none 0 0)]) (by kernel_rfl) rfl) rfl rfl rfl ?_; clear hf fa; rintro fa _ w5 ⟨b1, rfl, hle1, hk1, he5⟩ hf
        have hBb1 : w.heap.size ≤ b1 := Nat.le_trans hb.size hle1
        replace hb := hb.trans (Below.mono he5 hb.size)
        replace hSt := hSt.ext he5
        refine sqn hf (d_storeK (T := 111) (v := (.agg #[(.int .i64 (((pg.toNat * 65536) : Nat) : Int)), (.int .i64 mo), (.slice none 0 0)])) (cs := #[(.int .i64 (0 : Int)), (.int .i64 (0 : Int)), (.slice none 0 0)]) (cs' := #[(.int .i64 (((pg.toNat * 65536) : Nat) : Int)), (.int .i64 mo), (.slice none 0 0)]) rfl rfl (by kernel_rfl) (by kernel_rfl) hk1 (by kernel_rfl) (by kernel_rfl)) rfl rfl ?_; clear hf fa; rintro fa _ w6 ⟨hk2, hg1⟩ hf
        replace hb := hb.trans (grown_below hg1 hb.size hBb1)
        replace hSt := hSt.grown hg1 hk1 rfl rfl
        apply wpList_nil
        (try simp only [Exit.then, Exit.inBlock, ↓reduceIte, Nat.reduceEqDiff])
        refine hK15 _ _ ?_
        refine wp_seq_k (fun K16 hK16 => ?_)
        refine wp_seq_k (fun K17 hK17 => ?_)
        have hrr0 : Row 2 vCe 162 w.heap.size w6 (.slice none 0 0) ([] : List MCe) := Row.nil
        refine wp_region_lit ?_
        refine sqv hf (r_assign rfl) rfl rfl rfl ?_; clear hf fa; intro fa hf
        apply wpList_nil
        (try simp only [Exit.then, Exit.inBlock, ↓reduceIte, Nat.reduceEqDiff])
        refine hK17 _ _ ?_
        refine wp_block ?_
        refine wp_loop_k (fun mq fa wr => ∃ (k : Nat) (ln : Nat) (C : List MCe) (ra : Option Addr) (rc : Nat), mq = l.length - k ∧ Fr 141 fa [(2, (.slice a l.length c)), (7, (.pointer (some ⟨pm, 0, none⟩))), (9, (.pointer (some ⟨b1, 0, none⟩))), (10, (.int .i64 ((k : Nat) : Int)))] ∧ Below w.heap.size w wr ∧ Row 2 vCe 162 (w.heap.size) wr (.slice ra (C.length) rc) C ∧ wr.heap[b1]? = some (.cells #[(.int .i64 ((ln : Nat) : Int)), (.int .i64 mo), (.slice ra C.length rc)] 111 (0, 0)) ∧ (k ≤ l.length) ∧ (C.length ≤ 50 * k) ∧ (St26 w.heap.size wr pm ln mo C)) ?_ ?_
        · skip
          exact ⟨_, 0, (pg.toNat * 65536), [], none, 0, rfl, hf.sub ⟨rfl, rfl, rfl, (some_int (by first | rfl | omega)), trivial⟩, hb, Row.nil, hk2, by omega, Nat.le_refl _, hSt⟩
        · skip
          clear hf fa; intro mq1 fa w7 hI KL1 hKL1
          clear hb
          clear hk2
          clear hrr0
          obtain ⟨k, ln, C, ra, rc, hmq1, hf, hb, hrr, hkb1, hk, hCk, hSt⟩ := hI
          have hcrr := Row.caps hrr
          obtain ⟨hln, hCr, hmd, hpg, hmo⟩ := hSt.nums
          refine wp_seq_k (fun K18 hK18 => ?_)
          refine wp_seq_k (fun K19 hK19 => ?_)
          refine wp_region_lit ?_
          refine sqv hf (r_move rfl) rfl rfl rfl ?_; clear hf fa; intro fa hf
          refine sqv hf (r_move rfl) rfl rfl rfl ?_; clear hf fa; intro fa hf
          refine sqv hf (r_lensl rfl Try.underlying105) rfl rfl rfl ?_; clear hf fa; intro fa hf
          refine sqv hf (r_lt rfl rfl) rfl rfl rfl ?_; clear hf fa; intro fa hf
          apply wpList_nil
          (try simp only [Exit.then, Exit.inBlock, ↓reduceIte, Nat.reduceEqDiff])
          refine hK19 _ _ ?_
          refine wp_cond_split (t := (decide (((k : Nat) : Int) < ((l.length : Nat) : Int)))) (hf.ev rfl) (fun hqt74_1 => ?_) (fun hqt74_1 => ?_)
          · have hqt74_1b := hqt74_1
            try simp only [decide_eq_true_eq, Bool.and_eq_true, Bool.or_eq_true, Bool.not_eq_true', decide_eq_false_iff_not, ne_eq, Bool.not_eq_true] at hqt74_1
            refine wp_skip ?_
            (try simp only [Exit.then, Exit.inBlock, ↓reduceIte, Nat.reduceEqDiff])
            refine hK18 _ _ ?_
            refine wp_seq_k (fun K20 hK20 => ?_)
            refine wp_block ?_
            refine wp_seq_k (fun K21 hK21 => ?_)
            refine wp_seq_k (fun K22 hK22 => ?_)
            obtain ⟨y, hy⟩ : ∃ x, l[k]? = some x := ⟨_, List.getElem?_eq_getElem (by omega)⟩
            have hyo := hwl y (List.mem_of_getElem? hy)
            refine wp_region_lit ?_
            refine sqv hf (r_move rfl) rfl rfl rfl ?_; clear hf fa; intro fa hf
            refine sqv hf (r_move rfl) rfl rfl rfl ?_; clear hf fa; intro fa hf
            have hy1 : (l)[k]? = some y := hy
            obtain ⟨ab1, aoff1, hat1, hlb1, hel1⟩ := RdS.at hl hy1
            refine sqv hf (r_ixa (sz := 7) (j := k) (evAt rfl hat1) rfl Try.underlying105 (by kernel_rfl) rfl (by omega) rfl) rfl rfl rfl ?_; clear hf fa; intro fa hf
            refine sqv hf (r_fa rfl Try.underlying113 (f := 6) (q := ((aoff1 + k * 7) + 6)) rfl (by kernel_rfl) rfl) rfl rfl rfl ?_; clear hf fa; intro fa hf
            refine sqv hf (r_load (v := (.slice y.2.2.2.2.2.2.1.at' y.2.2.2.2.2.2.1.len y.2.2.2.2.2.2.1.cap)) rfl Try.underlying84 rfl (cellsAt_cell (cellsAt_below hel1 hb hlb1) (i := 6) rfl rfl)) rfl rfl rfl ?_; clear hf fa; intro fa hf
            refine sqv hf (r_lensl rfl Try.underlying84) rfl rfl rfl ?_; clear hf fa; intro fa hf
            refine sqv hf (r_gt rfl rfl) rfl rfl rfl ?_; clear hf fa; intro fa hf
            refine sqv hf (r_move rfl) rfl rfl rfl ?_; clear hf fa; intro fa hf
            refine sqgF (act := (!(decide ((50 : Int) < ((y.2.2.2.2.2.2.1.len : Nat) : Int))))) (ag := true) (c := (decide ((50 : Int) < ((y.2.2.2.2.2.2.1.len : Nat) : Int)))) (v := (.slice a l.length c)) hf rfl rfl rfl (fun hact => (r_move rfl)) rfl rfl ?_; clear hf fa; intro fa hf
            refine sqgF (act := (!(decide ((50 : Int) < ((y.2.2.2.2.2.2.1.len : Nat) : Int))))) (ag := true) (c := (decide ((50 : Int) < ((y.2.2.2.2.2.2.1.len : Nat) : Int)))) (v := (.int .i64 ((k : Nat) : Int))) hf rfl rfl rfl (fun hact => (r_move rfl)) rfl rfl ?_; clear hf fa; intro fa hf
            refine sqgF (act := (!(decide ((50 : Int) < ((y.2.2.2.2.2.2.1.len : Nat) : Int))))) (ag := true) (c := (decide ((50 : Int) < ((y.2.2.2.2.2.2.1.len : Nat) : Int)))) (v := (.pointer (some ⟨ab1, (aoff1 + k * 7), none⟩))) hf rfl rfl rfl (fun hact => (by have hact0 := hact; (try simp only [Bool.and_eq_true, Bool.not_eq_true', Bool.or_eq_false_iff, Bool.or_eq_true, Bool.and_eq_false_iff, ne_eq, decide_eq_true_eq, decide_eq_false_iff_not] at hact0); exact (r_ixa (sz := 7) (j := k) (evAt (gb_ev hact rfl) hat1) (gb_ev hact rfl) Try.underlying105 (by kernel_rfl) rfl (by omega) rfl))) rfl rfl ?_; clear hf fa; intro fa hf
            refine sqgF (act := (!(decide ((50 : Int) < ((y.2.2.2.2.2.2.1.len : Nat) : Int))))) (ag := true) (c := (decide ((50 : Int) < ((y.2.2.2.2.2.2.1.len : Nat) : Int)))) (v := (.pointer (some ⟨ab1, (aoff1 + k * 7), none⟩))) hf rfl rfl rfl (fun hact => (r_fa (gb_ev hact rfl) Try.underlying113 (f := 0) (q := (aoff1 + k * 7)) rfl (by kernel_rfl) rfl)) rfl rfl ?_; clear hf fa; intro fa hf
            refine sqgF (act := (!(decide ((50 : Int) < ((y.2.2.2.2.2.2.1.len : Nat) : Int))))) (ag := true) (c := (decide ((50 : Int) < ((y.2.2.2.2.2.2.1.len : Nat) : Int)))) (v := (.int .i64 y.1)) hf rfl rfl rfl (fun hact => (r_load (v := (.int .i64 y.1)) (gb_ev hact rfl) Try.underlying3 rfl (cellsAt_cell (cellsAt_below hel1 hb hlb1) (i := 0) rfl rfl))) rfl rfl ?_; clear hf fa; intro fa hf
            refine sqgF (act := (!(decide ((50 : Int) < ((y.2.2.2.2.2.2.1.len : Nat) : Int))))) (ag := true) (c := (decide ((50 : Int) < ((y.2.2.2.2.2.2.1.len : Nat) : Int)))) (v := (.bool (decide (y.1 = (2 : Int))))) hf rfl rfl rfl (fun hact => (r_eq (gb_ev hact rfl) rfl)) rfl rfl ?_; clear hf fa; intro fa hf
            refine sqgF (act := (!(decide ((50 : Int) < ((y.2.2.2.2.2.2.1.len : Nat) : Int))))) (ag := true) (c := (decide ((50 : Int) < ((y.2.2.2.2.2.2.1.len : Nat) : Int)))) (v := (.bool (decide (y.1 = (2 : Int))))) hf rfl rfl rfl (fun hact => (r_move (gb_ev hact rfl))) rfl rfl ?_; clear hf fa; intro fa hf
            refine sqgT (act := ((!(decide ((50 : Int) < ((y.2.2.2.2.2.2.1.len : Nat) : Int)))) && (decide (y.1 = (2 : Int))))) (ag := (!(decide ((50 : Int) < ((y.2.2.2.2.2.2.1.len : Nat) : Int))))) (c := (decide (y.1 = (2 : Int)))) (v := (.slice a l.length c)) hf rfl rfl rfl (fun hact => (r_move rfl)) rfl rfl ?_; clear hf fa; intro fa hf
            refine sqgT (act := ((!(decide ((50 : Int) < ((y.2.2.2.2.2.2.1.len : Nat) : Int)))) && (decide (y.1 = (2 : Int))))) (ag := (!(decide ((50 : Int) < ((y.2.2.2.2.2.2.1.len : Nat) : Int))))) (c := (decide (y.1 = (2 : Int)))) (v := (.int .i64 ((k : Nat) : Int))) hf rfl rfl rfl (fun hact => (r_move rfl)) rfl rfl ?_; clear hf fa; intro fa hf
            refine sqgT (act := ((!(decide ((50 : Int) < ((y.2.2.2.2.2.2.1.len : Nat) : Int)))) && (decide (y.1 = (2 : Int))))) (ag := (!(decide ((50 : Int) < ((y.2.2.2.2.2.2.1.len : Nat) : Int))))) (c := (decide (y.1 = (2 : Int)))) (v := (.pointer (some ⟨ab1, (aoff1 + k * 7), none⟩))) hf rfl rfl rfl (fun hact => (by have hact0 := hact; (try simp only [Bool.and_eq_true, Bool.not_eq_true', Bool.or_eq_false_iff, Bool.or_eq_true, Bool.and_eq_false_iff, ne_eq, decide_eq_true_eq, decide_eq_false_iff_not] at hact0); exact (r_ixa (sz := 7) (j := k) (evAt (gb_ev hact rfl) hat1) (gb_ev hact rfl) Try.underlying105 (by kernel_rfl) rfl (by omega) rfl))) rfl rfl ?_; clear hf fa; intro fa hf
            refine sqgT (act := ((!(decide ((50 : Int) < ((y.2.2.2.2.2.2.1.len : Nat) : Int)))) && (decide (y.1 = (2 : Int))))) (ag := (!(decide ((50 : Int) < ((y.2.2.2.2.2.2.1.len : Nat) : Int))))) (c := (decide (y.1 = (2 : Int)))) (v := (.pointer (some ⟨ab1, ((aoff1 + k * 7) + 1), none⟩))) hf rfl rfl rfl (fun hact => (r_fa (gb_ev hact rfl) Try.underlying113 (f := 1) (q := ((aoff1 + k * 7) + 1)) rfl (by kernel_rfl) rfl)) rfl rfl ?_; clear hf fa; intro fa hf
            refine sqgT (act := ((!(decide ((50 : Int) < ((y.2.2.2.2.2.2.1.len : Nat) : Int)))) && (decide (y.1 = (2 : Int))))) (ag := (!(decide ((50 : Int) < ((y.2.2.2.2.2.2.1.len : Nat) : Int))))) (c := (decide (y.1 = (2 : Int)))) (v := (.int .u64 y.2.1)) hf rfl rfl rfl (fun hact => (r_load (v := (.int .u64 y.2.1)) (gb_ev hact rfl) Try.underlying26 rfl (cellsAt_cell (cellsAt_below hel1 hb hlb1) (i := 1) rfl rfl))) rfl rfl ?_; clear hf fa; intro fa hf
            refine sqgT (act := ((!(decide ((50 : Int) < ((y.2.2.2.2.2.2.1.len : Nat) : Int)))) && (decide (y.1 = (2 : Int))))) (ag := (!(decide ((50 : Int) < ((y.2.2.2.2.2.2.1.len : Nat) : Int))))) (c := (decide (y.1 = (2 : Int)))) (v := (.bool (decide ((4 : Int) < y.2.1)))) hf rfl rfl rfl (fun hact => (r_gt (gb_ev hact rfl) rfl)) rfl rfl ?_; clear hf fa; intro fa hf
            refine sqgF (act := (!(decide ((50 : Int) < ((y.2.2.2.2.2.2.1.len : Nat) : Int))))) (ag := true) (c := (decide ((50 : Int) < ((y.2.2.2.2.2.2.1.len : Nat) : Int)))) (v := (.bool ((decide (y.1 = (2 : Int))) && (decide ((4 : Int) < y.2.1))))) hf rfl rfl rfl (fun hact => (r_pickA2 (q := (!(decide ((50 : Int) < ((y.2.2.2.2.2.2.1.len : Nat) : Int))))) (b := (decide (y.1 = (2 : Int)))) (e := (decide ((4 : Int) < y.2.1))) hact rfl rfl rfl)) rfl rfl ?_; clear hf fa; intro fa hf
            refine sqgF (act := (!(decide ((50 : Int) < ((y.2.2.2.2.2.2.1.len : Nat) : Int))))) (ag := true) (c := (decide ((50 : Int) < ((y.2.2.2.2.2.2.1.len : Nat) : Int)))) (v := (.bool ((decide (y.1 = (2 : Int))) && (decide ((4 : Int) < y.2.1))))) hf rfl rfl rfl (fun hact => (r_move (gb_ev hact rfl))) rfl rfl ?_; clear hf fa; intro fa hf
            refine sqgT (act := ((!(decide ((50 : Int) < ((y.2.2.2.2.2.2.1.len : Nat) : Int)))) && ((decide (y.1 = (2 : Int))) && (decide ((4 : Int) < y.2.1))))) (ag := (!(decide ((50 : Int) < ((y.2.2.2.2.2.2.1.len : Nat) : Int))))) (c := ((decide (y.1 = (2 : Int))) && (decide ((4 : Int) < y.2.1)))) (v := (.slice a l.length c)) hf rfl rfl rfl (fun hact => (r_move rfl)) rfl rfl ?_; clear hf fa; intro fa hf
            refine sqgT (act := ((!(decide ((50 : Int) < ((y.2.2.2.2.2.2.1.len : Nat) : Int)))) && ((decide (y.1 = (2 : Int))) && (decide ((4 : Int) < y.2.1))))) (ag := (!(decide ((50 : Int) < ((y.2.2.2.2.2.2.1.len : Nat) : Int))))) (c := ((decide (y.1 = (2 : Int))) && (decide ((4 : Int) < y.2.1)))) (v := (.int .i64 ((k : Nat) : Int))) hf rfl rfl rfl (fun hact => (r_move rfl)) rfl rfl ?_; clear hf fa; intro fa hf
            refine sqgT (act := ((!(decide ((50 : Int) < ((y.2.2.2.2.2.2.1.len : Nat) : Int)))) && ((decide (y.1 = (2 : Int))) && (decide ((4 : Int) < y.2.1))))) (ag := (!(decide ((50 : Int) < ((y.2.2.2.2.2.2.1.len : Nat) : Int))))) (c := ((decide (y.1 = (2 : Int))) && (decide ((4 : Int) < y.2.1)))) (v := (.pointer (some ⟨ab1, (aoff1 + k * 7), none⟩))) hf rfl rfl rfl (fun hact => (by have hact0 := hact; (try simp only [Bool.and_eq_true, Bool.not_eq_true', Bool.or_eq_false_iff, Bool.or_eq_true, Bool.and_eq_false_iff, ne_eq, decide_eq_true_eq, decide_eq_false_iff_not] at hact0); exact (r_ixa (sz := 7) (j := k) (evAt (gb_ev hact rfl) hat1) (gb_ev hact rfl) Try.underlying105 (by kernel_rfl) rfl (by omega) rfl))) rfl rfl ?_; clear hf fa; intro fa hf
            refine sqgT (act := ((!(decide ((50 : Int) < ((y.2.2.2.2.2.2.1.len : Nat) : Int)))) && ((decide (y.1 = (2 : Int))) && (decide ((4 : Int) < y.2.1))))) (ag := (!(decide ((50 : Int) < ((y.2.2.2.2.2.2.1.len : Nat) : Int))))) (c := ((decide (y.1 = (2 : Int))) && (decide ((4 : Int) < y.2.1)))) (v := (.pointer (some ⟨ab1, ((aoff1 + k * 7) + 1), none⟩))) hf rfl rfl rfl (fun hact => (r_fa (gb_ev hact rfl) Try.underlying113 (f := 1) (q := ((aoff1 + k * 7) + 1)) rfl (by kernel_rfl) rfl)) rfl rfl ?_; clear hf fa; intro fa hf
            refine sqgT (act := ((!(decide ((50 : Int) < ((y.2.2.2.2.2.2.1.len : Nat) : Int)))) && ((decide (y.1 = (2 : Int))) && (decide ((4 : Int) < y.2.1))))) (ag := (!(decide ((50 : Int) < ((y.2.2.2.2.2.2.1.len : Nat) : Int))))) (c := ((decide (y.1 = (2 : Int))) && (decide ((4 : Int) < y.2.1)))) (v := (.int .u64 y.2.1)) hf rfl rfl rfl (fun hact => (r_load (v := (.int .u64 y.2.1)) (gb_ev hact rfl) Try.underlying26 rfl (cellsAt_cell (cellsAt_below hel1 hb hlb1) (i := 1) rfl rfl))) rfl rfl ?_; clear hf fa; intro fa hf
            refine sqgT (act := ((!(decide ((50 : Int) < ((y.2.2.2.2.2.2.1.len : Nat) : Int)))) && ((decide (y.1 = (2 : Int))) && (decide ((4 : Int) < y.2.1))))) (ag := (!(decide ((50 : Int) < ((y.2.2.2.2.2.2.1.len : Nat) : Int))))) (c := ((decide (y.1 = (2 : Int))) && (decide ((4 : Int) < y.2.1)))) (v := (.bool (decide (y.2.1 ≤ (256 : Int))))) hf rfl rfl rfl (fun hact => (r_le (gb_ev hact rfl) rfl)) rfl rfl ?_; clear hf fa; intro fa hf
            refine sqgF (act := (!(decide ((50 : Int) < ((y.2.2.2.2.2.2.1.len : Nat) : Int))))) (ag := true) (c := (decide ((50 : Int) < ((y.2.2.2.2.2.2.1.len : Nat) : Int)))) (v := (.bool (((decide (y.1 = (2 : Int))) && (decide ((4 : Int) < y.2.1))) && (decide (y.2.1 ≤ (256 : Int)))))) hf rfl rfl rfl (fun hact => (r_pickA2 (q := (!(decide ((50 : Int) < ((y.2.2.2.2.2.2.1.len : Nat) : Int))))) (b := ((decide (y.1 = (2 : Int))) && (decide ((4 : Int) < y.2.1)))) (e := (decide (y.2.1 ≤ (256 : Int)))) hact rfl rfl rfl)) rfl rfl ?_; clear hf fa; intro fa hf
            refine sqv hf (r_pickO (b := (decide ((50 : Int) < ((y.2.2.2.2.2.2.1.len : Nat) : Int)))) (e := (((decide (y.1 = (2 : Int))) && (decide ((4 : Int) < y.2.1))) && (decide (y.2.1 ≤ (256 : Int))))) rfl rfl rfl) rfl rfl rfl ?_; clear hf fa; intro fa hf
            apply wpList_nil
            (try simp only [Exit.then, Exit.inBlock, ↓reduceIte, Nat.reduceEqDiff])
            refine hK22 _ _ ?_
            refine wp_cond_split (t := ((decide ((50 : Int) < ((y.2.2.2.2.2.2.1.len : Nat) : Int))) || (((decide (y.1 = (2 : Int))) && (decide ((4 : Int) < y.2.1))) && (decide (y.2.1 ≤ (256 : Int)))))) (hf.ev rfl) (fun hqt107_1 => ?_) (fun hqt107_1 => ?_)
            · have hqt107_1b := hqt107_1
              try simp only [decide_eq_true_eq, Bool.and_eq_true, Bool.or_eq_true, Bool.not_eq_true', decide_eq_false_iff_not, ne_eq, Bool.not_eq_true] at hqt107_1
              refine wp_seq_k (fun K23 hK23 => ?_)
              refine wp_region_lit ?_
              refine sqv hf (r_assign rfl) rfl rfl rfl ?_; clear hf fa; intro fa hf
              apply wpList_nil
              (try simp only [Exit.then, Exit.inBlock, ↓reduceIte, Nat.reduceEqDiff])
              refine hK23 _ _ ?_
              refine wp_ret ?_
              (try simp only [Exit.then, Exit.inBlock])
              refine ret1 hf rfl rfl ?_
              exact ⟨rfl, hb⟩
            · have hqt107_1b := hqt107_1
              replace hqt107_1 := Bool.eq_false_iff.1 hqt107_1
              try simp only [ne_eq, decide_eq_true_eq, Bool.and_eq_true, Bool.or_eq_true, Bool.not_eq_true', decide_eq_false_iff_not] at hqt107_1
              refine wp_skip ?_
              (try simp only [Exit.then, Exit.inBlock, ↓reduceIte, Nat.reduceEqDiff])
              refine hK21 _ _ ?_
              refine wp_seq_k (fun K24 hK24 => ?_)
              have hwR : w.heap.size ≤ w7.heap.size := hb.size
              refine wp_region_vnT 12 (fun S wq => (¬ S 6 → Below w7.heap.size w7 wq) ∧ (S 6 → Af26 w w7 wq pm ((doN y.1 y.2.2.1 y.2.1.toNat ln mo C y.2.2.2.2.2.2.1.list)).1 mo ((doN y.1 y.2.2.1 y.2.1.toNat ln mo C y.2.2.2.2.2.2.1.list)).2))
                (fun V S => [(fun x _ => x = (.pointer (some ⟨pm, 0, none⟩))), (fun x _ => x = (.agg #[(.int .i64 ((ln : Nat) : Int)), (.int .i64 mo), (.slice ra C.length rc)])), (fun x _ => x = (.slice a l.length c)), (fun x _ => x = (.int .i64 ((k : Nat) : Int))), (fun x _ => x = (.pointer (some ⟨ab1, (aoff1 + k * 7), none⟩))), (fun x _ => x = (.agg #[(.int .i64 y.1), (.int .u64 y.2.1), (.int .i64 y.2.2.1), (.int .u8 y.2.2.2.1), (.int .u64 y.2.2.2.2.1), (.int .u64 y.2.2.2.2.2.1), (.slice y.2.2.2.2.2.2.1.at' y.2.2.2.2.2.2.1.len y.2.2.2.2.2.2.1.cap)])), (fun x wq => ∃ sxa sxc, x = (.tuple #[(.agg #[(.int .i64 ((((doN y.1 y.2.2.1 y.2.1.toNat ln mo C y.2.2.2.2.2.2.1.list)).1 : Nat) : Int)), (.int .i64 mo), (.slice sxa (((doN y.1 y.2.2.1 y.2.1.toNat ln mo C y.2.2.2.2.2.2.1.list)).2.length) sxc)]), (.bool true)]) ∧ Row 2 vCe 162 w.heap.size wq (.slice sxa (((doN y.1 y.2.2.1 y.2.1.toNat ln mo C y.2.2.2.2.2.2.1.list)).2.length) sxc) ((doN y.1 y.2.2.1 y.2.1.toNat ln mo C y.2.2.2.2.2.2.1.list)).2), (fun x wq => ∃ sxa sxc, x = (.tuple #[(.agg #[(.int .i64 ((((doN y.1 y.2.2.1 y.2.1.toNat ln mo C y.2.2.2.2.2.2.1.list)).1 : Nat) : Int)), (.int .i64 mo), (.slice sxa (((doN y.1 y.2.2.1 y.2.1.toNat ln mo C y.2.2.2.2.2.2.1.list)).2.length) sxc)]), (.bool true)]) ∧ Row 2 vCe 162 w.heap.size wq (.slice sxa (((doN y.1 y.2.2.1 y.2.1.toNat ln mo C y.2.2.2.2.2.2.1.list)).2.length) sxc) ((doN y.1 y.2.2.1 y.2.1.toNat ln mo C y.2.2.2.2.2.2.1.list)).2), (fun x wq => ∃ sxa sxc, x = (.agg #[(.int .i64 ((((doN y.1 y.2.2.1 y.2.1.toNat ln mo C y.2.2.2.2.2.2.1.list)).1 : Nat) : Int)), (.int .i64 mo), (.slice sxa (((doN y.1 y.2.2.1 y.2.1.toNat ln mo C y.2.2.2.2.2.2.1.list)).2.length) sxc)]) ∧ Row 2 vCe 162 w.heap.size wq (.slice sxa (((doN y.1 y.2.2.1 y.2.1.toNat ln mo C y.2.2.2.2.2.2.1.list)).2.length) sxc) ((doN y.1 y.2.2.1 y.2.1.toNat ln mo C y.2.2.2.2.2.2.1.list)).2), (fun x _ => x = (.bool true)), (fun x wq => ∃ b, x = .pointer (some ⟨b, 0, none⟩) ∧ w7.heap.size ≤ b ∧ (¬ S 11 → wq.heap[b]? = some (.cells #[(.int .i64 (0 : Int)), (.int .i64 (0 : Int)), (.slice none 0 0)] 111 (0, 0))) ∧ (S 11 → Fx26 w.heap.size b wq ((((doN y.1 y.2.2.1 y.2.1.toNat ln mo C y.2.2.2.2.2.2.1.list)).1 : Nat) : Int) mo ((doN y.1 y.2.2.1 y.2.1.toNat ln mo C y.2.2.2.2.2.2.1.list)).2)), (fun _ _ => True)])
                [10]
                [[], [], [], [], [2, 3], [4], [0, 1, 5], [6], [7], [7], [], [0, 1, 2, 3, 4, 5, 6, 7, 8, 10], []]
                hf (by kernel_rfl) (by kernel_rfl) (by kernel_rfl) (fun _ _ => rfl) (fun _ hS_ => ⟨fun _ => (Below.refl _ _).drew, fun h => absurd h (hS_ _)⟩) (fun _ _ _ _ _ _ => rfl) ?_ ?_
              · skip
                intro V
                have hKP : ∀ (i : Nat) (S : Nat → Prop) (wk : World), (∀ q ∈ ([6, 11] : List Nat), q ≠ i) → ∀ j v w', (((fun (S : Nat → Prop) => ([(fun x _ => x = (.pointer (some ⟨pm, 0, none⟩))), (fun x _ => x = (.agg #[(.int .i64 ((ln : Nat) : Int)), (.int .i64 mo), (.slice ra C.length rc)])), (fun x _ => x = (.slice a l.length c)), (fun x _ => x = (.int .i64 ((k : Nat) : Int))), (fun x _ => x = (.pointer (some ⟨ab1, (aoff1 + k * 7), none⟩))), (fun x _ => x = (.agg #[(.int .i64 y.1), (.int .u64 y.2.1), (.int .i64 y.2.2.1), (.int .u8 y.2.2.2.1), (.int .u64 y.2.2.2.2.1), (.int .u64 y.2.2.2.2.2.1), (.slice y.2.2.2.2.2.2.1.at' y.2.2.2.2.2.2.1.len y.2.2.2.2.2.2.1.cap)])), (fun x wq => ∃ sxa sxc, x = (.tuple #[(.agg #[(.int .i64 ((((doN y.1 y.2.2.1 y.2.1.toNat ln mo C y.2.2.2.2.2.2.1.list)).1 : Nat) : Int)), (.int .i64 mo), (.slice sxa (((doN y.1 y.2.2.1 y.2.1.toNat ln mo C y.2.2.2.2.2.2.1.list)).2.length) sxc)]), (.bool true)]) ∧ Row 2 vCe 162 w.heap.size wq (.slice sxa (((doN y.1 y.2.2.1 y.2.1.toNat ln mo C y.2.2.2.2.2.2.1.list)).2.length) sxc) ((doN y.1 y.2.2.1 y.2.1.toNat ln mo C y.2.2.2.2.2.2.1.list)).2), (fun x wq => ∃ sxa sxc, x = (.tuple #[(.agg #[(.int .i64 ((((doN y.1 y.2.2.1 y.2.1.toNat ln mo C y.2.2.2.2.2.2.1.list)).1 : Nat) : Int)), (.int .i64 mo), (.slice sxa (((doN y.1 y.2.2.1 y.2.1.toNat ln mo C y.2.2.2.2.2.2.1.list)).2.length) sxc)]), (.bool true)]) ∧ Row 2 vCe 162 w.heap.size wq (.slice sxa (((doN y.1 y.2.2.1 y.2.1.toNat ln mo C y.2.2.2.2.2.2.1.list)).2.length) sxc) ((doN y.1 y.2.2.1 y.2.1.toNat ln mo C y.2.2.2.2.2.2.1.list)).2), (fun x wq => ∃ sxa sxc, x = (.agg #[(.int .i64 ((((doN y.1 y.2.2.1 y.2.1.toNat ln mo C y.2.2.2.2.2.2.1.list)).1 : Nat) : Int)), (.int .i64 mo), (.slice sxa (((doN y.1 y.2.2.1 y.2.1.toNat ln mo C y.2.2.2.2.2.2.1.list)).2.length) sxc)]) ∧ Row 2 vCe 162 w.heap.size wq (.slice sxa (((doN y.1 y.2.2.1 y.2.1.toNat ln mo C y.2.2.2.2.2.2.1.list)).2.length) sxc) ((doN y.1 y.2.2.1 y.2.1.toNat ln mo C y.2.2.2.2.2.2.1.list)).2), (fun x _ => x = (.bool true)), (fun x wq => ∃ b, x = .pointer (some ⟨b, 0, none⟩) ∧ w7.heap.size ≤ b ∧ (¬ S 11 → wq.heap[b]? = some (.cells #[(.int .i64 (0 : Int)), (.int .i64 (0 : Int)), (.slice none 0 0)] 111 (0, 0))) ∧ (S 11 → Fx26 w.heap.size b wq ((((doN y.1 y.2.2.1 y.2.1.toNat ln mo C y.2.2.2.2.2.2.1.list)).1 : Nat) : Int) mo ((doN y.1 y.2.2.1 y.2.1.toNat ln mo C y.2.2.2.2.2.2.1.list)).2)), (fun _ _ => True)] : List (Value → World → Prop))) S).getD j (fun _ _ => True)) v wk → Below wk.heap.size wk w' → (((fun (S : Nat → Prop) => ([(fun x _ => x = (.pointer (some ⟨pm, 0, none⟩))), (fun x _ => x = (.agg #[(.int .i64 ((ln : Nat) : Int)), (.int .i64 mo), (.slice ra C.length rc)])), (fun x _ => x = (.slice a l.length c)), (fun x _ => x = (.int .i64 ((k : Nat) : Int))), (fun x _ => x = (.pointer (some ⟨ab1, (aoff1 + k * 7), none⟩))), (fun x _ => x = (.agg #[(.int .i64 y.1), (.int .u64 y.2.1), (.int .i64 y.2.2.1), (.int .u8 y.2.2.2.1), (.int .u64 y.2.2.2.2.1), (.int .u64 y.2.2.2.2.2.1), (.slice y.2.2.2.2.2.2.1.at' y.2.2.2.2.2.2.1.len y.2.2.2.2.2.2.1.cap)])), (fun x wq => ∃ sxa sxc, x = (.tuple #[(.agg #[(.int .i64 ((((doN y.1 y.2.2.1 y.2.1.toNat ln mo C y.2.2.2.2.2.2.1.list)).1 : Nat) : Int)), (.int .i64 mo), (.slice sxa (((doN y.1 y.2.2.1 y.2.1.toNat ln mo C y.2.2.2.2.2.2.1.list)).2.length) sxc)]), (.bool true)]) ∧ Row 2 vCe 162 w.heap.size wq (.slice sxa (((doN y.1 y.2.2.1 y.2.1.toNat ln mo C y.2.2.2.2.2.2.1.list)).2.length) sxc) ((doN y.1 y.2.2.1 y.2.1.toNat ln mo C y.2.2.2.2.2.2.1.list)).2), (fun x wq => ∃ sxa sxc, x = (.tuple #[(.agg #[(.int .i64 ((((doN y.1 y.2.2.1 y.2.1.toNat ln mo C y.2.2.2.2.2.2.1.list)).1 : Nat) : Int)), (.int .i64 mo), (.slice sxa (((doN y.1 y.2.2.1 y.2.1.toNat ln mo C y.2.2.2.2.2.2.1.list)).2.length) sxc)]), (.bool true)]) ∧ Row 2 vCe 162 w.heap.size wq (.slice sxa (((doN y.1 y.2.2.1 y.2.1.toNat ln mo C y.2.2.2.2.2.2.1.list)).2.length) sxc) ((doN y.1 y.2.2.1 y.2.1.toNat ln mo C y.2.2.2.2.2.2.1.list)).2), (fun x wq => ∃ sxa sxc, x = (.agg #[(.int .i64 ((((doN y.1 y.2.2.1 y.2.1.toNat ln mo C y.2.2.2.2.2.2.1.list)).1 : Nat) : Int)), (.int .i64 mo), (.slice sxa (((doN y.1 y.2.2.1 y.2.1.toNat ln mo C y.2.2.2.2.2.2.1.list)).2.length) sxc)]) ∧ Row 2 vCe 162 w.heap.size wq (.slice sxa (((doN y.1 y.2.2.1 y.2.1.toNat ln mo C y.2.2.2.2.2.2.1.list)).2.length) sxc) ((doN y.1 y.2.2.1 y.2.1.toNat ln mo C y.2.2.2.2.2.2.1.list)).2), (fun x _ => x = (.bool true)), (fun x wq => ∃ b, x = .pointer (some ⟨b, 0, none⟩) ∧ w7.heap.size ≤ b ∧ (¬ S 11 → wq.heap[b]? = some (.cells #[(.int .i64 (0 : Int)), (.int .i64 (0 : Int)), (.slice none 0 0)] 111 (0, 0))) ∧ (S 11 → Fx26 w.heap.size b wq ((((doN y.1 y.2.2.1 y.2.1.toNat ln mo C y.2.2.2.2.2.2.1.list)).1 : Nat) : Int) mo ((doN y.1 y.2.2.1 y.2.1.toNat ln mo C y.2.2.2.2.2.2.1.list)).2)), (fun _ _ => True)] : List (Value → World → Prop))) (ad i S)).getD j (fun _ _ => True)) v w' := by
                  intro i S wk hi j v w' h hB
                  match j with
                  | 0 =>
                    exact h
                  | 1 =>
                    exact h
                  | 2 =>
                    exact h
                  | 3 =>
                    exact h
                  | 4 =>
                    exact h
                  | 5 =>
                    exact h
                  | 6 =>
                    obtain ⟨s1, s2, e1, e2⟩ := h
                    exact ⟨s1, s2, e1, e2.ext hB⟩
                  | 7 =>
                    obtain ⟨s1, s2, e1, e2⟩ := h
                    exact ⟨s1, s2, e1, e2.ext hB⟩
                  | 8 =>
                    obtain ⟨s1, s2, e1, e2⟩ := h
                    exact ⟨s1, s2, e1, e2.ext hB⟩
                  | 9 =>
                    exact h
                  | 10 =>
                    obtain ⟨b, e1, e2, e3, e4⟩ := h
                    exact ⟨b, e1, e2, fun hn => blk_ext (e3 (fun hs => hn (.inr hs))) hB, fun hs => by rcases hs with e | hs; exact absurd e (hi 11 (by decide)); exact (e4 hs).ext hB⟩
                  | 11 =>
                    exact h
                  | _ + 12 => trivial
                refine ⟨fun S wu0 hC hS hd hi => ?_, ?_⟩
                · skip
                  replace hC := show (¬ S 6 → Below w7.heap.size w7 wu0) ∧ (S 6 → Af26 w w7 wu0 pm ((doN y.1 y.2.2.1 y.2.1.toNat ln mo C y.2.2.2.2.2.2.1.list)).1 mo ((doN y.1 y.2.2.1 y.2.1.toNat ln mo C y.2.2.2.2.2.2.1.list)).2) from hC
                  refine uv_plain (C := (fun S wq => (¬ S 6 → Below w7.heap.size w7 wq) ∧ (S 6 → Af26 w w7 wq pm ((doN y.1 y.2.2.1 y.2.1.toNat ln mo C y.2.2.2.2.2.2.1.list)).1 mo ((doN y.1 y.2.2.1 y.2.1.toNat ln mo C y.2.2.2.2.2.2.1.list)).2))) (hKP 0 S wu0 (by decide)) (fun _ h1 h2 => ⟨fun hn => Below.trans (h1.1 (fun hs => hn (.inr hs))) (Below.mono h2 (Below.size (h1.1 (fun hs => hn (.inr hs))))), fun hs => (h1.2 (by rcases hs with e | hs; exact absurd e (by decide); exact hs)).ext h2⟩) hC hS ?_
                  replace hC := hC.1 (fun h => hi (hS.down 6 h 0 (by decide)))
                  replace hb := hb.trans (hC.mono hb.size)
                  replace hkb1 := blk_ext hkb1 hC
                  replace hrr := Row.ext hrr hC
                  exact Runs.does (r_move rfl) ⟨Below.refl _ _, rfl, nofr rfl⟩
                refine ⟨fun S wu1 hC hS hd hi => ?_, ?_⟩
                · skip
                  replace hC := show (¬ S 6 → Below w7.heap.size w7 wu1) ∧ (S 6 → Af26 w w7 wu1 pm ((doN y.1 y.2.2.1 y.2.1.toNat ln mo C y.2.2.2.2.2.2.1.list)).1 mo ((doN y.1 y.2.2.1 y.2.1.toNat ln mo C y.2.2.2.2.2.2.1.list)).2) from hC
                  refine uv_plain (C := (fun S wq => (¬ S 6 → Below w7.heap.size w7 wq) ∧ (S 6 → Af26 w w7 wq pm ((doN y.1 y.2.2.1 y.2.1.toNat ln mo C y.2.2.2.2.2.2.1.list)).1 mo ((doN y.1 y.2.2.1 y.2.1.toNat ln mo C y.2.2.2.2.2.2.1.list)).2))) (hKP 1 S wu1 (by decide)) (fun _ h1 h2 => ⟨fun hn => Below.trans (h1.1 (fun hs => hn (.inr hs))) (Below.mono h2 (Below.size (h1.1 (fun hs => hn (.inr hs))))), fun hs => (h1.2 (by rcases hs with e | hs; exact absurd e (by decide); exact hs)).ext h2⟩) hC hS ?_
                  replace hC := hC.1 (fun h => hi (hS.down 6 h 1 (by decide)))
                  replace hb := hb.trans (hC.mono hb.size)
                  replace hkb1 := blk_ext hkb1 hC
                  replace hrr := Row.ext hrr hC
                  exact Runs.does (r_loadA (cs := [(.int .i64 ((ln : Nat) : Int)), (.int .i64 mo), (.slice ra C.length rc)]) rfl Try.underlying111 rfl (by kernel_rfl) (cellsAt_blk hkb1)) ⟨Below.refl _ _, rfl, nofr rfl⟩
                refine ⟨fun S wu2 hC hS hd hi => ?_, ?_⟩
                · skip
                  replace hC := show (¬ S 6 → Below w7.heap.size w7 wu2) ∧ (S 6 → Af26 w w7 wu2 pm ((doN y.1 y.2.2.1 y.2.1.toNat ln mo C y.2.2.2.2.2.2.1.list)).1 mo ((doN y.1 y.2.2.1 y.2.1.toNat ln mo C y.2.2.2.2.2.2.1.list)).2) from hC
                  refine uv_plain (C := (fun S wq => (¬ S 6 → Below w7.heap.size w7 wq) ∧ (S 6 → Af26 w w7 wq pm ((doN y.1 y.2.2.1 y.2.1.toNat ln mo C y.2.2.2.2.2.2.1.list)).1 mo ((doN y.1 y.2.2.1 y.2.1.toNat ln mo C y.2.2.2.2.2.2.1.list)).2))) (hKP 2 S wu2 (by decide)) (fun _ h1 h2 => ⟨fun hn => Below.trans (h1.1 (fun hs => hn (.inr hs))) (Below.mono h2 (Below.size (h1.1 (fun hs => hn (.inr hs))))), fun hs => (h1.2 (by rcases hs with e | hs; exact absurd e (by decide); exact hs)).ext h2⟩) hC hS ?_
                  replace hC := hC.1 (fun h => hi (hS.down 4 (hS.down 5 (hS.down 6 h 5 (by decide)) 4 (by decide)) 2 (by decide)))
                  replace hb := hb.trans (hC.mono hb.size)
                  replace hkb1 := blk_ext hkb1 hC
                  replace hrr := Row.ext hrr hC
                  exact Runs.does (r_move rfl) ⟨Below.refl _ _, rfl, nofr rfl⟩
                refine ⟨fun S wu3 hC hS hd hi => ?_, ?_⟩
                · skip
                  replace hC := show (¬ S 6 → Below w7.heap.size w7 wu3) ∧ (S 6 → Af26 w w7 wu3 pm ((doN y.1 y.2.2.1 y.2.1.toNat ln mo C y.2.2.2.2.2.2.1.list)).1 mo ((doN y.1 y.2.2.1 y.2.1.toNat ln mo C y.2.2.2.2.2.2.1.list)).2) from hC
                  refine uv_plain (C := (fun S wq => (¬ S 6 → Below w7.heap.size w7 wq) ∧ (S 6 → Af26 w w7 wq pm ((doN y.1 y.2.2.1 y.2.1.toNat ln mo C y.2.2.2.2.2.2.1.list)).1 mo ((doN y.1 y.2.2.1 y.2.1.toNat ln mo C y.2.2.2.2.2.2.1.list)).2))) (hKP 3 S wu3 (by decide)) (fun _ h1 h2 => ⟨fun hn => Below.trans (h1.1 (fun hs => hn (.inr hs))) (Below.mono h2 (Below.size (h1.1 (fun hs => hn (.inr hs))))), fun hs => (h1.2 (by rcases hs with e | hs; exact absurd e (by decide); exact hs)).ext h2⟩) hC hS ?_
                  replace hC := hC.1 (fun h => hi (hS.down 4 (hS.down 5 (hS.down 6 h 5 (by decide)) 4 (by decide)) 3 (by decide)))
                  replace hb := hb.trans (hC.mono hb.size)
                  replace hkb1 := blk_ext hkb1 hC
                  replace hrr := Row.ext hrr hC
                  exact Runs.does (r_move rfl) ⟨Below.refl _ _, rfl, nofr rfl⟩
                refine ⟨fun S wu4 hC hS hd hi => ?_, ?_⟩
                · skip
                  replace hC := show (¬ S 6 → Below w7.heap.size w7 wu4) ∧ (S 6 → Af26 w w7 wu4 pm ((doN y.1 y.2.2.1 y.2.1.toNat ln mo C y.2.2.2.2.2.2.1.list)).1 mo ((doN y.1 y.2.2.1 y.2.1.toNat ln mo C y.2.2.2.2.2.2.1.list)).2) from hC
                  refine uv_plain (C := (fun S wq => (¬ S 6 → Below w7.heap.size w7 wq) ∧ (S 6 → Af26 w w7 wq pm ((doN y.1 y.2.2.1 y.2.1.toNat ln mo C y.2.2.2.2.2.2.1.list)).1 mo ((doN y.1 y.2.2.1 y.2.1.toNat ln mo C y.2.2.2.2.2.2.1.list)).2))) (hKP 4 S wu4 (by decide)) (fun _ h1 h2 => ⟨fun hn => Below.trans (h1.1 (fun hs => hn (.inr hs))) (Below.mono h2 (Below.size (h1.1 (fun hs => hn (.inr hs))))), fun hs => (h1.2 (by rcases hs with e | hs; exact absurd e (by decide); exact hs)).ext h2⟩) hC hS ?_
                  replace hC := hC.1 (fun h => hi (hS.down 5 (hS.down 6 h 5 (by decide)) 4 (by decide)))
                  have h2 := hS.post 2 (hd 2 (by decide))
                  replace h2 : V 2 = (.slice a l.length c) := h2
                  have h3 := hS.post 3 (hd 3 (by decide))
                  replace h3 : V 3 = (.int .i64 ((k : Nat) : Int)) := h3
                  replace hb := hb.trans (hC.mono hb.size)
                  replace hkb1 := blk_ext hkb1 hC
                  replace hrr := Row.ext hrr hC
                  exact Runs.does (r_ixa (sz := 7) (j := k) (evAt (congrArg some h2) hat1) (congrArg some h3) Try.underlying105 (by kernel_rfl) rfl (by omega) rfl) ⟨Below.refl _ _, rfl, nofr rfl⟩
                refine ⟨fun S wu5 hC hS hd hi => ?_, ?_⟩
                · skip
                  replace hC := show (¬ S 6 → Below w7.heap.size w7 wu5) ∧ (S 6 → Af26 w w7 wu5 pm ((doN y.1 y.2.2.1 y.2.1.toNat ln mo C y.2.2.2.2.2.2.1.list)).1 mo ((doN y.1 y.2.2.1 y.2.1.toNat ln mo C y.2.2.2.2.2.2.1.list)).2) from hC
                  refine uv_plain (C := (fun S wq => (¬ S 6 → Below w7.heap.size w7 wq) ∧ (S 6 → Af26 w w7 wq pm ((doN y.1 y.2.2.1 y.2.1.toNat ln mo C y.2.2.2.2.2.2.1.list)).1 mo ((doN y.1 y.2.2.1 y.2.1.toNat ln mo C y.2.2.2.2.2.2.1.list)).2))) (hKP 5 S wu5 (by decide)) (fun _ h1 h2 => ⟨fun hn => Below.trans (h1.1 (fun hs => hn (.inr hs))) (Below.mono h2 (Below.size (h1.1 (fun hs => hn (.inr hs))))), fun hs => (h1.2 (by rcases hs with e | hs; exact absurd e (by decide); exact hs)).ext h2⟩) hC hS ?_
                  replace hC := hC.1 (fun h => hi (hS.down 6 h 5 (by decide)))
                  have h4 := hS.post 4 (hd 4 (by decide))
                  replace h4 : V 4 = (.pointer (some ⟨ab1, (aoff1 + k * 7), none⟩)) := h4
                  replace hb := hb.trans (hC.mono hb.size)
                  replace hkb1 := blk_ext hkb1 hC
                  replace hrr := Row.ext hrr hC
                  exact Runs.does (r_loadA (cs := [(.int .i64 y.1), (.int .u64 y.2.1), (.int .i64 y.2.2.1), (.int .u8 y.2.2.2.1), (.int .u64 y.2.2.2.2.1), (.int .u64 y.2.2.2.2.2.1), (.slice y.2.2.2.2.2.2.1.at' y.2.2.2.2.2.2.1.len y.2.2.2.2.2.2.1.cap)]) (congrArg some h4) Try.underlying113 rfl (by kernel_rfl) (cellsAt_below hel1 hb hlb1)) ⟨Below.refl _ _, rfl, nofr rfl⟩
                refine ⟨fun S wu6 hC hS hd hi => ?_, ?_⟩
                · skip
                  replace hC := show (¬ S 6 → Below w7.heap.size w7 wu6) ∧ (S 6 → Af26 w w7 wu6 pm ((doN y.1 y.2.2.1 y.2.1.toNat ln mo C y.2.2.2.2.2.2.1.list)).1 mo ((doN y.1 y.2.2.1 y.2.1.toNat ln mo C y.2.2.2.2.2.2.1.list)).2) from hC
                  replace hC := hC.1 hi
                  have h0 := hS.post 0 (hd 0 (by decide))
                  replace h0 : V 0 = (.pointer (some ⟨pm, 0, none⟩)) := h0
                  have h1 := hS.post 1 (hd 1 (by decide))
                  replace h1 : V 1 = (.agg #[(.int .i64 ((ln : Nat) : Int)), (.int .i64 mo), (.slice ra C.length rc)]) := h1
                  have h5 := hS.post 5 (hd 5 (by decide))
                  replace h5 : V 5 = (.agg #[(.int .i64 y.1), (.int .u64 y.2.1), (.int .i64 y.2.2.1), (.int .u8 y.2.2.2.1), (.int .u64 y.2.2.2.2.1), (.int .u64 y.2.2.2.2.2.1), (.slice y.2.2.2.2.2.2.1.at' y.2.2.2.2.2.2.1.len y.2.2.2.2.2.2.1.cap)]) := h5
                  replace hb := hb.trans (hC.mono hb.size)
                  replace hkb1 := blk_ext hkb1 hC
                  replace hrr := Row.ext hrr hC
                  refine Does.mono (d_callX (vs := [(.pointer (some ⟨pm, 0, none⟩)), (.agg #[(.int .i64 ((ln : Nat) : Int)), (.int .i64 mo), (.slice ra C.length rc)]), (.agg #[(.int .i64 y.1), (.int .u64 y.2.1), (.int .i64 y.2.2.1), (.int .u8 y.2.2.2.1), (.int .u64 y.2.2.2.2.1), (.int .u64 y.2.2.2.2.2.1), (.slice y.2.2.2.2.2.2.1.at' y.2.2.2.2.2.2.1.len y.2.2.2.2.2.2.1.cap)])]) (show [some (V 0), some (V 1), some (V 5)] = [some (.pointer (some ⟨pm, 0, none⟩)), some (.agg #[(.int .i64 ((ln : Nat) : Int)), (.int .i64 mo), (.slice ra C.length rc)]), some (.agg #[(.int .i64 y.1), (.int .u64 y.2.1), (.int .i64 y.2.2.1), (.int .u8 y.2.2.2.1), (.int .u64 y.2.2.2.2.1), (.int .u64 y.2.2.2.2.2.1), (.slice y.2.2.2.2.2.2.1.at' y.2.2.2.2.2.2.1.len y.2.2.2.2.2.2.1.cap)])] from by rw [h0, h1, h5]) Try.func60 (by kernel_rfl) (by kernel_rfl) (do_to26 hb (hSt.ext hC) hrr (by omega) hyo (by omega))) ?_
                  rintro _ wz ⟨sxa, sxc, rfl, hrs, hS2, hb2, hK2, hZ2⟩
                  refine ⟨⟨⟨fun hn => absurd (.inl rfl) hn, fun _ => ⟨hS2, hb2, (KT.of_below hC).trans hK2, Nat.le_trans hC.size hZ2⟩⟩, fun j hj => ?_, hZ2⟩, ⟨sxa, sxc, rfl, hrs⟩, nofr rfl⟩
                  match j with
                  | 0 =>
                    exact hS.post 0 hj
                  | 1 =>
                    exact hS.post 1 hj
                  | 2 =>
                    exact hS.post 2 hj
                  | 3 =>
                    exact hS.post 3 hj
                  | 4 =>
                    exact hS.post 4 hj
                  | 5 =>
                    exact hS.post 5 hj
                  | 6 =>
                    exact absurd hj hi
                  | 7 =>
                    exact absurd (hS.down 7 hj 6 (by decide)) hi
                  | 8 =>
                    exact absurd (hS.down 7 (hS.down 8 hj 7 (by decide)) 6 (by decide)) hi
                  | 9 =>
                    exact absurd (hS.down 7 (hS.down 9 hj 7 (by decide)) 6 (by decide)) hi
                  | 10 =>
                    obtain ⟨c, e1, e2, e3, e4⟩ := hS.post 10 hj
                    exact ⟨c, e1, e2, fun hn => hK2 _ _ (e3 (fun hs => hn (.inr hs))), fun hs => by rcases hs with e | hs; exact absurd e (by decide); exact absurd (hS.down 11 hs 6 (by decide)) hi⟩
                  | 11 =>
                    exact absurd (hS.down 11 hj 6 (by decide)) hi
                  | _ + 12 => trivial
                refine ⟨fun S wu7 hC hS hd hi => ?_, ?_⟩
                · skip
                  replace hC := show (¬ S 6 → Below w7.heap.size w7 wu7) ∧ (S 6 → Af26 w w7 wu7 pm ((doN y.1 y.2.2.1 y.2.1.toNat ln mo C y.2.2.2.2.2.2.1.list)).1 mo ((doN y.1 y.2.2.1 y.2.1.toNat ln mo C y.2.2.2.2.2.2.1.list)).2) from hC
                  refine uv_plain (C := (fun S wq => (¬ S 6 → Below w7.heap.size w7 wq) ∧ (S 6 → Af26 w w7 wq pm ((doN y.1 y.2.2.1 y.2.1.toNat ln mo C y.2.2.2.2.2.2.1.list)).1 mo ((doN y.1 y.2.2.1 y.2.1.toNat ln mo C y.2.2.2.2.2.2.1.list)).2))) (hKP 7 S wu7 (by decide)) (fun _ h1 h2 => ⟨fun hn => Below.trans (h1.1 (fun hs => hn (.inr hs))) (Below.mono h2 (Below.size (h1.1 (fun hs => hn (.inr hs))))), fun hs => (h1.2 (by rcases hs with e | hs; exact absurd e (by decide); exact hs)).ext h2⟩) hC hS ?_
                  have h6 := hS.post 6 (hd 6 (by decide))
                  obtain ⟨sxa, sxc, h6, hrs⟩ := h6
                  exact Runs.does (r_move (congrArg some h6)) ⟨Below.refl _ _, ⟨sxa, sxc, rfl, hrs⟩, nofr rfl⟩
                refine ⟨fun S wu8 hC hS hd hi => ?_, ?_⟩
                · skip
                  replace hC := show (¬ S 6 → Below w7.heap.size w7 wu8) ∧ (S 6 → Af26 w w7 wu8 pm ((doN y.1 y.2.2.1 y.2.1.toNat ln mo C y.2.2.2.2.2.2.1.list)).1 mo ((doN y.1 y.2.2.1 y.2.1.toNat ln mo C y.2.2.2.2.2.2.1.list)).2) from hC
                  refine uv_plain (C := (fun S wq => (¬ S 6 → Below w7.heap.size w7 wq) ∧ (S 6 → Af26 w w7 wq pm ((doN y.1 y.2.2.1 y.2.1.toNat ln mo C y.2.2.2.2.2.2.1.list)).1 mo ((doN y.1 y.2.2.1 y.2.1.toNat ln mo C y.2.2.2.2.2.2.1.list)).2))) (hKP 8 S wu8 (by decide)) (fun _ h1 h2 => ⟨fun hn => Below.trans (h1.1 (fun hs => hn (.inr hs))) (Below.mono h2 (Below.size (h1.1 (fun hs => hn (.inr hs))))), fun hs => (h1.2 (by rcases hs with e | hs; exact absurd e (by decide); exact hs)).ext h2⟩) hC hS ?_
                  have h7 := hS.post 7 (hd 7 (by decide))
                  obtain ⟨sxa, sxc, h7, hrs⟩ := h7
                  exact Runs.does (r_extract (congrArg some h7) (i := 0) rfl) ⟨Below.refl _ _, ⟨sxa, sxc, rfl, hrs⟩, nofr rfl⟩
                refine ⟨fun S wu9 hC hS hd hi => ?_, ?_⟩
                · skip
                  replace hC := show (¬ S 6 → Below w7.heap.size w7 wu9) ∧ (S 6 → Af26 w w7 wu9 pm ((doN y.1 y.2.2.1 y.2.1.toNat ln mo C y.2.2.2.2.2.2.1.list)).1 mo ((doN y.1 y.2.2.1 y.2.1.toNat ln mo C y.2.2.2.2.2.2.1.list)).2) from hC
                  refine uv_plain (C := (fun S wq => (¬ S 6 → Below w7.heap.size w7 wq) ∧ (S 6 → Af26 w w7 wq pm ((doN y.1 y.2.2.1 y.2.1.toNat ln mo C y.2.2.2.2.2.2.1.list)).1 mo ((doN y.1 y.2.2.1 y.2.1.toNat ln mo C y.2.2.2.2.2.2.1.list)).2))) (hKP 9 S wu9 (by decide)) (fun _ h1 h2 => ⟨fun hn => Below.trans (h1.1 (fun hs => hn (.inr hs))) (Below.mono h2 (Below.size (h1.1 (fun hs => hn (.inr hs))))), fun hs => (h1.2 (by rcases hs with e | hs; exact absurd e (by decide); exact hs)).ext h2⟩) hC hS ?_
                  have h7 := hS.post 7 (hd 7 (by decide))
                  obtain ⟨sxa, sxc, h7, hrs⟩ := h7
                  exact Runs.does (r_extract (congrArg some h7) (i := 1) rfl) ⟨Below.refl _ _, rfl, nofr rfl⟩
                refine ⟨fun S wu10 hC hS hd hi => ?_, ?_⟩
                · skip
                  replace hC := show (¬ S 6 → Below w7.heap.size w7 wu10) ∧ (S 6 → Af26 w w7 wu10 pm ((doN y.1 y.2.2.1 y.2.1.toNat ln mo C y.2.2.2.2.2.2.1.list)).1 mo ((doN y.1 y.2.2.1 y.2.1.toNat ln mo C y.2.2.2.2.2.2.1.list)).2) from hC
                  refine uv_plain (C := (fun S wq => (¬ S 6 → Below w7.heap.size w7 wq) ∧ (S 6 → Af26 w w7 wq pm ((doN y.1 y.2.2.1 y.2.1.toNat ln mo C y.2.2.2.2.2.2.1.list)).1 mo ((doN y.1 y.2.2.1 y.2.1.toNat ln mo C y.2.2.2.2.2.2.1.list)).2))) (hKP 10 S wu10 (by decide)) (fun _ h1 h2 => ⟨fun hn => Below.trans (h1.1 (fun hs => hn (.inr hs))) (Below.mono h2 (Below.size (h1.1 (fun hs => hn (.inr hs))))), fun hs => (h1.2 (by rcases hs with e | hs; exact absurd e (by decide); exact hs)).ext h2⟩) hC hS ?_
                  have hCz : w7.heap.size ≤ wu10.heap.size := by
                    by_cases hz : S 6
                    · exact (hC.2 hz).sz
                    · exact (hC.1 hz).size
                  refine Does.mono (d_alloc (z := (.agg #[(.int .i64 (0 : Int)), (.int .i64 (0 : Int)), (.slice none 0 0)])) (cs := #[(.int .i64 (0 : Int)), (.int .i64 (0 : Int)), (.slice none 0 0)]) (by kernel_rfl) rfl) ?_
                  rintro _ w' ⟨b, rfl, hF⟩
                  exact ⟨hF.2.2, ⟨b, rfl, Nat.le_trans hCz hF.1, fun _ => hF.2.1, fun hs => by rcases hs with e | hs; exact absurd e (by decide); exact absurd (hS.down 11 hs 10 (by decide)) hi⟩, isfr rfl hF.1 (blk_lt hF.2.1)⟩
                refine ⟨fun S wu11 hC hS hd hi => ?_, ?_⟩
                · skip
                  replace hC := show (¬ S 6 → Below w7.heap.size w7 wu11) ∧ (S 6 → Af26 w w7 wu11 pm ((doN y.1 y.2.2.1 y.2.1.toNat ln mo C y.2.2.2.2.2.2.1.list)).1 mo ((doN y.1 y.2.2.1 y.2.1.toNat ln mo C y.2.2.2.2.2.2.1.list)).2) from hC
                  have h0 := hS.post 0 (hd 0 (by decide))
                  replace h0 : V 0 = (.pointer (some ⟨pm, 0, none⟩)) := h0
                  have h1 := hS.post 1 (hd 1 (by decide))
                  replace h1 : V 1 = (.agg #[(.int .i64 ((ln : Nat) : Int)), (.int .i64 mo), (.slice ra C.length rc)]) := h1
                  have h2 := hS.post 2 (hd 2 (by decide))
                  replace h2 : V 2 = (.slice a l.length c) := h2
                  have h3 := hS.post 3 (hd 3 (by decide))
                  replace h3 : V 3 = (.int .i64 ((k : Nat) : Int)) := h3
                  have h4 := hS.post 4 (hd 4 (by decide))
                  replace h4 : V 4 = (.pointer (some ⟨ab1, (aoff1 + k * 7), none⟩)) := h4
                  have h5 := hS.post 5 (hd 5 (by decide))
                  replace h5 : V 5 = (.agg #[(.int .i64 y.1), (.int .u64 y.2.1), (.int .i64 y.2.2.1), (.int .u8 y.2.2.2.1), (.int .u64 y.2.2.2.2.1), (.int .u64 y.2.2.2.2.2.1), (.slice y.2.2.2.2.2.2.1.at' y.2.2.2.2.2.2.1.len y.2.2.2.2.2.2.1.cap)]) := h5
                  have h6 := hS.post 6 (hd 6 (by decide))
                  obtain ⟨sxa, sxc, h6, hrs⟩ := h6
                  have h7 := hS.post 7 (hd 7 (by decide))
                  obtain ⟨sxa, sxc, h7, hrs⟩ := h7
                  have h8 := hS.post 8 (hd 8 (by decide))
                  obtain ⟨sxa, sxc, h8, hrs⟩ := h8
                  have h10 := hS.post 10 (hd 10 (by decide))
                  obtain ⟨b2, h10, hle2, hk3z, hk3⟩ := h10
                  replace hk3 := hk3z hi
                  refine Does.mono (R := fun _ wz => Wrote wu11 b2 #[(.int .i64 ((((doN y.1 y.2.2.1 y.2.1.toNat ln mo C y.2.2.2.2.2.2.1.list)).1 : Nat) : Int)), (.int .i64 mo), (.slice sxa (((doN y.1 y.2.2.1 y.2.1.toNat ln mo C y.2.2.2.2.2.2.1.list)).2.length) sxc)] 111 wz) (d_storeK (T := 111) (v := (.agg #[(.int .i64 ((((doN y.1 y.2.2.1 y.2.1.toNat ln mo C y.2.2.2.2.2.2.1.list)).1 : Nat) : Int)), (.int .i64 mo), (.slice sxa (((doN y.1 y.2.2.1 y.2.1.toNat ln mo C y.2.2.2.2.2.2.1.list)).2.length) sxc)])) (cs := #[(.int .i64 (0 : Int)), (.int .i64 (0 : Int)), (.slice none 0 0)]) (cs' := #[(.int .i64 ((((doN y.1 y.2.2.1 y.2.1.toNat ln mo C y.2.2.2.2.2.2.1.list)).1 : Nat) : Int)), (.int .i64 mo), (.slice sxa (((doN y.1 y.2.2.1 y.2.1.toNat ln mo C y.2.2.2.2.2.2.1.list)).2.length) sxc)]) (congrArg some h10) (congrArg some h8) (by kernel_rfl) (by kernel_rfl) hk3 (by kernel_rfl) (by kernel_rfl)) ?_
                  rintro _ wz ⟨hY, hgY⟩
                  refine ⟨⟨⟨fun hn => absurd (.inr (hd 6 (by decide))) hn, fun _ => (hC.2 (hd 6 (by decide))).grown hgY hk3 hle2 hwR⟩, fun j hj => ?_, hgY.size⟩, trivial, nofr rfl⟩
                  match j with
                  | 0 =>
                    exact hS.post 0 hj
                  | 1 =>
                    exact hS.post 1 hj
                  | 2 =>
                    exact hS.post 2 hj
                  | 3 =>
                    exact hS.post 3 hj
                  | 4 =>
                    exact hS.post 4 hj
                  | 5 =>
                    exact hS.post 5 hj
                  | 6 =>
                    obtain ⟨s1, s2, e1, e2⟩ := hS.post 6 hj
                    exact ⟨s1, s2, e1, Row.grown e2 hgY (Row.ne_type e2 hk3 rfl)⟩
                  | 7 =>
                    obtain ⟨s1, s2, e1, e2⟩ := hS.post 7 hj
                    exact ⟨s1, s2, e1, Row.grown e2 hgY (Row.ne_type e2 hk3 rfl)⟩
                  | 8 =>
                    obtain ⟨s1, s2, e1, e2⟩ := hS.post 8 hj
                    exact ⟨s1, s2, e1, Row.grown e2 hgY (Row.ne_type e2 hk3 rfl)⟩
                  | 9 =>
                    exact hS.post 9 hj
                  | 10 =>
                    exact ⟨b2, h10, hle2, fun hn => absurd (.inl rfl) hn, fun _ => ⟨_, hY, Row.grown hrs hgY (Row.ne_type hrs hk3 rfl)⟩⟩
                  | 11 =>
                    trivial
                  | _ + 12 => trivial
                trivial
              · skip
                clear hf fa; intro V S w8 fa hall he6 hp hnb hf
                have hv0 := postsHold_at hp 0 rfl
                replace hv0 : V 0 = (.pointer (some ⟨pm, 0, none⟩)) := hv0
                have hv1 := postsHold_at hp 1 rfl
                replace hv1 : V 1 = (.agg #[(.int .i64 ((ln : Nat) : Int)), (.int .i64 mo), (.slice ra C.length rc)]) := hv1
                have hv2 := postsHold_at hp 2 rfl
                replace hv2 : V 2 = (.slice a l.length c) := hv2
                have hv3 := postsHold_at hp 3 rfl
                replace hv3 : V 3 = (.int .i64 ((k : Nat) : Int)) := hv3
                have hv4 := postsHold_at hp 4 rfl
                replace hv4 : V 4 = (.pointer (some ⟨ab1, (aoff1 + k * 7), none⟩)) := hv4
                have hv5 := postsHold_at hp 5 rfl
                replace hv5 : V 5 = (.agg #[(.int .i64 y.1), (.int .u64 y.2.1), (.int .i64 y.2.2.1), (.int .u8 y.2.2.2.1), (.int .u64 y.2.2.2.2.1), (.int .u64 y.2.2.2.2.2.1), (.slice y.2.2.2.2.2.2.1.at' y.2.2.2.2.2.2.1.len y.2.2.2.2.2.2.1.cap)]) := hv5
                have hv6 := postsHold_at hp 6 rfl
                obtain ⟨sxa, sxc, hv6, hrs⟩ := hv6
                clear hrs
                have hv7 := postsHold_at hp 7 rfl
                obtain ⟨sxa, sxc, hv7, hrs⟩ := hv7
                clear hrs
                have hv8 := postsHold_at hp 8 rfl
                obtain ⟨sxa, sxc, hv8, hrs⟩ := hv8
                clear hrs
                have hv9 := postsHold_at hp 9 rfl
                replace hv9 : V 9 = (.bool true) := hv9
                have hv10 := postsHold_at hp 10 rfl
                obtain ⟨b2, hv10, hle2, hk3z, hk3⟩ := hv10
                have hBb2 : w.heap.size ≤ b2 := Nat.le_trans hb.size hle2
                replace hk3 := hk3 (hall 11 (show 11 < 12 by decide))
                clear hk3z
                obtain ⟨s2, hk3, hrs2⟩ := hk3
                simp only [List.take_succ_cons, List.take_zero, insAll, ins, hv0, hv1, hv2, hv3, hv4, hv5, hv6, hv7, hv8, hv9, hv10] at hf
                have : b1 < b2 := Nat.lt_of_lt_of_le (blk_lt hkb1) hle2
                replace he6 := he6.2 (hall 6 (show 6 < 12 by decide))
                clear hp hnb hall hv0 hv1 hv2 hv3 hv4 hv5 hv6 hv7 hv8 hv9 hv10
                skip
                obtain ⟨hS2, hb2, hK2, hZ2⟩ := he6
                clear hSt
                obtain ⟨lf, hlf⟩ : ∃ n, ((doN y.1 y.2.2.1 y.2.1.toNat ln mo C y.2.2.2.2.2.2.1.list)).1 = n := ⟨_, rfl⟩
                obtain ⟨Cf, hCf⟩ : ∃ n, ((doN y.1 y.2.2.1 y.2.1.toNat ln mo C y.2.2.2.2.2.2.1.list)).2 = n := ⟨_, rfl⟩
                have hfl := doN_len y.1 y.2.2.1 y.2.1.toNat ln mo C hyo.2.2.2.2.2.2
                rw [Sl.list_length, hCf] at hfl
                rw [hlf, hCf] at hS2
                rw [hCf] at hrs2
                rw [hlf] at hk3
                have hSt : St26 w.heap.size w8 pm lf mo Cf := hS2
                replace hb := hb2
                obtain ⟨sa, sc, rfl, _, _⟩ := Row.slice hrs2
                replace hkb1 := hK2 _ _ hkb1
                simp only [List.drop_succ_cons, List.drop_zero]
                refine sqv hf (r_assign rfl) rfl rfl rfl ?_; clear hf fa; intro fa hf
                apply wpList_nil
                (try simp only [Exit.then, Exit.inBlock, ↓reduceIte, Nat.reduceEqDiff])
                refine hK24 _ _ ?_
                refine wp_seq_k (fun K25 hK25 => ?_)
                refine wp_region_lit ?_
                refine sqv hf (r_loadA (cs := [(.int .i64 ((lf : Nat) : Int)), (.int .i64 mo), (.slice sa Cf.length sc)]) rfl Try.underlying111 rfl (by kernel_rfl) (cellsAt_blk hk3)) rfl rfl rfl ?_; clear hf fa; intro fa hf
                refine sqn hf (d_storeK (T := 111) (v := (.agg #[(.int .i64 ((lf : Nat) : Int)), (.int .i64 mo), (.slice sa Cf.length sc)])) (cs := #[(.int .i64 ((ln : Nat) : Int)), (.int .i64 mo), (.slice ra C.length rc)]) (cs' := #[(.int .i64 ((lf : Nat) : Int)), (.int .i64 mo), (.slice sa Cf.length sc)]) rfl rfl (by kernel_rfl) (by kernel_rfl) hkb1 (by kernel_rfl) (by kernel_rfl)) rfl rfl ?_; clear hf fa; rintro fa _ w9 ⟨hk4, hg2⟩ hf
                replace hk3 := blk_grown hk3 hg2 (by omega)
                replace hrs2 := Row.grown hrs2 hg2 (Row.ne_type hrs2 hkb1 rfl)
                replace hb := hb.trans (grown_below hg2 hb.size hBb1)
                replace hSt := hSt.grown hg2 hkb1 rfl rfl
                apply wpList_nil
                (try simp only [Exit.then, Exit.inBlock, ↓reduceIte, Nat.reduceEqDiff])
                refine hK25 _ _ ?_
                refine wp_seq_k (fun K26 hK26 => ?_)
                have hlf16 := hSt.nums.1
                refine wp_region_un (fun wq => Below w9.heap.size w9 wq) (fun w w' => Below w.heap.size w w')
                  (fun V => [(fun x _ => x = (.bool true)), (fun x _ => x = (.bool false)), (fun x _ => x = (.bool false)), (fun x _ => x = (.pointer (some ⟨pm, 0, none⟩))), (fun x _ => x = (.int .i64 ((lf : Nat) : Int))), (fun x _ => x = (.pointer (some ⟨b1, 0, none⟩))), (fun x _ => x = (.int .i64 ((lf : Nat) : Int))), (fun x _ => x = (.bool false)), (fun x _ => x = (.bool false)), (fun x _ => x = (.bool false)), (fun x _ => x = (.pointer (some ⟨pm, 0, none⟩))), (fun x _ => x = (.int .i64 (((lf / 65536) : Nat) : Int))), (fun x _ => x = (.pointer (some ⟨b1, 0, none⟩))), (fun x _ => x = (.int .i64 ((lf : Nat) : Int))), (fun x _ => x = (.int .i64 (((lf / 65536) : Nat) : Int))), (fun x _ => x = (.bool false)), (fun x _ => x = (.bool false))])
                  []
                  [[], [0], [1], [2], [2, 3], [2], [2, 5], [2, 4, 6], [2, 7], [4, 8], [9], [9, 10], [9], [9, 12], [9, 13], [9, 11, 14], [9, 15]]
                  hf (by kernel_rfl) (by kernel_rfl) (fun _ => rfl) ((Below.refl _ _).drew) (fun a b h1 h2 => h1.trans (h2.mono h1.size)) (fun _ _ h => h.size) (fun V => ⟨kept_eq, kept_eq, kept_eq, kept_eq, kept_eq, kept_eq, kept_eq, kept_eq, kept_eq, kept_eq, kept_eq, kept_eq, kept_eq, kept_eq, kept_eq, kept_eq, kept_eq, trivial⟩) (fun _ _ _ _ _ => rfl) ?_ ?_
                · skip
                  intro V
                  refine ⟨fun wu0 hC hd => ?_, ?_⟩
                  · clear hd
                    replace hb := hb.trans (hC.mono hb.size)
                    replace hk4 := blk_ext hk4 hC
                    replace hk3 := blk_ext hk3 hC
                    replace hrs2 := Row.ext hrs2 hC
                    exact Runs.does (r_move rfl) ⟨Below.refl _ _, rfl, nofr rfl⟩
                  refine ⟨fun wu1 hC hd => ?_, ?_⟩
                  · obtain ⟨h0, _⟩ := hd
                    skip
                    replace h0 : V 0 = (.bool true) := h0
                    replace hb := hb.trans (hC.mono hb.size)
                    replace hk4 := blk_ext hk4 hC
                    replace hk3 := blk_ext hk3 hC
                    replace hrs2 := Row.ext hrs2 hC
                    exact Runs.does (Runs.veq (v' := (.bool false)) (r_not (congrArg some h0)) rfl) ⟨Below.refl _ _, rfl, nofr rfl⟩
                  refine ⟨fun wu2 hC hd => ?_, ?_⟩
                  · obtain ⟨h1, _⟩ := hd
                    skip
                    replace h1 : V 1 = (.bool false) := h1
                    replace hb := hb.trans (hC.mono hb.size)
                    replace hk4 := blk_ext hk4 hC
                    replace hk3 := blk_ext hk3 hC
                    replace hrs2 := Row.ext hrs2 hC
                    exact Runs.does (r_move (congrArg some h1)) ⟨Below.refl _ _, rfl, nofr rfl⟩
                  refine ⟨fun wu3 hC hd => ?_, ?_⟩
                  · obtain ⟨h2, _⟩ := hd
                    skip
                    replace h2 : V 2 = (.bool false) := h2
                    replace hb := hb.trans (hC.mono hb.size)
                    replace hk4 := blk_ext hk4 hC
                    replace hk3 := blk_ext hk3 hC
                    replace hrs2 := Row.ext hrs2 hC
                    refine ⟨true, false, congrArg some h2, fun hact => ?_, fun hact => ?_⟩
                    · exact Runs.does (r_move rfl) ⟨Below.refl _ _, rfl, nofr rfl⟩
                    · exfalso; simp at hact
                  refine ⟨fun wu4 hC hd => ?_, ?_⟩
                  · obtain ⟨h2, h3, _⟩ := hd
                    skip
                    skip
                    replace h2 : V 2 = (.bool false) := h2
                    replace h3 : V 3 = (.pointer (some ⟨pm, 0, none⟩)) := h3
                    replace hb := hb.trans (hC.mono hb.size)
                    replace hk4 := blk_ext hk4 hC
                    replace hk3 := blk_ext hk3 hC
                    replace hrs2 := Row.ext hrs2 hC
                    refine ⟨true, false, congrArg some h2, fun hact => ?_, fun hact => ?_⟩
                    · refine Does.mono (d_callB (vs := [(.pointer (some ⟨pm, 0, none⟩))]) (show [some (V 3)] = [some (.pointer (some ⟨pm, 0, none⟩))] from by rw [h3]) Try.func61 (by kernel_rfl) (by kernel_rfl) (mlen_S (hSt.ext hC))) (fun _ _ h => ⟨h.2, h.1, nofr rfl⟩)
                    · exfalso; simp at hact
                  refine ⟨fun wu5 hC hd => ?_, ?_⟩
                  · obtain ⟨h2, _⟩ := hd
                    skip
                    replace h2 : V 2 = (.bool false) := h2
                    replace hb := hb.trans (hC.mono hb.size)
                    replace hk4 := blk_ext hk4 hC
                    replace hk3 := blk_ext hk3 hC
                    replace hrs2 := Row.ext hrs2 hC
                    refine ⟨true, false, congrArg some h2, fun hact => ?_, fun hact => ?_⟩
                    · exact Runs.does (r_fa rfl Try.underlying111 (f := 0) (q := 0) rfl (by kernel_rfl) rfl) ⟨Below.refl _ _, rfl, nofr rfl⟩
                    · exfalso; simp at hact
                  refine ⟨fun wu6 hC hd => ?_, ?_⟩
                  · obtain ⟨h2, h5, _⟩ := hd
                    skip
                    skip
                    replace h2 : V 2 = (.bool false) := h2
                    replace h5 : V 5 = (.pointer (some ⟨b1, 0, none⟩)) := h5
                    replace hb := hb.trans (hC.mono hb.size)
                    replace hk4 := blk_ext hk4 hC
                    replace hk3 := blk_ext hk3 hC
                    replace hrs2 := Row.ext hrs2 hC
                    refine ⟨true, false, congrArg some h2, fun hact => ?_, fun hact => ?_⟩
                    · exact Runs.does (r_load (v := (.int .i64 ((lf : Nat) : Int))) (congrArg some h5) Try.underlying3 rfl (cell_blk hk4 rfl)) ⟨Below.refl _ _, rfl, nofr rfl⟩
                    · exfalso; simp at hact
                  refine ⟨fun wu7 hC hd => ?_, ?_⟩
                  · obtain ⟨h2, h4, h6, _⟩ := hd
                    skip
                    skip
                    skip
                    replace h2 : V 2 = (.bool false) := h2
                    replace h4 : V 4 = (.int .i64 ((lf : Nat) : Int)) := h4
                    replace h6 : V 6 = (.int .i64 ((lf : Nat) : Int)) := h6
                    replace hb := hb.trans (hC.mono hb.size)
                    replace hk4 := blk_ext hk4 hC
                    replace hk3 := blk_ext hk3 hC
                    replace hrs2 := Row.ext hrs2 hC
                    refine ⟨true, false, congrArg some h2, fun hact => ?_, fun hact => ?_⟩
                    · exact Runs.does (Runs.veq (r_ne (congrArg some h4) (congrArg some h6)) (congrArg Value.bool (show _ = false from (by simp)))) ⟨Below.refl _ _, rfl, nofr rfl⟩
                    · exfalso; simp at hact
                  refine ⟨fun wu8 hC hd => ?_, ?_⟩
                  · obtain ⟨h2, h7, _⟩ := hd
                    skip
                    skip
                    replace h2 : V 2 = (.bool false) := h2
                    replace h7 : V 7 = (.bool false) := h7
                    replace hb := hb.trans (hC.mono hb.size)
                    replace hk4 := blk_ext hk4 hC
                    replace hk3 := blk_ext hk3 hC
                    replace hrs2 := Row.ext hrs2 hC
                    exact Runs.does (r_pick (b := false) (congrArg some h2) rfl (congrArg some h7) rfl) ⟨Below.refl _ _, rfl, nofr rfl⟩
                  refine ⟨fun wu9 hC hd => ?_, ?_⟩
                  · obtain ⟨h4, h8, _⟩ := hd
                    skip
                    skip
                    replace h4 : V 4 = (.int .i64 ((lf : Nat) : Int)) := h4
                    replace h8 : V 8 = (.bool false) := h8
                    replace hb := hb.trans (hC.mono hb.size)
                    replace hk4 := blk_ext hk4 hC
                    replace hk3 := blk_ext hk3 hC
                    replace hrs2 := Row.ext hrs2 hC
                    exact Runs.does (r_move (congrArg some h8)) ⟨Below.refl _ _, rfl, nofr rfl⟩
                  refine ⟨fun wu10 hC hd => ?_, ?_⟩
                  · obtain ⟨h9, _⟩ := hd
                    skip
                    replace h9 : V 9 = (.bool false) := h9
                    replace hb := hb.trans (hC.mono hb.size)
                    replace hk4 := blk_ext hk4 hC
                    replace hk3 := blk_ext hk3 hC
                    replace hrs2 := Row.ext hrs2 hC
                    refine ⟨true, false, congrArg some h9, fun hact => ?_, fun hact => ?_⟩
                    · exact Runs.does (r_move rfl) ⟨Below.refl _ _, rfl, nofr rfl⟩
                    · exfalso; simp at hact
                  refine ⟨fun wu11 hC hd => ?_, ?_⟩
                  · obtain ⟨h9, h10, _⟩ := hd
                    skip
                    skip
                    replace h9 : V 9 = (.bool false) := h9
                    replace h10 : V 10 = (.pointer (some ⟨pm, 0, none⟩)) := h10
                    replace hb := hb.trans (hC.mono hb.size)
                    replace hk4 := blk_ext hk4 hC
                    replace hk3 := blk_ext hk3 hC
                    replace hrs2 := Row.ext hrs2 hC
                    refine ⟨true, false, congrArg some h9, fun hact => ?_, fun hact => ?_⟩
                    · refine Does.mono (d_callB (vs := [(.pointer (some ⟨pm, 0, none⟩))]) (show [some (V 10)] = [some (.pointer (some ⟨pm, 0, none⟩))] from by rw [h10]) Try.func58 (by kernel_rfl) (by kernel_rfl) (pages_S (hSt.ext hC))) (fun _ _ h => ⟨h.2, h.1, nofr rfl⟩)
                    · exfalso; simp at hact
                  refine ⟨fun wu12 hC hd => ?_, ?_⟩
                  · obtain ⟨h9, _⟩ := hd
                    skip
                    replace h9 : V 9 = (.bool false) := h9
                    replace hb := hb.trans (hC.mono hb.size)
                    replace hk4 := blk_ext hk4 hC
                    replace hk3 := blk_ext hk3 hC
                    replace hrs2 := Row.ext hrs2 hC
                    refine ⟨true, false, congrArg some h9, fun hact => ?_, fun hact => ?_⟩
                    · exact Runs.does (r_fa rfl Try.underlying111 (f := 0) (q := 0) rfl (by kernel_rfl) rfl) ⟨Below.refl _ _, rfl, nofr rfl⟩
                    · exfalso; simp at hact
                  refine ⟨fun wu13 hC hd => ?_, ?_⟩
                  · obtain ⟨h9, h12, _⟩ := hd
                    skip
                    skip
                    replace h9 : V 9 = (.bool false) := h9
                    replace h12 : V 12 = (.pointer (some ⟨b1, 0, none⟩)) := h12
                    replace hb := hb.trans (hC.mono hb.size)
                    replace hk4 := blk_ext hk4 hC
                    replace hk3 := blk_ext hk3 hC
                    replace hrs2 := Row.ext hrs2 hC
                    refine ⟨true, false, congrArg some h9, fun hact => ?_, fun hact => ?_⟩
                    · exact Runs.does (r_load (v := (.int .i64 ((lf : Nat) : Int))) (congrArg some h12) Try.underlying3 rfl (cell_blk hk4 rfl)) ⟨Below.refl _ _, rfl, nofr rfl⟩
                    · exfalso; simp at hact
                  refine ⟨fun wu14 hC hd => ?_, ?_⟩
                  · obtain ⟨h9, h13, _⟩ := hd
                    skip
                    skip
                    replace h9 : V 9 = (.bool false) := h9
                    replace h13 : V 13 = (.int .i64 ((lf : Nat) : Int)) := h13
                    replace hb := hb.trans (hC.mono hb.size)
                    replace hk4 := blk_ext hk4 hC
                    replace hk3 := blk_ext hk3 hC
                    replace hrs2 := Row.ext hrs2 hC
                    refine ⟨true, false, congrArg some h9, fun hact => ?_, fun hact => ?_⟩
                    · exact Runs.does (r_quo (C := (((lf / 65536) : Nat) : Int)) (congrArg some h13) rfl (by omega) (by rw [Int.tdiv_eq_ediv_of_nonneg (by omega), IntKind.wrap_i64]; omega)) ⟨Below.refl _ _, rfl, nofr rfl⟩
                    · exfalso; simp at hact
                  refine ⟨fun wu15 hC hd => ?_, ?_⟩
                  · obtain ⟨h9, h11, h14, _⟩ := hd
                    skip
                    skip
                    skip
                    replace h9 : V 9 = (.bool false) := h9
                    replace h11 : V 11 = (.int .i64 (((lf / 65536) : Nat) : Int)) := h11
                    replace h14 : V 14 = (.int .i64 (((lf / 65536) : Nat) : Int)) := h14
                    replace hb := hb.trans (hC.mono hb.size)
                    replace hk4 := blk_ext hk4 hC
                    replace hk3 := blk_ext hk3 hC
                    replace hrs2 := Row.ext hrs2 hC
                    refine ⟨true, false, congrArg some h9, fun hact => ?_, fun hact => ?_⟩
                    · exact Runs.does (Runs.veq (r_ne (congrArg some h11) (congrArg some h14)) (congrArg Value.bool (show _ = false from (by simp)))) ⟨Below.refl _ _, rfl, nofr rfl⟩
                    · exfalso; simp at hact
                  refine ⟨fun wu16 hC hd => ?_, ?_⟩
                  · obtain ⟨h9, h15, _⟩ := hd
                    skip
                    skip
                    replace h9 : V 9 = (.bool false) := h9
                    replace h15 : V 15 = (.bool false) := h15
                    replace hb := hb.trans (hC.mono hb.size)
                    replace hk4 := blk_ext hk4 hC
                    replace hk3 := blk_ext hk3 hC
                    replace hrs2 := Row.ext hrs2 hC
                    exact Runs.does (r_pick (b := false) (congrArg some h9) rfl (congrArg some h15) rfl) ⟨Below.refl _ _, rfl, nofr rfl⟩
                  trivial
                · skip
                  clear hf fa; intro V w10 fa he7 hp hnb hf
                  have hv0 : V 0 = (.bool true) := postsHold_at hp 0 rfl
                  have hv1 : V 1 = (.bool false) := postsHold_at hp 1 rfl
                  have hv2 : V 2 = (.bool false) := postsHold_at hp 2 rfl
                  have hv3 : V 3 = (.pointer (some ⟨pm, 0, none⟩)) := postsHold_at hp 3 rfl
                  have hv4 : V 4 = (.int .i64 ((lf : Nat) : Int)) := postsHold_at hp 4 rfl
                  have hv5 : V 5 = (.pointer (some ⟨b1, 0, none⟩)) := postsHold_at hp 5 rfl
                  have hv6 : V 6 = (.int .i64 ((lf : Nat) : Int)) := postsHold_at hp 6 rfl
                  have hv7 : V 7 = (.bool false) := postsHold_at hp 7 rfl
                  have hv8 : V 8 = (.bool false) := postsHold_at hp 8 rfl
                  have hv9 : V 9 = (.bool false) := postsHold_at hp 9 rfl
                  have hv10 : V 10 = (.pointer (some ⟨pm, 0, none⟩)) := postsHold_at hp 10 rfl
                  have hv11 : V 11 = (.int .i64 (((lf / 65536) : Nat) : Int)) := postsHold_at hp 11 rfl
                  have hv12 : V 12 = (.pointer (some ⟨b1, 0, none⟩)) := postsHold_at hp 12 rfl
                  have hv13 : V 13 = (.int .i64 ((lf : Nat) : Int)) := postsHold_at hp 13 rfl
                  have hv14 : V 14 = (.int .i64 (((lf / 65536) : Nat) : Int)) := postsHold_at hp 14 rfl
                  have hv15 : V 15 = (.bool false) := postsHold_at hp 15 rfl
                  have hv16 : V 16 = (.bool false) := postsHold_at hp 16 rfl
                  simp only [List.take_succ_cons, List.take_zero, insAll, ins, hv0, hv1, hv2, hv3, hv4, hv5, hv6, hv7, hv8, hv9, hv10, hv11, hv12, hv13, hv14, hv15, hv16] at hf
                  clear hp hnb hv0 hv1 hv2 hv3 hv4 hv5 hv6 hv7 hv8 hv9 hv10 hv11 hv12 hv13 hv14 hv15 hv16
                  replace hk4 := blk_ext hk4 he7
                  replace hk3 := blk_ext hk3 he7
                  replace hrs2 := Row.ext hrs2 he7
                  replace hb := hb.trans (Below.mono he7 hb.size)
                  replace hSt := hSt.ext he7
                  (try simp only [Exit.then, Exit.inBlock, ↓reduceIte, Nat.reduceEqDiff])
                  refine hK26 _ _ ?_
                  refine wp_cond_false (hf.ev rfl) ?_
                  refine wp_skip ?_
                  (try simp only [Exit.then, Exit.inBlock, ↓reduceIte, Nat.reduceEqDiff])
                  refine hK20 _ _ ?_
                  refine wp_region_lit ?_
                  refine sqv hf (r_move rfl) rfl rfl rfl ?_; clear hf fa; intro fa hf
                  refine sqv hf (r_add (C := (((k : Nat) : Int) + (1 : Int))) rfl rfl (by rw [IntKind.wrap_i64]; omega)) rfl rfl rfl ?_; clear hf fa; intro fa hf
                  refine sqv hf (r_assign rfl) rfl rfl rfl ?_; clear hf fa; intro fa hf
                  apply wpList_nil
                  (try simp only [Exit.then, Exit.inBlock, ↓reduceIte, Nat.reduceEqDiff])
                  refine hKL1 _ _ _ (by omega) ⟨(k + 1), lf, Cf, sa, sc, rfl, hf.sub ⟨rfl, rfl, rfl, (some_int (by first | rfl | omega)), trivial⟩, hb, (Row.relen hrs2), hk4, by omega, by omega, hSt⟩
          · have hqt74_1b := hqt74_1
            replace hqt74_1 := Bool.eq_false_iff.1 hqt74_1
            try simp only [ne_eq, decide_eq_true_eq, Bool.and_eq_true, Bool.or_eq_true, Bool.not_eq_true', decide_eq_false_iff_not] at hqt74_1
            refine wp_exit ?_
            (try simp only [Exit.then, Exit.inBlock, ↓reduceIte, Nat.reduceEqDiff])
            refine hK16 _ _ ?_
            refine wp_seq_k (fun K27 hK27 => ?_)
            refine wp_region_un (fun wq => Below w7.heap.size w7 wq) (fun w w' => Below w.heap.size w w')
              (fun V => [(fun x _ => x = (.pointer (some ⟨pm, 0, none⟩))), (fun x _ => x = (.int .u64 ((sumG C C.length)))), (fun x _ => x = (.agg #[(.int .i64 ((ln : Nat) : Int)), (.int .i64 mo), (.slice ra C.length rc)])), (fun x _ => x = (.int .u64 ((sumG C C.length)))), (fun x _ => x = (.bool true)), (fun x _ => x = (.bool true))])
              []
              [[], [0], [], [1, 2], [1, 3], [0, 1, 2, 3, 4]]
              hf (by kernel_rfl) (by kernel_rfl) (fun _ => rfl) ((Below.refl _ _).drew) (fun a b h1 h2 => h1.trans (h2.mono h1.size)) (fun _ _ h => h.size) (fun V => ⟨kept_eq, kept_eq, kept_eq, kept_eq, kept_eq, kept_eq, trivial⟩) (fun _ _ _ _ _ => rfl) ?_ ?_
            · skip
              intro V
              refine ⟨fun wu0 hC hd => ?_, ?_⟩
              · clear hd
                replace hb := hb.trans (hC.mono hb.size)
                replace hkb1 := blk_ext hkb1 hC
                replace hrr := Row.ext hrr hC
                exact Runs.does (r_move rfl) ⟨Below.refl _ _, rfl, nofr rfl⟩
              refine ⟨fun wu1 hC hd => ?_, ?_⟩
              · obtain ⟨h0, _⟩ := hd
                skip
                replace h0 : V 0 = (.pointer (some ⟨pm, 0, none⟩)) := h0
                replace hb := hb.trans (hC.mono hb.size)
                replace hkb1 := blk_ext hkb1 hC
                replace hrr := Row.ext hrr hC
                refine Does.mono (d_callB (vs := [(.pointer (some ⟨pm, 0, none⟩))]) (show [some (V 0)] = [some (.pointer (some ⟨pm, 0, none⟩))] from by rw [h0]) Try.func62 (by kernel_rfl) (by kernel_rfl) (sum_S (hSt.ext hC))) (fun _ _ h => ⟨h.2, h.1, nofr rfl⟩)
              refine ⟨fun wu2 hC hd => ?_, ?_⟩
              · clear hd
                replace hb := hb.trans (hC.mono hb.size)
                replace hkb1 := blk_ext hkb1 hC
                replace hrr := Row.ext hrr hC
                exact Runs.does (r_loadA (cs := [(.int .i64 ((ln : Nat) : Int)), (.int .i64 mo), (.slice ra C.length rc)]) rfl Try.underlying111 rfl (by kernel_rfl) (cellsAt_blk hkb1)) ⟨Below.refl _ _, rfl, nofr rfl⟩
              refine ⟨fun wu3 hC hd => ?_, ?_⟩
              · obtain ⟨h1, h2, _⟩ := hd
                skip
                skip
                replace h1 : V 1 = (.int .u64 ((sumG C C.length))) := h1
                replace h2 : V 2 = (.agg #[(.int .i64 ((ln : Nat) : Int)), (.int .i64 mo), (.slice ra C.length rc)]) := h2
                replace hb := hb.trans (hC.mono hb.size)
                replace hkb1 := blk_ext hkb1 hC
                replace hrr := Row.ext hrr hC
                refine Does.mono (d_callB (vs := [(.agg #[(.int .i64 ((ln : Nat) : Int)), (.int .i64 mo), (.slice ra C.length rc)])]) (show [some (V 2)] = [some (.agg #[(.int .i64 ((ln : Nat) : Int)), (.int .i64 mo), (.slice ra C.length rc)])] from by rw [h2]) Try.func63 (by kernel_rfl) (by kernel_rfl) (rsum26 ln mo ra C rc _ (Row.rd (by intros; rfl) hrr) (by omega) (by omega) (fun c hc => ⟨by have := (hCr c hc).1; omega, (hCr c hc).2⟩))) (fun _ _ h => ⟨h.2, h.1, nofr rfl⟩)
              refine ⟨fun wu4 hC hd => ?_, ?_⟩
              · obtain ⟨h1, h3, _⟩ := hd
                skip
                skip
                replace h1 : V 1 = (.int .u64 ((sumG C C.length))) := h1
                replace h3 : V 3 = (.int .u64 ((sumG C C.length))) := h3
                replace hb := hb.trans (hC.mono hb.size)
                replace hkb1 := blk_ext hkb1 hC
                replace hrr := Row.ext hrr hC
                exact Runs.does (Runs.veq (r_eq (congrArg some h1) (congrArg some h3)) (congrArg Value.bool (show _ = true from (by simp)))) ⟨Below.refl _ _, rfl, nofr rfl⟩
              refine ⟨fun wu5 hC hd => ?_, ?_⟩
              · obtain ⟨h0, h1, h2, h3, h4, _⟩ := hd
                skip
                skip
                skip
                skip
                skip
                replace h0 : V 0 = (.pointer (some ⟨pm, 0, none⟩)) := h0
                replace h1 : V 1 = (.int .u64 ((sumG C C.length))) := h1
                replace h2 : V 2 = (.agg #[(.int .i64 ((ln : Nat) : Int)), (.int .i64 mo), (.slice ra C.length rc)]) := h2
                replace h3 : V 3 = (.int .u64 ((sumG C C.length))) := h3
                replace h4 : V 4 = (.bool true) := h4
                replace hb := hb.trans (hC.mono hb.size)
                replace hkb1 := blk_ext hkb1 hC
                replace hrr := Row.ext hrr hC
                exact Runs.does (r_assign (congrArg some h4)) ⟨Below.refl _ _, rfl, nofr rfl⟩
              trivial
            · skip
              clear hf fa; intro V w11 fa he8 hp hnb hf
              have hv0 : V 0 = (.pointer (some ⟨pm, 0, none⟩)) := postsHold_at hp 0 rfl
              have hv1 : V 1 = (.int .u64 ((sumG C C.length))) := postsHold_at hp 1 rfl
              have hv2 : V 2 = (.agg #[(.int .i64 ((ln : Nat) : Int)), (.int .i64 mo), (.slice ra C.length rc)]) := postsHold_at hp 2 rfl
              have hv3 : V 3 = (.int .u64 ((sumG C C.length))) := postsHold_at hp 3 rfl
              have hv4 : V 4 = (.bool true) := postsHold_at hp 4 rfl
              have hv5 : V 5 = (.bool true) := postsHold_at hp 5 rfl
              simp only [List.take_succ_cons, List.take_zero, insAll, ins, hv0, hv1, hv2, hv3, hv4, hv5] at hf
              clear hp hnb hv0 hv1 hv2 hv3 hv4 hv5
              replace hkb1 := blk_ext hkb1 he8
              replace hrr := Row.ext hrr he8
              replace hb := hb.trans (Below.mono he8 hb.size)
              replace hSt := hSt.ext he8
              (try simp only [Exit.then, Exit.inBlock, ↓reduceIte, Nat.reduceEqDiff])
              refine hK27 _ _ ?_
              refine wp_ret ?_
              (try simp only [Exit.then, Exit.inBlock])
              refine ret1 hf rfl rfl ?_
              exact ⟨rfl, hb⟩
    · have hsp1b : decide (0 ≤ pg ∧ pg ≤ mo ∧ mo ≤ 256) = false := decide_eq_false hsp1
      refine wp_region_lit ?_
      refine sqv hf (r_move rfl) rfl rfl rfl ?_; clear hf fa; intro fa hf
      refine sqv hf (r_move rfl) rfl rfl rfl ?_; clear hf fa; intro fa hf
      refine sqdt hf (d_callB (vs := [(.int .i64 pg), (.int .i64 mo)]) rfl Try.func57 (by kernel_rfl) (by kernel_rfl) (mnewF pg mo _ (by omega))) rfl rfl rfl ?_; clear hf fa; rintro fa _ w12 ⟨rfl, he9⟩ hf
      replace hb := hb.trans (Below.mono he9 hb.size)
      refine sqv hf (r_move rfl) rfl rfl rfl ?_; clear hf fa; intro fa hf
      refine sqv hf (r_extract rfl (i := 0) rfl) rfl rfl rfl ?_; clear hf fa; intro fa hf
      refine sqv hf (r_extract rfl (i := 1) rfl) rfl rfl rfl ?_; clear hf fa; intro fa hf
      refine sqv hf (r_assign rfl) rfl rfl rfl ?_; clear hf fa; intro fa hf
      refine sqv hf (r_assign rfl) rfl rfl rfl ?_; clear hf fa; intro fa hf
      apply wpList_nil
      (try simp only [Exit.then, Exit.inBlock, ↓reduceIte, Nat.reduceEqDiff])
      refine hK7 _ _ ?_
      refine wp_seq_k (fun K28 hK28 => ?_)
      refine wp_seq_k (fun K29 hK29 => ?_)
      refine wp_region_lit ?_
      refine sqv hf (r_move rfl) rfl rfl rfl ?_; clear hf fa; intro fa hf
      refine sqv hf (r_lt rfl rfl) rfl rfl rfl ?_; clear hf fa; intro fa hf
      refine sqv hf (r_move rfl) rfl rfl rfl ?_; clear hf fa; intro fa hf
      refine sqgF (act := (!(decide (pg < (0 : Int))))) (ag := true) (c := (decide (pg < (0 : Int)))) (v := (.int .i64 mo)) hf rfl rfl rfl (fun hact => (r_move rfl)) rfl rfl ?_; clear hf fa; intro fa hf
      refine sqgF (act := (!(decide (pg < (0 : Int))))) (ag := true) (c := (decide (pg < (0 : Int)))) (v := (.int .i64 pg)) hf rfl rfl rfl (fun hact => (r_move rfl)) rfl rfl ?_; clear hf fa; intro fa hf
      refine sqgF (act := (!(decide (pg < (0 : Int))))) (ag := true) (c := (decide (pg < (0 : Int)))) (v := (.bool (decide (mo < pg)))) hf rfl rfl rfl (fun hact => (r_lt (gb_ev hact rfl) (gb_ev hact rfl))) rfl rfl ?_; clear hf fa; intro fa hf
      refine sqv hf (r_pickO (b := (decide (pg < (0 : Int)))) (e := (decide (mo < pg))) rfl rfl rfl) rfl rfl rfl ?_; clear hf fa; intro fa hf
      refine sqv hf (r_move rfl) rfl rfl rfl ?_; clear hf fa; intro fa hf
      refine sqgF (act := (!((decide (pg < (0 : Int))) || (decide (mo < pg))))) (ag := true) (c := ((decide (pg < (0 : Int))) || (decide (mo < pg)))) (v := (.int .i64 mo)) hf rfl rfl rfl (fun hact => (r_move rfl)) rfl rfl ?_; clear hf fa; intro fa hf
      refine sqgF (act := (!((decide (pg < (0 : Int))) || (decide (mo < pg))))) (ag := true) (c := ((decide (pg < (0 : Int))) || (decide (mo < pg)))) (v := (.bool (decide ((256 : Int) < mo)))) hf rfl rfl rfl (fun hact => (r_gt (gb_ev hact rfl) rfl)) rfl rfl ?_; clear hf fa; intro fa hf
      refine sqv hf (Runs.veq (r_pickO (b := ((decide (pg < (0 : Int))) || (decide (mo < pg)))) (e := (decide ((256 : Int) < mo))) rfl rfl rfl) (congrArg Value.bool (show _ = true from (by have h := hsp1; simp; omega)))) rfl rfl rfl ?_; clear hf fa; intro fa hf
      apply wpList_nil
      (try simp only [Exit.then, Exit.inBlock, ↓reduceIte, Nat.reduceEqDiff])
      refine hK29 _ _ ?_
      refine wp_cond_true (hf.ev rfl) ?_
      refine wp_seq_k (fun K30 hK30 => ?_)
      refine wp_region_lit ?_
      refine sqv hf (r_move rfl) rfl rfl rfl ?_; clear hf fa; intro fa hf
      refine sqv hf (Runs.veq (r_pnil rfl rfl Try.underlying106) (congrArg Value.bool (show _ = true from rfl))) rfl rfl rfl ?_; clear hf fa; intro fa hf
      refine sqv hf (r_move rfl) rfl rfl rfl ?_; clear hf fa; intro fa hf
      refine sqgd (act := true) (g := 2) (want := true) (ag := true) (c := true) hf (by rfl) (by rfl) rfl (fun _ =>  Runs.does (R := fun vq wq => vq = (.int .i64 (26 : Int)) ∧ w12 = wq) (r_move rfl) ⟨rfl, rfl⟩) (fun h => by cases h) rfl ?_; clear hf fa; rintro fa _ _ ⟨rfl, rfl⟩ hf
      change Fr _ _ ((38, (.int .i64 (26 : Int))) :: _) at hf
      refine sqgd (act := true) (g := 2) (want := true) (ag := true) (c := true) hf (by rfl) (by rfl) rfl (fun _ =>  Runs.does (R := fun vq wq => vq = (.bool true) ∧ w12 = wq) (Runs.veq (r_eq rfl rfl) (congrArg Value.bool (show _ = true from by decide))) ⟨rfl, rfl⟩) (fun h => by cases h) rfl ?_; clear hf fa; rintro fa _ _ ⟨rfl, rfl⟩ hf
      change Fr _ _ ((39, (.bool true)) :: _) at hf
      refine sqv hf (r_pick (b := true) rfl rfl rfl rfl) rfl rfl rfl ?_; clear hf fa; intro fa hf
      refine sqv hf (r_assign rfl) rfl rfl rfl ?_; clear hf fa; intro fa hf
      apply wpList_nil
      (try simp only [Exit.then, Exit.inBlock, ↓reduceIte, Nat.reduceEqDiff])
      refine hK30 _ _ ?_
      refine wp_ret ?_
      (try simp only [Exit.then, Exit.inBlock])
      refine ret1 hf rfl rfl ?_
      exact ⟨rfl, hb⟩
end Go.Proofs.Ytmcmickgllffoaa
