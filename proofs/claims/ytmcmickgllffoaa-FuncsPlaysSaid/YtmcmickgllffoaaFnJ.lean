/- What is proved here: functions by numbers: Swapped, Owned. -/
import Derived.Test.YtmcmickgllffoaaFnI
namespace Go.Proofs.Ytmcmickgllffoaa
open Go.RowKit
set_option linter.unusedVariables false
set_option linter.unusedSimpArgs false
def filF (C : Nat → Bool) : Nat → List Int
  | 0 => []
  | k + 1 => filF C k ++ (if C k = true then [((k : Nat) : Int)] else [])
theorem filF_yes {C : Nat → Bool} {k : Nat} (h : C k = true) : filF C k ++ [((k : Nat) : Int)] = filF C (k + 1) := by rw [filF, if_pos h]
theorem filF_no {C : Nat → Bool} {k : Nat} (h : C k = false) : filF C k = filF C (k + 1) := by rw [filF, if_neg (by rw [h]; decide), List.append_nil]
theorem filF_len (C : Nat → Bool) : ∀ k, (filF C k).length ≤ k
  | 0 => Nat.le_refl _
  | k + 1 => by
    have := filF_len C k
    rw [filF, List.length_append]
    split
    · rw [List.length_singleton]; omega
    · rw [List.length_nil]; omega
theorem filF_eq {C D : Nat → Bool} : ∀ k, (∀ j, j < k → C j = D j) → filF C k = filF D k
  | 0, _ => rfl
  | k + 1, h => by rw [filF, filF, filF_eq k (fun j hj => h j (by omega)), h k (Nat.lt_succ_self k)]
theorem rwF_fil (R : List MRf) (o : Int) (t : Bool) : ∀ k, rwF R o t k = filF (rwC R o t) k
  | 0 => rfl
  | k + 1 => by rw [rwF, filF, rwF_fil R o t k]
def swC (L : List (Option MFn)) (Sl_ : List Int) (k : Nat) : Bool := liveL L ((k : Nat) : Int) && decide (Sl_.getD k 0 ≠ ((k : Nat) : Int))
def owC (L : List (Option MFn)) (o : Int) (k : Nat) : Bool := liveL L ((k : Nat) : Int) && decide ((gotL L ((k : Nat) : Int)).2.2.1 = o)
theorem liveB_at {ps : List (Option Addr)} {k : Nat} {y : Option Addr} (h : ps[k]? = some y) : liveB ps ((k : Nat) : Int) = !y.isNone := by
  have hl := (List.getElem?_eq_some_iff.1 h).1
  unfold liveB
  rw [decide_eq_true (by omega), Bool.true_and, Int.toNat_natCast, List.getD_eq_getElem?_getD, h]
  rfl
theorem FRel.gotAt {w : World} {ps : List (Option Addr)} {L : List (Option MFn)} (h : FRel w ps L) {k : Nat} {y : Option Addr} (hy : ps[k]? = some y) (hl : ¬ y.isNone = true) : ∃ bf, y = some ⟨bf, 0, none⟩ ∧ w.heap[bf]? = some (.cells (fnCs (gotL L ((k : Nat) : Int))) 37 (0, 0)) ∧ liveL L ((k : Nat) : Int) = true := by
  have hlb : liveB ps ((k : Nat) : Int) = true := by rw [liveB_at hy, Bool.eq_false_iff.2 hl]; rfl
  obtain ⟨bf, h1, x, h2, h3⟩ := h.get hlb
  rw [Int.toNat_natCast] at h1 h2
  rw [hy] at h1
  have hlL : liveL L ((k : Nat) : Int) = true := by rw [← h.live]; exact hlb
  refine ⟨bf, Option.some.inj h1, ?_, hlL⟩
  have hg : gotL L ((k : Nat) : Int) = x := by unfold gotL; rw [if_pos hlL, Int.toNat_natCast, List.getD_eq_getElem?_getD, h2]; rfl
  rw [hg]
  exact h3
theorem FRel.deadAt {w : World} {ps : List (Option Addr)} {L : List (Option MFn)} (h : FRel w ps L) {k : Nat} {y : Option Addr} (hy : ps[k]? = some y) (hl : y.isNone = true) : liveL L ((k : Nat) : Int) = false := by
  rw [← h.live, liveB_at hy, hl]; rfl

set_option maxHeartbeats 1000000 in
set_option maxRecDepth 100000 in
theorem swapped_any (B p : Nat) (a b : Option Addr) (c d : Nat) (ps : List (Option Addr)) (Sl_ : List Int) (w : World) (hp : w.heap[p]? = some (.cells #[(.slice a ps.length c), (.slice b Sl_.length d)] 122 (0, 0))) (hR : Row 1 vPF 123 B w (.slice a ps.length c) ps) (hRS : Row 1 (vInt .i64) 3 B w (.slice b Sl_.length d) Sl_) (hBp : B ≤ p) (hps : ps.length ≤ 1000) (hln : ps.length = Sl_.length) (L : List (Option MFn)) (hF : FRel w ps L) : Calls Try.prog 40 #[(.pointer (some ⟨p, 0, none⟩))] w fun e w' => ∃ v, e = .returned v ∧ Row 1 (vInt .i64) 3 w.heap.size w' v (filF (swC L Sl_) ps.length) ∧ Below w.heap.size w w' := by
  have hcR := Row.caps hR
  have hcS := Row.caps hRS
  have hpl := (Array.getElem?_eq_some_iff.1 hp).1
  have hRd := Row.rd (by intros; rfl) hR
  have hSd := Row.rd (by intros; rfl) hRS
  have h00 : (filF (swC L Sl_) 0).length = 0 := rfl
  refine sx_enter (L := [(0, (.pointer (some ⟨p, 0, none⟩)))]) Try.func40 rfl rfl rfl rfl (fun fa hf => ?_)
  have hb : Below w.heap.size w w := Below.refl _ _
  refine wp_seq_k (fun K1 hK1 => ?_)
  refine wp_region_lit ?_
  refine sqv hf (r_assign rfl) rfl rfl rfl ?_; clear hf fa; intro fa hf
  apply wpList_nil
  (try simp only [Exit.then, Exit.inBlock, ↓reduceIte, Nat.reduceEqDiff])
  refine hK1 _ _ ?_
  refine wp_seq_k (fun K2 hK2 => ?_)
  refine wp_region_lit ?_
  refine sqv hf (r_assign rfl) rfl rfl rfl ?_; clear hf fa; intro fa hf
  apply wpList_nil
  (try simp only [Exit.then, Exit.inBlock, ↓reduceIte, Nat.reduceEqDiff])
  refine hK2 _ _ ?_
  refine wp_seq_k (fun K3 hK3 => ?_)
  refine wp_seq_k (fun K4 hK4 => ?_)
  refine wp_region_lit ?_
  refine sqv hf (r_move rfl) rfl rfl rfl ?_; clear hf fa; intro fa hf
  refine sqv hf (r_nilCheck rfl) rfl rfl rfl ?_; clear hf fa; intro fa hf
  refine sqv hf (r_fa rfl Try.underlying122 (f := 0) (q := 0) rfl (by kernel_rfl) rfl) rfl rfl rfl ?_; clear hf fa; intro fa hf
  refine sqv hf (r_load (v := (.slice a ps.length c)) rfl Try.underlying120 rfl (cell_blk hp rfl)) rfl rfl rfl ?_; clear hf fa; intro fa hf
  refine sqv hf (r_lensl rfl Try.underlying120) rfl rfl rfl ?_; clear hf fa; intro fa hf
  refine sqv hf (r_move rfl) rfl rfl rfl ?_; clear hf fa; intro fa hf
  apply wpList_nil
  (try simp only [Exit.then, Exit.inBlock, ↓reduceIte, Nat.reduceEqDiff])
  refine hK4 _ _ ?_
  refine wp_block ?_
  refine wp_loop_k (fun mq fa wr => ∃ (k : Nat) (roa : Option Addr) (roc : Nat), mq = ps.length - k ∧ Fr 38 fa [(0, (.pointer (some ⟨p, 0, none⟩))), (9, (.int .i64 ((ps.length : Nat) : Int))), (10, (.int .i64 ((k : Nat) : Int))), (3, (.slice roa (((filF (swC L Sl_) k)).length) roc))] ∧ Below w.heap.size w wr ∧ Row 1 (vInt .i64) 3 (w.heap.size) wr (.slice roa (((filF (swC L Sl_) k)).length) roc) (filF (swC L Sl_) k) ∧ wr.heap[p]? = some (.cells #[(.slice a ps.length c), (.slice b Sl_.length d)] 122 (0, 0)) ∧ (k ≤ ps.length)) ?_ ?_
  · skip
    exact ⟨_, 0, none, 0, rfl, hf.sub ⟨rfl, rfl, (some_int (by first | rfl | omega)), (some_sl (by first | omega | (simp only [List.length_append, List.length_cons, List.length_nil]; omega) | (simp <;> omega)) rfl), trivial⟩, hb, Row.nil, hp, by omega⟩
  · skip
    clear hf fa; intro mq1 fa w1 hI KL1 hKL1
    clear hb
    clear hp
    obtain ⟨k, roa, roc, hmq1, hf, hb, hro, hkp, hk⟩ := hI
    have hcro := Row.caps hro
    have hrl := filF_len (swC L Sl_) k
    refine wp_seq_k (fun K5 hK5 => ?_)
    refine wp_region_lit ?_
    refine sqv hf (r_lt rfl rfl) rfl rfl rfl ?_; clear hf fa; intro fa hf
    apply wpList_nil
    (try simp only [Exit.then, Exit.inBlock, ↓reduceIte, Nat.reduceEqDiff])
    refine hK5 _ _ ?_
    refine wp_seq_k (fun K6 hK6 => ?_)
    refine wp_cond_split (t := (decide (((k : Nat) : Int) < ((ps.length : Nat) : Int)))) (hf.ev rfl) (fun hqt11_1 => ?_) (fun hqt11_1 => ?_)
    · have hqt11_1b := hqt11_1
      try simp only [decide_eq_true_eq, Bool.and_eq_true, Bool.or_eq_true, Bool.not_eq_true', decide_eq_false_iff_not, ne_eq, Bool.not_eq_true] at hqt11_1
      refine wp_skip ?_
      (try simp only [Exit.then, Exit.inBlock, ↓reduceIte, Nat.reduceEqDiff])
      refine hK6 _ _ ?_
      refine wp_seq_k (fun K7 hK7 => ?_)
      refine wp_block ?_
      refine wp_seq_k (fun K8 hK8 => ?_)
      refine wp_region_lit ?_
      refine sqv hf (r_move rfl) rfl rfl rfl ?_; clear hf fa; intro fa hf
      refine sqv hf (r_assign rfl) rfl rfl rfl ?_; clear hf fa; intro fa hf
      apply wpList_nil
      (try simp only [Exit.then, Exit.inBlock, ↓reduceIte, Nat.reduceEqDiff])
      refine hK8 _ _ ?_
      refine wp_seq_k (fun K9 hK9 => ?_)
      obtain ⟨y, hy⟩ : ∃ x, ps[k]? = some x := ⟨_, List.getElem?_eq_getElem (by omega)⟩
      by_cases hsp1 : y.isNone = true
      · have hsp1b : decide (y.isNone = true) = true := decide_eq_true hsp1
        obtain rfl : y = none := by have h := hsp1; cases y with | none => rfl | some q => cases h
        have hdead := hF.deadAt hy rfl
        skip
        refine wp_region_lit ?_
        refine sqv hf (r_move rfl) rfl rfl rfl ?_; clear hf fa; intro fa hf
        refine sqv hf (r_nilCheck rfl) rfl rfl rfl ?_; clear hf fa; intro fa hf
        refine sqv hf (r_fa rfl Try.underlying122 (f := 0) (q := 0) rfl (by kernel_rfl) rfl) rfl rfl rfl ?_; clear hf fa; intro fa hf
        refine sqv hf (r_load (v := (.slice a ps.length c)) rfl Try.underlying120 rfl (cell_blk hkp rfl)) rfl rfl rfl ?_; clear hf fa; intro fa hf
        refine sqv hf (r_move rfl) rfl rfl rfl ?_; clear hf fa; intro fa hf
        have hy1 : (ps)[k]? = some none := hy
        obtain ⟨ab1, aoff1, hat1, hlb1, hel1⟩ := RdS.at hRd hy1
        refine sqv hf (r_ixa (sz := 1) (j := k) (evAt rfl hat1) rfl Try.underlying120 (by kernel_rfl) rfl (by omega) rfl) rfl rfl rfl ?_; clear hf fa; intro fa hf
        refine sqv hf (r_load (v := (.pointer none)) rfl Try.underlying123 rfl (cellsAt_cell (cellsAt_below hel1 hb hlb1) (i := 0) rfl rfl)) rfl rfl rfl ?_; clear hf fa; intro fa hf
        refine sqv hf (Runs.veq (r_pnnil rfl rfl Try.underlying123) (congrArg Value.bool (show _ = false from (by rfl)))) rfl rfl rfl ?_; clear hf fa; intro fa hf
        refine sqv hf (r_move rfl) rfl rfl rfl ?_; clear hf fa; intro fa hf
        refine sqgT (act := false) (ag := true) (c := false) (v := .bool false) hf rfl rfl rfl (fun hact => by cases hact) rfl rfl ?_; clear hf fa; intro fa hf
        refine sqgT (act := false) (ag := true) (c := false) (v := .bool false) hf rfl rfl rfl (fun hact => by cases hact) rfl rfl ?_; clear hf fa; intro fa hf
        refine sqgT (act := false) (ag := true) (c := false) (v := .bool false) hf rfl rfl rfl (fun hact => by cases hact) rfl rfl ?_; clear hf fa; intro fa hf
        refine sqgT (act := false) (ag := true) (c := false) (v := .bool false) hf rfl rfl rfl (fun hact => by cases hact) rfl rfl ?_; clear hf fa; intro fa hf
        refine sqgT (act := false) (ag := true) (c := false) (v := .bool false) hf rfl rfl rfl (fun hact => by cases hact) rfl rfl ?_; clear hf fa; intro fa hf
        refine sqgT (act := false) (ag := true) (c := false) (v := .bool false) hf rfl rfl rfl (fun hact => by cases hact) rfl rfl ?_; clear hf fa; intro fa hf
        refine sqgT (act := false) (ag := true) (c := false) (v := .bool false) hf rfl rfl rfl (fun hact => by cases hact) rfl rfl ?_; clear hf fa; intro fa hf
        refine sqgT (act := false) (ag := true) (c := false) (v := .bool false) hf rfl rfl rfl (fun hact => by cases hact) rfl rfl ?_; clear hf fa; intro fa hf
        refine sqgT (act := false) (ag := true) (c := false) (v := .bool false) hf rfl rfl rfl (fun hact => by cases hact) rfl rfl ?_; clear hf fa; intro fa hf
        refine sqv hf (r_pick (b := false) rfl rfl rfl rfl) rfl rfl rfl ?_; clear hf fa; intro fa hf
        apply wpList_nil
        (try simp only [Exit.then, Exit.inBlock, ↓reduceIte, Nat.reduceEqDiff])
        refine hK9 _ _ ?_
        refine wp_cond_false (hf.ev rfl) ?_
        refine wp_skip ?_
        (try simp only [Exit.then, Exit.inBlock, ↓reduceIte, Nat.reduceEqDiff])
        refine hK7 _ _ ?_
        refine wp_region_lit ?_
        refine sqv hf (r_add (C := (((k : Nat) : Int) + (1 : Int))) rfl rfl (by rw [IntKind.wrap_i64]; omega)) rfl rfl rfl ?_; clear hf fa; intro fa hf
        refine sqv hf (r_move rfl) rfl rfl rfl ?_; clear hf fa; intro fa hf
        apply wpList_nil
        (try simp only [Exit.then, Exit.inBlock, ↓reduceIte, Nat.reduceEqDiff])
        have hst := filF_no (C := (swC L Sl_)) (k := k) (by unfold swC; rw [hdead]; rfl)
        have hbl2 := congrArg List.length hst
        refine hKL1 _ _ _ (by omega) ⟨(k + 1), roa, roc, rfl, hf.sub ⟨rfl, rfl, (some_int (by first | rfl | omega)), (some_sl (by first | omega | (simp only [List.length_append, List.length_cons, List.length_nil]; omega) | (simp <;> omega)) rfl), trivial⟩, hb, (crowTo hro hst), hkp, by omega⟩
      · have hsp1b : decide (y.isNone = true) = false := decide_eq_false hsp1
        obtain ⟨bf, rfl, hbf, hlv⟩ := hF.gotAt hy hsp1
        have hkf := blk_ext hbf hb
        have hbl := (Array.getElem?_eq_some_iff.1 hbf).1
        skip
        refine wp_region_lit ?_
        refine sqv hf (r_move rfl) rfl rfl rfl ?_; clear hf fa; intro fa hf
        refine sqv hf (r_nilCheck rfl) rfl rfl rfl ?_; clear hf fa; intro fa hf
        refine sqv hf (r_fa rfl Try.underlying122 (f := 0) (q := 0) rfl (by kernel_rfl) rfl) rfl rfl rfl ?_; clear hf fa; intro fa hf
        refine sqv hf (r_load (v := (.slice a ps.length c)) rfl Try.underlying120 rfl (cell_blk hkp rfl)) rfl rfl rfl ?_; clear hf fa; intro fa hf
        refine sqv hf (r_move rfl) rfl rfl rfl ?_; clear hf fa; intro fa hf
        have hy2 : (ps)[k]? = some (some ⟨bf, 0, none⟩) := hy
        obtain ⟨ab2, aoff2, hat2, hlb2, hel2⟩ := RdS.at hRd hy2
        refine sqv hf (r_ixa (sz := 1) (j := k) (evAt rfl hat2) rfl Try.underlying120 (by kernel_rfl) rfl (by omega) rfl) rfl rfl rfl ?_; clear hf fa; intro fa hf
        refine sqv hf (r_load (v := (.pointer (some ⟨bf, 0, none⟩))) rfl Try.underlying123 rfl (cellsAt_cell (cellsAt_below hel2 hb hlb2) (i := 0) rfl rfl)) rfl rfl rfl ?_; clear hf fa; intro fa hf
        refine sqv hf (Runs.veq (r_pnnil rfl rfl Try.underlying123) (congrArg Value.bool (show _ = true from (by rfl)))) rfl rfl rfl ?_; clear hf fa; intro fa hf
        refine sqv hf (r_move rfl) rfl rfl rfl ?_; clear hf fa; intro fa hf
        refine sqgd (act := true) (g := 8) (want := true) (ag := true) (c := true) hf (by rfl) (by rfl) rfl (fun _ =>  Runs.does (R := fun vq wq => vq = (.pointer (some ⟨p, 0, none⟩)) ∧ w1 = wq) (r_move rfl) ⟨rfl, rfl⟩) (fun h => by cases h) rfl ?_; clear hf fa; rintro fa _ _ ⟨rfl, rfl⟩ hf
        change Fr _ _ ((22, (.pointer (some ⟨p, 0, none⟩))) :: _) at hf
        refine sqgd (act := true) (g := 8) (want := true) (ag := true) (c := true) hf (by rfl) (by rfl) rfl (fun _ =>  Runs.does (R := fun vq wq => vq = (.pointer (some ⟨p, 0, none⟩)) ∧ w1 = wq) (r_nilCheck rfl) ⟨rfl, rfl⟩) (fun h => by cases h) rfl ?_; clear hf fa; rintro fa _ _ ⟨rfl, rfl⟩ hf
        change Fr _ _ ((23, (.pointer (some ⟨p, 0, none⟩))) :: _) at hf
        refine sqgd (act := true) (g := 8) (want := true) (ag := true) (c := true) hf (by rfl) (by rfl) rfl (fun _ =>  Runs.does (R := fun vq wq => vq = (.pointer (some ⟨p, 1, none⟩)) ∧ w1 = wq) (r_fa rfl Try.underlying122 (f := 1) (q := 1) rfl (by kernel_rfl) rfl) ⟨rfl, rfl⟩) (fun h => by cases h) rfl ?_; clear hf fa; rintro fa _ _ ⟨rfl, rfl⟩ hf
        change Fr _ _ ((24, (.pointer (some ⟨p, 1, none⟩))) :: _) at hf
        refine sqgd (act := true) (g := 8) (want := true) (ag := true) (c := true) hf (by rfl) (by rfl) rfl (fun _ =>  Runs.does (R := fun vq wq => vq = (.slice b Sl_.length d) ∧ w1 = wq) (r_load (v := (.slice b Sl_.length d)) rfl Try.underlying33 rfl (cell_blk hkp rfl)) ⟨rfl, rfl⟩) (fun h => by cases h) rfl ?_; clear hf fa; rintro fa _ _ ⟨rfl, rfl⟩ hf
        change Fr _ _ ((25, (.slice b Sl_.length d)) :: _) at hf
        refine sqgd (act := true) (g := 8) (want := true) (ag := true) (c := true) hf (by rfl) (by rfl) rfl (fun _ =>  Runs.does (R := fun vq wq => vq = (.int .i64 ((k : Nat) : Int)) ∧ w1 = wq) (r_move rfl) ⟨rfl, rfl⟩) (fun h => by cases h) rfl ?_; clear hf fa; rintro fa _ _ ⟨rfl, rfl⟩ hf
        change Fr _ _ ((26, (.int .i64 ((k : Nat) : Int))) :: _) at hf
        have hy3 : (Sl_)[k]? = some (Sl_.getD k 0) := getD_at 0 (by omega)
        obtain ⟨ab3, aoff3, hat3, hlb3, hel3⟩ := RdS.at hSd hy3
        refine sqgd (act := true) (g := 8) (want := true) (ag := true) (c := true) hf (by rfl) (by rfl) rfl (fun _ =>  Runs.does (R := fun vq wq => vq = (.pointer (some ⟨ab3, (aoff3 + k * 1), none⟩)) ∧ w1 = wq) (r_ixa (sz := 1) (j := k) (evAt rfl hat3) rfl Try.underlying33 (by kernel_rfl) rfl (by omega) rfl) ⟨rfl, rfl⟩) (fun h => by cases h) rfl ?_; clear hf fa; rintro fa _ _ ⟨rfl, rfl⟩ hf
        change Fr _ _ ((27, (.pointer (some ⟨ab3, (aoff3 + k * 1), none⟩))) :: _) at hf
        refine sqgd (act := true) (g := 8) (want := true) (ag := true) (c := true) hf (by rfl) (by rfl) rfl (fun _ =>  Runs.does (R := fun vq wq => vq = (.int .i64 ((Sl_.getD k 0))) ∧ w1 = wq) (r_load (v := (.int .i64 ((Sl_.getD k 0)))) rfl Try.underlying3 rfl (cellsAt_cell (cellsAt_below hel3 hb hlb3) (i := 0) rfl rfl)) ⟨rfl, rfl⟩) (fun h => by cases h) rfl ?_; clear hf fa; rintro fa _ _ ⟨rfl, rfl⟩ hf
        change Fr _ _ ((28, (.int .i64 ((Sl_.getD k 0)))) :: _) at hf
        refine sqgd (act := true) (g := 8) (want := true) (ag := true) (c := true) hf (by rfl) (by rfl) rfl (fun _ =>  Runs.does (R := fun vq wq => vq = (.int .i64 ((k : Nat) : Int)) ∧ w1 = wq) (r_move rfl) ⟨rfl, rfl⟩) (fun h => by cases h) rfl ?_; clear hf fa; rintro fa _ _ ⟨rfl, rfl⟩ hf
        change Fr _ _ ((29, (.int .i64 ((k : Nat) : Int))) :: _) at hf
        refine sqgd (act := true) (g := 8) (want := true) (ag := true) (c := true) hf (by rfl) (by rfl) rfl (fun _ =>  Runs.does (R := fun vq wq => vq = (.bool (decide (((Sl_.getD k 0)) ≠ ((k : Nat) : Int)))) ∧ w1 = wq) (r_ne rfl rfl) ⟨rfl, rfl⟩) (fun h => by cases h) rfl ?_; clear hf fa; rintro fa _ _ ⟨rfl, rfl⟩ hf
        change Fr _ _ ((30, (.bool (decide (((Sl_.getD k 0)) ≠ ((k : Nat) : Int))))) :: _) at hf
        refine sqv hf (r_pick (b := true) rfl rfl rfl rfl) rfl rfl rfl ?_; clear hf fa; intro fa hf
        apply wpList_nil
        (try simp only [Exit.then, Exit.inBlock, ↓reduceIte, Nat.reduceEqDiff])
        refine hK9 _ _ ?_
        refine wp_cond_split (t := (decide (((Sl_.getD k 0)) ≠ ((k : Nat) : Int)))) (hf.ev rfl) (fun hqt31_2 => ?_) (fun hqt31_2 => ?_)
        · have hqt31_2b := hqt31_2
          try simp only [decide_eq_true_eq, Bool.and_eq_true, Bool.or_eq_true, Bool.not_eq_true', decide_eq_false_iff_not, ne_eq, Bool.not_eq_true] at hqt31_2
          refine wp_region_lit ?_
          refine sqv hf (r_move rfl) rfl rfl rfl ?_; clear hf fa; intro fa hf
          refine sqv hf (r_move rfl) rfl rfl rfl ?_; clear hf fa; intro fa hf
          refine sqdt hf (d_bslice (z := (.int .i64 (0 : Int))) (sz := 1) (vs := [(0, (.int .i64 ((k : Nat) : Int)))]) (cs := #[(.int .i64 ((k : Nat) : Int))]) rfl Try.underlying33 (by kernel_rfl) rfl (by kernel_rfl)) rfl rfl rfl ?_; clear hf fa; rintro fa _ w2 ⟨b1, rfl, hle1, hk1, he1⟩ hf
          have hBb1 : w.heap.size ≤ b1 := Nat.le_trans hb.size hle1
          have : p < b1 := Nat.lt_of_lt_of_le (blk_lt hkp) hle1
          have : bf < b1 := Nat.lt_of_lt_of_le (blk_lt hkf) hle1
          have hnr1 : (Value.slice roa ((((filF (swC L Sl_) k)).length)) roc).ownBlock ≠ some b1 := fun hq => by have := (Row.lt hro _ hq).2; omega
          have hnl1 : ∀ q, (Value.slice roa ((((filF (swC L Sl_) k)).length)) roc).ownBlock = some q → q < b1 := fun q hq => Nat.lt_of_lt_of_le (Row.lt hro q hq).2 hle1
          replace hkp := blk_ext hkp he1
          replace hkf := blk_ext hkf he1
          replace hro := Row.ext hro he1
          replace hb := hb.trans (Below.mono he1 hb.size)
          have hs1 := Row.rd (by intros; rfl) (Row.of_new (k := 1) (V := (vInt .i64)) (l := [((k : Nat) : Int)]) hk1 (Nat.le_refl _) rfl rfl (Nat.le_of_ble_eq_true rfl))
          refine sqdt hf (d_append (V := (vInt .i64)) (k := 1) (e := 3) (bytes := 8) (z := (.int .i64 (0 : Int))) (news := [((k : Nat) : Int)]) (base := w.heap.size) (by intros; rfl) (by intro x u hu; simp only [vInt, List.mem_singleton] at hu; subst hu; rfl) rfl rfl Try.underlying33 (by kernel_rfl) rfl rfl rfl hro hs1 rfl (fun h => by cases h) (by first | omega | (simp only [List.length_cons, List.length_nil, List.length_append, nums_len]; omega)) (by have := hb.size; omega)) rfl rfl rfl ?_; clear hf fa; rintro fa v w3 ⟨hr1, hg1⟩ hf; obtain ⟨ra1, rc1, rfl, hcrc1, hmrc1⟩ := Row.slice hr1
          replace hkp := blk_row' hkp hg1 (Row.ne_type hro hkp rfl)
          replace hkf := blk_row' hkf hg1 (Row.ne_type hro hkf rfl)
          replace hb := hb.trans (row_below hro hg1 hb.size (by have := hb.size; omega))
          refine sqv hf (r_assign rfl) rfl rfl rfl ?_; clear hf fa; intro fa hf
          apply wpList_nil
          (try simp only [Exit.then, Exit.inBlock, ↓reduceIte, Nat.reduceEqDiff])
          refine hK7 _ _ ?_
          refine wp_region_lit ?_
          refine sqv hf (r_add (C := (((k : Nat) : Int) + (1 : Int))) rfl rfl (by rw [IntKind.wrap_i64]; omega)) rfl rfl rfl ?_; clear hf fa; intro fa hf
          refine sqv hf (r_move rfl) rfl rfl rfl ?_; clear hf fa; intro fa hf
          apply wpList_nil
          (try simp only [Exit.then, Exit.inBlock, ↓reduceIte, Nat.reduceEqDiff])
          have hst := filF_yes (C := (swC L Sl_)) (k := k) (by unfold swC; rw [hlv]; have h := hqt31_2; simpa using h)
          have hbl2 := congrArg List.length hst
          refine hKL1 _ _ _ (by omega) ⟨(k + 1), ra1, rc1, rfl, hf.sub ⟨rfl, rfl, (some_int (by first | rfl | omega)), (some_sl (by first | omega | (simp only [List.length_append, List.length_cons, List.length_nil]; omega) | (simp <;> omega)) rfl), trivial⟩, hb, (crowTo hr1 hst), hkp, by omega⟩
        · have hqt31_2b := hqt31_2
          replace hqt31_2 := Bool.eq_false_iff.1 hqt31_2
          try simp only [ne_eq, decide_eq_true_eq, Bool.and_eq_true, Bool.or_eq_true, Bool.not_eq_true', decide_eq_false_iff_not] at hqt31_2
          refine wp_skip ?_
          (try simp only [Exit.then, Exit.inBlock, ↓reduceIte, Nat.reduceEqDiff])
          refine hK7 _ _ ?_
          refine wp_region_lit ?_
          refine sqv hf (r_add (C := (((k : Nat) : Int) + (1 : Int))) rfl rfl (by rw [IntKind.wrap_i64]; omega)) rfl rfl rfl ?_; clear hf fa; intro fa hf
          refine sqv hf (r_move rfl) rfl rfl rfl ?_; clear hf fa; intro fa hf
          apply wpList_nil
          (try simp only [Exit.then, Exit.inBlock, ↓reduceIte, Nat.reduceEqDiff])
          have hst := filF_no (C := (swC L Sl_)) (k := k) (by unfold swC; rw [hlv]; have h := hqt31_2; simpa using h)
          have hbl2 := congrArg List.length hst
          refine hKL1 _ _ _ (by omega) ⟨(k + 1), roa, roc, rfl, hf.sub ⟨rfl, rfl, (some_int (by first | rfl | omega)), (some_sl (by first | omega | (simp only [List.length_append, List.length_cons, List.length_nil]; omega) | (simp <;> omega)) rfl), trivial⟩, hb, (crowTo hro hst), hkp, by omega⟩
    · have hqt11_1b := hqt11_1
      replace hqt11_1 := Bool.eq_false_iff.1 hqt11_1
      try simp only [ne_eq, decide_eq_true_eq, Bool.and_eq_true, Bool.or_eq_true, Bool.not_eq_true', decide_eq_false_iff_not] at hqt11_1
      refine wp_exit ?_
      (try simp only [Exit.then, Exit.inBlock, ↓reduceIte, Nat.reduceEqDiff])
      refine hK3 _ _ ?_
      refine wp_seq_k (fun K10 hK10 => ?_)
      refine wp_region_lit ?_
      refine sqv hf (r_move rfl) rfl rfl rfl ?_; clear hf fa; intro fa hf
      refine sqv hf (r_assign rfl) rfl rfl rfl ?_; clear hf fa; intro fa hf
      apply wpList_nil
      (try simp only [Exit.then, Exit.inBlock, ↓reduceIte, Nat.reduceEqDiff])
      refine hK10 _ _ ?_
      refine wp_ret ?_
      (try simp only [Exit.then, Exit.inBlock])
      refine ret1 hf rfl rfl ?_
      have hkk : k = ps.length := by omega
      exact ⟨_, rfl, by rw [← hkk]; exact hro, hb⟩

set_option maxHeartbeats 1000000 in
set_option maxRecDepth 100000 in
theorem owned_any (B p : Nat) (a b : Option Addr) (c d : Nat) (ps : List (Option Addr)) (Sl_ : List Int) (w : World) (hp : w.heap[p]? = some (.cells #[(.slice a ps.length c), (.slice b Sl_.length d)] 122 (0, 0))) (hR : Row 1 vPF 123 B w (.slice a ps.length c) ps) (hRS : Row 1 (vInt .i64) 3 B w (.slice b Sl_.length d) Sl_) (hBp : B ≤ p) (hps : ps.length ≤ 1000) (hln : ps.length = Sl_.length) (L : List (Option MFn)) (hF : FRel w ps L) (o : Int) : Calls Try.prog 42 #[(.pointer (some ⟨p, 0, none⟩)), (.int .i64 o)] w fun e w' => ∃ v, e = .returned v ∧ Row 1 (vInt .i64) 3 w.heap.size w' v (filF (owC L o) ps.length) ∧ Below w.heap.size w w' := by
  have hcR := Row.caps hR
  have hcS := Row.caps hRS
  have hpl := (Array.getElem?_eq_some_iff.1 hp).1
  have hRd := Row.rd (by intros; rfl) hR
  have hSd := Row.rd (by intros; rfl) hRS
  have h00 : (filF (owC L o) 0).length = 0 := rfl
  refine sx_enter (L := [(0, (.pointer (some ⟨p, 0, none⟩))), (1, (.int .i64 o))]) Try.func42 rfl rfl rfl rfl (fun fa hf => ?_)
  have hb : Below w.heap.size w w := Below.refl _ _
  refine wp_seq_k (fun K1 hK1 => ?_)
  refine wp_region_lit ?_
  refine sqv hf (r_assign rfl) rfl rfl rfl ?_; clear hf fa; intro fa hf
  apply wpList_nil
  (try simp only [Exit.then, Exit.inBlock, ↓reduceIte, Nat.reduceEqDiff])
  refine hK1 _ _ ?_
  refine wp_seq_k (fun K2 hK2 => ?_)
  refine wp_region_lit ?_
  refine sqv hf (r_assign rfl) rfl rfl rfl ?_; clear hf fa; intro fa hf
  apply wpList_nil
  (try simp only [Exit.then, Exit.inBlock, ↓reduceIte, Nat.reduceEqDiff])
  refine hK2 _ _ ?_
  refine wp_seq_k (fun K3 hK3 => ?_)
  refine wp_seq_k (fun K4 hK4 => ?_)
  refine wp_region_lit ?_
  refine sqv hf (r_move rfl) rfl rfl rfl ?_; clear hf fa; intro fa hf
  refine sqv hf (r_nilCheck rfl) rfl rfl rfl ?_; clear hf fa; intro fa hf
  refine sqv hf (r_fa rfl Try.underlying122 (f := 0) (q := 0) rfl (by kernel_rfl) rfl) rfl rfl rfl ?_; clear hf fa; intro fa hf
  refine sqv hf (r_load (v := (.slice a ps.length c)) rfl Try.underlying120 rfl (cell_blk hp rfl)) rfl rfl rfl ?_; clear hf fa; intro fa hf
  refine sqv hf (r_lensl rfl Try.underlying120) rfl rfl rfl ?_; clear hf fa; intro fa hf
  refine sqv hf (r_move rfl) rfl rfl rfl ?_; clear hf fa; intro fa hf
  apply wpList_nil
  (try simp only [Exit.then, Exit.inBlock, ↓reduceIte, Nat.reduceEqDiff])
  refine hK4 _ _ ?_
  refine wp_block ?_
  refine wp_loop_k (fun mq fa wr => ∃ (k : Nat) (roa : Option Addr) (roc : Nat), mq = ps.length - k ∧ Fr 34 fa [(0, (.pointer (some ⟨p, 0, none⟩))), (1, (.int .i64 o)), (11, (.slice a ps.length c)), (12, (.int .i64 ((ps.length : Nat) : Int))), (13, (.int .i64 ((k : Nat) : Int))), (5, (.slice roa (((filF (owC L o) k)).length) roc))] ∧ Below w.heap.size w wr ∧ Row 1 (vInt .i64) 3 (w.heap.size) wr (.slice roa (((filF (owC L o) k)).length) roc) (filF (owC L o) k) ∧ wr.heap[p]? = some (.cells #[(.slice a ps.length c), (.slice b Sl_.length d)] 122 (0, 0)) ∧ (k ≤ ps.length)) ?_ ?_
  · skip
    exact ⟨_, 0, none, 0, rfl, hf.sub ⟨rfl, rfl, rfl, rfl, (some_int (by first | rfl | omega)), (some_sl (by first | omega | (simp only [List.length_append, List.length_cons, List.length_nil]; omega) | (simp <;> omega)) rfl), trivial⟩, hb, Row.nil, hp, by omega⟩
  · skip
    clear hf fa; intro mq1 fa w1 hI KL1 hKL1
    clear hb
    clear hp
    obtain ⟨k, roa, roc, hmq1, hf, hb, hro, hkp, hk⟩ := hI
    have hcro := Row.caps hro
    have hrl := filF_len (owC L o) k
    refine wp_seq_k (fun K5 hK5 => ?_)
    refine wp_region_lit ?_
    refine sqv hf (r_lt rfl rfl) rfl rfl rfl ?_; clear hf fa; intro fa hf
    apply wpList_nil
    (try simp only [Exit.then, Exit.inBlock, ↓reduceIte, Nat.reduceEqDiff])
    refine hK5 _ _ ?_
    refine wp_seq_k (fun K6 hK6 => ?_)
    refine wp_cond_split (t := (decide (((k : Nat) : Int) < ((ps.length : Nat) : Int)))) (hf.ev rfl) (fun hqt14_1 => ?_) (fun hqt14_1 => ?_)
    · have hqt14_1b := hqt14_1
      try simp only [decide_eq_true_eq, Bool.and_eq_true, Bool.or_eq_true, Bool.not_eq_true', decide_eq_false_iff_not, ne_eq, Bool.not_eq_true] at hqt14_1
      refine wp_skip ?_
      (try simp only [Exit.then, Exit.inBlock, ↓reduceIte, Nat.reduceEqDiff])
      refine hK6 _ _ ?_
      refine wp_seq_k (fun K7 hK7 => ?_)
      refine wp_block ?_
      refine wp_seq_k (fun K8 hK8 => ?_)
      obtain ⟨y, hy⟩ : ∃ x, ps[k]? = some x := ⟨_, List.getElem?_eq_getElem (by omega)⟩
      by_cases hsp1 : y.isNone = true
      · have hsp1b : decide (y.isNone = true) = true := decide_eq_true hsp1
        obtain rfl : y = none := by have h := hsp1; cases y with | none => rfl | some q => cases h
        have hdead := hF.deadAt hy rfl
        skip
        refine wp_region_lit ?_
        refine sqv hf (r_move rfl) rfl rfl rfl ?_; clear hf fa; intro fa hf
        have hy1 : (ps)[k]? = some none := hy
        obtain ⟨ab1, aoff1, hat1, hlb1, hel1⟩ := RdS.at hRd hy1
        refine sqv hf (r_ixa (sz := 1) (j := k) (evAt rfl hat1) rfl Try.underlying120 (by kernel_rfl) rfl (by omega) rfl) rfl rfl rfl ?_; clear hf fa; intro fa hf
        refine sqv hf (r_load (v := (.pointer none)) rfl Try.underlying123 rfl (cellsAt_cell (cellsAt_below hel1 hb hlb1) (i := 0) rfl rfl)) rfl rfl rfl ?_; clear hf fa; intro fa hf
        refine sqv hf (r_assign rfl) rfl rfl rfl ?_; clear hf fa; intro fa hf
        refine sqv hf (r_assign rfl) rfl rfl rfl ?_; clear hf fa; intro fa hf
        apply wpList_nil
        (try simp only [Exit.then, Exit.inBlock, ↓reduceIte, Nat.reduceEqDiff])
        refine hK8 _ _ ?_
        refine wp_seq_k (fun K9 hK9 => ?_)
        refine wp_region_lit ?_
        refine sqv hf (r_move rfl) rfl rfl rfl ?_; clear hf fa; intro fa hf
        refine sqv hf (Runs.veq (r_pnnil rfl rfl Try.underlying123) (congrArg Value.bool (show _ = false from (by rfl)))) rfl rfl rfl ?_; clear hf fa; intro fa hf
        refine sqv hf (r_move rfl) rfl rfl rfl ?_; clear hf fa; intro fa hf
        refine sqgT (act := false) (ag := true) (c := false) (v := .bool false) hf rfl rfl rfl (fun hact => by cases hact) rfl rfl ?_; clear hf fa; intro fa hf
        refine sqgT (act := false) (ag := true) (c := false) (v := .bool false) hf rfl rfl rfl (fun hact => by cases hact) rfl rfl ?_; clear hf fa; intro fa hf
        refine sqgT (act := false) (ag := true) (c := false) (v := .bool false) hf rfl rfl rfl (fun hact => by cases hact) rfl rfl ?_; clear hf fa; intro fa hf
        refine sqgT (act := false) (ag := true) (c := false) (v := .bool false) hf rfl rfl rfl (fun hact => by cases hact) rfl rfl ?_; clear hf fa; intro fa hf
        refine sqgT (act := false) (ag := true) (c := false) (v := .bool false) hf rfl rfl rfl (fun hact => by cases hact) rfl rfl ?_; clear hf fa; intro fa hf
        refine sqgT (act := false) (ag := true) (c := false) (v := .bool false) hf rfl rfl rfl (fun hact => by cases hact) rfl rfl ?_; clear hf fa; intro fa hf
        refine sqv hf (r_pick (b := false) rfl rfl rfl rfl) rfl rfl rfl ?_; clear hf fa; intro fa hf
        apply wpList_nil
        (try simp only [Exit.then, Exit.inBlock, ↓reduceIte, Nat.reduceEqDiff])
        refine hK9 _ _ ?_
        refine wp_cond_false (hf.ev rfl) ?_
        refine wp_skip ?_
        (try simp only [Exit.then, Exit.inBlock, ↓reduceIte, Nat.reduceEqDiff])
        refine hK7 _ _ ?_
        refine wp_region_lit ?_
        refine sqv hf (r_add (C := (((k : Nat) : Int) + (1 : Int))) rfl rfl (by rw [IntKind.wrap_i64]; omega)) rfl rfl rfl ?_; clear hf fa; intro fa hf
        refine sqv hf (r_move rfl) rfl rfl rfl ?_; clear hf fa; intro fa hf
        apply wpList_nil
        (try simp only [Exit.then, Exit.inBlock, ↓reduceIte, Nat.reduceEqDiff])
        have hst := filF_no (C := (owC L o)) (k := k) (by unfold owC; rw [hdead]; rfl)
        have hbl2 := congrArg List.length hst
        refine hKL1 _ _ _ (by omega) ⟨(k + 1), roa, roc, rfl, hf.sub ⟨rfl, rfl, rfl, rfl, (some_int (by first | rfl | omega)), (some_sl (by first | omega | (simp only [List.length_append, List.length_cons, List.length_nil]; omega) | (simp <;> omega)) rfl), trivial⟩, hb, (crowTo hro hst), hkp, by omega⟩
      · have hsp1b : decide (y.isNone = true) = false := decide_eq_false hsp1
        obtain ⟨bf, rfl, hbf, hlv⟩ := hF.gotAt hy hsp1
        have hkf := blk_ext hbf hb
        have hbl := (Array.getElem?_eq_some_iff.1 hbf).1
        skip
        refine wp_region_lit ?_
        refine sqv hf (r_move rfl) rfl rfl rfl ?_; clear hf fa; intro fa hf
        have hy2 : (ps)[k]? = some (some ⟨bf, 0, none⟩) := hy
        obtain ⟨ab2, aoff2, hat2, hlb2, hel2⟩ := RdS.at hRd hy2
        refine sqv hf (r_ixa (sz := 1) (j := k) (evAt rfl hat2) rfl Try.underlying120 (by kernel_rfl) rfl (by omega) rfl) rfl rfl rfl ?_; clear hf fa; intro fa hf
        refine sqv hf (r_load (v := (.pointer (some ⟨bf, 0, none⟩))) rfl Try.underlying123 rfl (cellsAt_cell (cellsAt_below hel2 hb hlb2) (i := 0) rfl rfl)) rfl rfl rfl ?_; clear hf fa; intro fa hf
        refine sqv hf (r_assign rfl) rfl rfl rfl ?_; clear hf fa; intro fa hf
        refine sqv hf (r_assign rfl) rfl rfl rfl ?_; clear hf fa; intro fa hf
        apply wpList_nil
        (try simp only [Exit.then, Exit.inBlock, ↓reduceIte, Nat.reduceEqDiff])
        refine hK8 _ _ ?_
        refine wp_seq_k (fun K10 hK10 => ?_)
        refine wp_region_lit ?_
        refine sqv hf (r_move rfl) rfl rfl rfl ?_; clear hf fa; intro fa hf
        refine sqv hf (Runs.veq (r_pnnil rfl rfl Try.underlying123) (congrArg Value.bool (show _ = true from (by rfl)))) rfl rfl rfl ?_; clear hf fa; intro fa hf
        refine sqv hf (r_move rfl) rfl rfl rfl ?_; clear hf fa; intro fa hf
        refine sqgd (act := true) (g := 2) (want := true) (ag := true) (c := true) hf (by rfl) (by rfl) rfl (fun _ =>  Runs.does (R := fun vq wq => vq = (.pointer (some ⟨bf, 0, none⟩)) ∧ w1 = wq) (r_move rfl) ⟨rfl, rfl⟩) (fun h => by cases h) rfl ?_; clear hf fa; rintro fa _ _ ⟨rfl, rfl⟩ hf
        change Fr _ _ ((21, (.pointer (some ⟨bf, 0, none⟩))) :: _) at hf
        refine sqgd (act := true) (g := 2) (want := true) (ag := true) (c := true) hf (by rfl) (by rfl) rfl (fun _ =>  Runs.does (R := fun vq wq => vq = (.pointer (some ⟨bf, 0, none⟩)) ∧ w1 = wq) (r_nilCheck rfl) ⟨rfl, rfl⟩) (fun h => by cases h) rfl ?_; clear hf fa; rintro fa _ _ ⟨rfl, rfl⟩ hf
        change Fr _ _ ((22, (.pointer (some ⟨bf, 0, none⟩))) :: _) at hf
        refine sqgd (act := true) (g := 2) (want := true) (ag := true) (c := true) hf (by rfl) (by rfl) rfl (fun _ =>  Runs.does (R := fun vq wq => vq = (.pointer (some ⟨bf, 2, none⟩)) ∧ w1 = wq) (r_fa rfl Try.underlying37 (f := 1) (q := 2) rfl (by kernel_rfl) rfl) ⟨rfl, rfl⟩) (fun h => by cases h) rfl ?_; clear hf fa; rintro fa _ _ ⟨rfl, rfl⟩ hf
        change Fr _ _ ((23, (.pointer (some ⟨bf, 2, none⟩))) :: _) at hf
        refine sqgd (act := true) (g := 2) (want := true) (ag := true) (c := true) hf (by rfl) (by rfl) rfl (fun _ =>  Runs.does (R := fun vq wq => vq = (.int .i64 ((gotL L ((k : Nat) : Int)).2.2.1)) ∧ w1 = wq) (r_load (v := (.int .i64 ((gotL L ((k : Nat) : Int)).2.2.1))) rfl Try.underlying3 rfl (cell_blk hkf rfl)) ⟨rfl, rfl⟩) (fun h => by cases h) rfl ?_; clear hf fa; rintro fa _ _ ⟨rfl, rfl⟩ hf
        change Fr _ _ ((24, (.int .i64 ((gotL L ((k : Nat) : Int)).2.2.1))) :: _) at hf
        refine sqgd (act := true) (g := 2) (want := true) (ag := true) (c := true) hf (by rfl) (by rfl) rfl (fun _ =>  Runs.does (R := fun vq wq => vq = (.int .i64 o) ∧ w1 = wq) (r_move rfl) ⟨rfl, rfl⟩) (fun h => by cases h) rfl ?_; clear hf fa; rintro fa _ _ ⟨rfl, rfl⟩ hf
        change Fr _ _ ((25, (.int .i64 o)) :: _) at hf
        refine sqgd (act := true) (g := 2) (want := true) (ag := true) (c := true) hf (by rfl) (by rfl) rfl (fun _ =>  Runs.does (R := fun vq wq => vq = (.bool (decide (((gotL L ((k : Nat) : Int)).2.2.1) = o))) ∧ w1 = wq) (r_eq rfl rfl) ⟨rfl, rfl⟩) (fun h => by cases h) rfl ?_; clear hf fa; rintro fa _ _ ⟨rfl, rfl⟩ hf
        change Fr _ _ ((26, (.bool (decide (((gotL L ((k : Nat) : Int)).2.2.1) = o)))) :: _) at hf
        refine sqv hf (r_pick (b := true) rfl rfl rfl rfl) rfl rfl rfl ?_; clear hf fa; intro fa hf
        apply wpList_nil
        (try simp only [Exit.then, Exit.inBlock, ↓reduceIte, Nat.reduceEqDiff])
        refine hK10 _ _ ?_
        refine wp_cond_split (t := (decide (((gotL L ((k : Nat) : Int)).2.2.1) = o))) (hf.ev rfl) (fun hqt27_2 => ?_) (fun hqt27_2 => ?_)
        · have hqt27_2b := hqt27_2
          try simp only [decide_eq_true_eq, Bool.and_eq_true, Bool.or_eq_true, Bool.not_eq_true', decide_eq_false_iff_not, ne_eq, Bool.not_eq_true] at hqt27_2
          refine wp_region_lit ?_
          refine sqv hf (r_move rfl) rfl rfl rfl ?_; clear hf fa; intro fa hf
          refine sqv hf (r_move rfl) rfl rfl rfl ?_; clear hf fa; intro fa hf
          refine sqdt hf (d_bslice (z := (.int .i64 (0 : Int))) (sz := 1) (vs := [(0, (.int .i64 ((k : Nat) : Int)))]) (cs := #[(.int .i64 ((k : Nat) : Int))]) rfl Try.underlying33 (by kernel_rfl) rfl (by kernel_rfl)) rfl rfl rfl ?_; clear hf fa; rintro fa _ w2 ⟨b1, rfl, hle1, hk1, he1⟩ hf
          have hBb1 : w.heap.size ≤ b1 := Nat.le_trans hb.size hle1
          have : p < b1 := Nat.lt_of_lt_of_le (blk_lt hkp) hle1
          have : bf < b1 := Nat.lt_of_lt_of_le (blk_lt hkf) hle1
          have hnr1 : (Value.slice roa ((((filF (owC L o) k)).length)) roc).ownBlock ≠ some b1 := fun hq => by have := (Row.lt hro _ hq).2; omega
          have hnl1 : ∀ q, (Value.slice roa ((((filF (owC L o) k)).length)) roc).ownBlock = some q → q < b1 := fun q hq => Nat.lt_of_lt_of_le (Row.lt hro q hq).2 hle1
          replace hkp := blk_ext hkp he1
          replace hkf := blk_ext hkf he1
          replace hro := Row.ext hro he1
          replace hb := hb.trans (Below.mono he1 hb.size)
          have hs1 := Row.rd (by intros; rfl) (Row.of_new (k := 1) (V := (vInt .i64)) (l := [((k : Nat) : Int)]) hk1 (Nat.le_refl _) rfl rfl (Nat.le_of_ble_eq_true rfl))
          refine sqdt hf (d_append (V := (vInt .i64)) (k := 1) (e := 3) (bytes := 8) (z := (.int .i64 (0 : Int))) (news := [((k : Nat) : Int)]) (base := w.heap.size) (by intros; rfl) (by intro x u hu; simp only [vInt, List.mem_singleton] at hu; subst hu; rfl) rfl rfl Try.underlying33 (by kernel_rfl) rfl rfl rfl hro hs1 rfl (fun h => by cases h) (by first | omega | (simp only [List.length_cons, List.length_nil, List.length_append, nums_len]; omega)) (by have := hb.size; omega)) rfl rfl rfl ?_; clear hf fa; rintro fa v w3 ⟨hr1, hg1⟩ hf; obtain ⟨ra1, rc1, rfl, hcrc1, hmrc1⟩ := Row.slice hr1
          replace hkp := blk_row' hkp hg1 (Row.ne_type hro hkp rfl)
          replace hkf := blk_row' hkf hg1 (Row.ne_type hro hkf rfl)
          replace hb := hb.trans (row_below hro hg1 hb.size (by have := hb.size; omega))
          refine sqv hf (r_assign rfl) rfl rfl rfl ?_; clear hf fa; intro fa hf
          apply wpList_nil
          (try simp only [Exit.then, Exit.inBlock, ↓reduceIte, Nat.reduceEqDiff])
          refine hK7 _ _ ?_
          refine wp_region_lit ?_
          refine sqv hf (r_add (C := (((k : Nat) : Int) + (1 : Int))) rfl rfl (by rw [IntKind.wrap_i64]; omega)) rfl rfl rfl ?_; clear hf fa; intro fa hf
          refine sqv hf (r_move rfl) rfl rfl rfl ?_; clear hf fa; intro fa hf
          apply wpList_nil
          (try simp only [Exit.then, Exit.inBlock, ↓reduceIte, Nat.reduceEqDiff])
          have hst := filF_yes (C := (owC L o)) (k := k) (by unfold owC; rw [hlv]; have h := hqt27_2; simpa using h)
          have hbl2 := congrArg List.length hst
          refine hKL1 _ _ _ (by omega) ⟨(k + 1), ra1, rc1, rfl, hf.sub ⟨rfl, rfl, rfl, rfl, (some_int (by first | rfl | omega)), (some_sl (by first | omega | (simp only [List.length_append, List.length_cons, List.length_nil]; omega) | (simp <;> omega)) rfl), trivial⟩, hb, (crowTo hr1 hst), hkp, by omega⟩
        · have hqt27_2b := hqt27_2
          replace hqt27_2 := Bool.eq_false_iff.1 hqt27_2
          try simp only [ne_eq, decide_eq_true_eq, Bool.and_eq_true, Bool.or_eq_true, Bool.not_eq_true', decide_eq_false_iff_not] at hqt27_2
          refine wp_skip ?_
          (try simp only [Exit.then, Exit.inBlock, ↓reduceIte, Nat.reduceEqDiff])
          refine hK7 _ _ ?_
          refine wp_region_lit ?_
          refine sqv hf (r_add (C := (((k : Nat) : Int) + (1 : Int))) rfl rfl (by rw [IntKind.wrap_i64]; omega)) rfl rfl rfl ?_; clear hf fa; intro fa hf
          refine sqv hf (r_move rfl) rfl rfl rfl ?_; clear hf fa; intro fa hf
          apply wpList_nil
          (try simp only [Exit.then, Exit.inBlock, ↓reduceIte, Nat.reduceEqDiff])
          have hst := filF_no (C := (owC L o)) (k := k) (by unfold owC; rw [hlv]; have h := hqt27_2; simpa using h)
          have hbl2 := congrArg List.length hst
          refine hKL1 _ _ _ (by omega) ⟨(k + 1), roa, roc, rfl, hf.sub ⟨rfl, rfl, rfl, rfl, (some_int (by first | rfl | omega)), (some_sl (by first | omega | (simp only [List.length_append, List.length_cons, List.length_nil]; omega) | (simp <;> omega)) rfl), trivial⟩, hb, (crowTo hro hst), hkp, by omega⟩
    · have hqt14_1b := hqt14_1
      replace hqt14_1 := Bool.eq_false_iff.1 hqt14_1
      try simp only [ne_eq, decide_eq_true_eq, Bool.and_eq_true, Bool.or_eq_true, Bool.not_eq_true', decide_eq_false_iff_not] at hqt14_1
      refine wp_exit ?_
      (try simp only [Exit.then, Exit.inBlock, ↓reduceIte, Nat.reduceEqDiff])
      refine hK3 _ _ ?_
      refine wp_seq_k (fun K11 hK11 => ?_)
      refine wp_region_lit ?_
      refine sqv hf (r_move rfl) rfl rfl rfl ?_; clear hf fa; intro fa hf
      refine sqv hf (r_assign rfl) rfl rfl rfl ?_; clear hf fa; intro fa hf
      apply wpList_nil
      (try simp only [Exit.then, Exit.inBlock, ↓reduceIte, Nat.reduceEqDiff])
      refine hK11 _ _ ?_
      refine wp_ret ?_
      (try simp only [Exit.then, Exit.inBlock])
      refine ret1 hf rfl rfl ?_
      have hkk : k = ps.length := by omega
      exact ⟨_, rfl, by rw [← hkk]; exact hro, hb⟩
end Go.Proofs.Ytmcmickgllffoaa
