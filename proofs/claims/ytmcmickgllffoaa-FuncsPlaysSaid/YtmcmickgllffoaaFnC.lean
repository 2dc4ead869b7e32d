/- What is proved here: functions by numbers: Free, Swap, Add. -/
import Derived.Test.YtmcmickgllffoaaFnB
namespace Go.Proofs.Ytmcmickgllffoaa
open Go.RowKit
set_option linter.unusedVariables false
set_option linter.unusedSimpArgs false
theorem blk_ty {w : World} {b c T T2 : Nat} {cs cs2 : Array Value} {fr fr2 : Nat × Nat} (h1 : w.heap[b]? = some (.cells cs T fr)) (h2 : w.heap[c]? = some (.cells cs2 T2 fr2)) (h : (T == T2) = false) : b ≠ c := by
  rintro rfl
  rw [h1] at h2
  injection h2 with e
  injection e with e1 e2 e3
  subst e2
  simp at h
theorem FRel.map {w w' : World} {ps : List (Option Addr)} {L : List (Option MFn)} (h : FRel w ps L) (hm : ∀ (bf : Nat) (cs : Array Value), w.heap[bf]? = some (.cells cs 37 (0, 0)) → w'.heap[bf]? = some (.cells cs 37 (0, 0))) : FRel w' ps L := by
  refine ⟨h.1, fun j q hq => ?_⟩
  have := h.2 j q hq
  cases q with
  | none => exact this
  | some q =>
    obtain ⟨x, hx, bf, e, hc⟩ := this
    exact ⟨x, hx, bf, e, hm _ _ hc⟩
theorem FRel.setNone {w : World} {ps : List (Option Addr)} {L : List (Option MFn)} (h : FRel w ps L) (i : Nat) : FRel w (ps.set i none) (L.set i none) := by
  refine ⟨by rw [List.length_set, List.length_set]; exact h.1, fun j q hq => ?_⟩
  rw [List.getElem?_set] at hq
  by_cases e : i = j
  · rw [if_pos e] at hq
    split at hq
    · injection hq with hq
      subst hq
      show (L.set i none)[j]? = some none
      rw [List.getElem?_set, if_pos e, if_pos (by have := h.1; omega)]
    · cases hq
  · rw [if_neg e] at hq
    have := h.2 j q hq
    cases q with
    | none => show (L.set i none)[j]? = some none; rw [List.getElem?_set, if_neg e]; exact this
    | some q => obtain ⟨x, hx, hc⟩ := this; exact ⟨x, by rw [List.getElem?_set, if_neg e]; exact hx, hc⟩
def frL (L : List (Option MFn)) (i : Int) : List (Option MFn) := if liveL L i = true then L.set i.toNat none else L
def frS (L : List (Option MFn)) (Sl_ : List Int) (i : Int) : List Int := if liveL L i = true then Sl_.set i.toNat (-1) else Sl_

set_option maxHeartbeats 1000000 in
set_option maxRecDepth 100000 in
theorem free_raw (p : Nat) (a b : Option Addr) (c d : Nat) (ps : List (Option Addr)) (Sl_ : List Int) (w0 w : World) (hb : Below w0.heap.size w0 w) (hp : w.heap[p]? = some (.cells #[(.slice a ps.length c), (.slice b Sl_.length d)] 122 (0, 0))) (hR : Row 1 vPF 123 w0.heap.size w (.slice a ps.length c) ps) (hRS : Row 1 (vInt .i64) 3 w0.heap.size w (.slice b Sl_.length d) Sl_) (hBp : w0.heap.size ≤ p) (hps : ps.length ≤ 1000) (hln : ps.length = Sl_.length) (L : List (Option MFn)) (hF : FRel w ps L) (i : Int) (hF0 : liveB ps i = liveL L i) : Calls Try.prog 15 #[(.pointer (some ⟨p, 0, none⟩)), (.int .i64 i)] w fun e w' => e = .returned (.int .i64 (if liveL L i = true then 0 else 47)) ∧ FSt w0.heap.size w' p (frL L i) (frS L Sl_ i) ∧ Below w0.heap.size w0 w' := by
  have hcR := Row.caps hR
  have hcS := Row.caps hRS
  have hpl := (Array.getElem?_eq_some_iff.1 hp).1
  refine sx_enter (L := [(0, (.pointer (some ⟨p, 0, none⟩))), (1, (.int .i64 i))]) Try.func15 rfl rfl rfl rfl (fun fa hf => ?_)
  refine wp_seq_k (fun K1 hK1 => ?_)
  refine wp_region_lit ?_
  refine sqv hf (r_assign rfl) rfl rfl rfl ?_; clear hf fa; intro fa hf
  apply wpList_nil
  (try simp only [Exit.then, Exit.inBlock, ↓reduceIte, Nat.reduceEqDiff])
  refine hK1 _ _ ?_
  refine wp_seq_k (fun K2 hK2 => ?_)
  refine wp_seq_k (fun K3 hK3 => ?_)
  refine wp_region_lit ?_
  refine sqv hf (r_move rfl) rfl rfl rfl ?_; clear hf fa; intro fa hf
  refine sqv hf (r_move rfl) rfl rfl rfl ?_; clear hf fa; intro fa hf
  refine sqdt hf (d_callB (vs := [(.pointer (some ⟨p, 0, none⟩)), (.int .i64 i)]) rfl Try.func66 (by kernel_rfl) (by kernel_rfl) (live_any w0.heap.size p a b c d ps Sl_ _ hp hR hRS hBp hps hln i)) rfl rfl rfl ?_; clear hf fa; rintro fa _ w1 ⟨rfl, he1⟩ hf
  replace hp := blk_ext hp he1
  replace hR := Row.ext hR he1
  replace hRS := Row.ext hRS he1
  replace hF := FRel.map hF (fun bf cs hbf => blk_ext hbf he1)
  replace hb := hb.trans (Below.mono he1 hb.size)
  refine sqv hf (r_not rfl) rfl rfl rfl ?_; clear hf fa; intro fa hf
  apply wpList_nil
  (try simp only [Exit.then, Exit.inBlock, ↓reduceIte, Nat.reduceEqDiff])
  refine hK3 _ _ ?_
  refine wp_cond_split (t := (!(liveB ps i))) (hf.ev rfl) (fun hqt8_1 => ?_) (fun hqt8_1 => ?_)
  · have hqt8_1b := hqt8_1
    try simp only [decide_eq_true_eq, Bool.and_eq_true, Bool.or_eq_true, Bool.not_eq_true', decide_eq_false_iff_not, ne_eq, Bool.not_eq_true] at hqt8_1
    refine wp_seq_k (fun K4 hK4 => ?_)
    refine wp_region_lit ?_
    refine sqv hf (r_assign rfl) rfl rfl rfl ?_; clear hf fa; intro fa hf
    apply wpList_nil
    (try simp only [Exit.then, Exit.inBlock, ↓reduceIte, Nat.reduceEqDiff])
    refine hK4 _ _ ?_
    refine wp_ret ?_
    (try simp only [Exit.then, Exit.inBlock])
    refine ret1 hf rfl rfl ?_
    have hll : liveL L i = false := by rw [← hF0]; exact (by have h := hqt8_1; simpa using h)
    have h1 : frL L i = L := by unfold frL; rw [if_neg (by rw [hll]; decide)]
    have h2 : frS L Sl_ i = Sl_ := by unfold frS; rw [if_neg (by rw [hll]; decide)]
    rw [h1, h2, hll]
    exact ⟨rfl, ⟨_, _, c, d, ps, hp, hR, hRS, hBp, hps, hln, hF⟩, hb⟩
  · have hqt8_1b := hqt8_1
    replace hqt8_1 := Bool.eq_false_iff.1 hqt8_1
    try simp only [ne_eq, decide_eq_true_eq, Bool.and_eq_true, Bool.or_eq_true, Bool.not_eq_true', decide_eq_false_iff_not] at hqt8_1
    refine wp_skip ?_
    (try simp only [Exit.then, Exit.inBlock, ↓reduceIte, Nat.reduceEqDiff])
    refine hK2 _ _ ?_
    refine wp_seq_k (fun K5 hK5 => ?_)
    obtain ⟨hi0, hi1, qf, hqf⟩ := liveB_in (ps := ps) (i := i) (by have h := hqt8_1; simpa using h)
    skip
    refine wp_region_lit ?_
    refine sqv hf (r_move rfl) rfl rfl rfl ?_; clear hf fa; intro fa hf
    refine sqv hf (r_nilCheck rfl) rfl rfl rfl ?_; clear hf fa; intro fa hf
    refine sqv hf (r_fa rfl Try.underlying122 (f := 0) (q := 0) rfl (by kernel_rfl) rfl) rfl rfl rfl ?_; clear hf fa; intro fa hf
    refine sqv hf (r_load (v := (.slice a ps.length c)) rfl Try.underlying120 rfl (cell_blk hp rfl)) rfl rfl rfl ?_; clear hf fa; intro fa hf
    refine sqv hf (r_move rfl) rfl rfl rfl ?_; clear hf fa; intro fa hf
    obtain ⟨rb1, rfl, hbbrb1, hlbrb1⟩ := Row.some hR (by first | omega | (simp only [Sl.list_length, List.length_set, List.length_take, List.length_append, List.length_replicate, List.length_cons, List.length_nil, List.length_map, nums_len]; omega))
    have hy1 := getD_at (l := ps) (j := (i).toNat) none (by first | omega | (simp only [Sl.list_length, List.length_set, List.length_take, List.length_append, List.length_replicate, List.length_cons, List.length_nil, List.length_map, nums_len]; omega))
    have hel1 := RdS.at (Row.rd (by intros; rfl) hR) hy1
    obtain ⟨_, _, hab, hlr1, hel1⟩ := hel1
    cases hab
    refine sqv hf (r_ixa (sz := 1) (j := (i).toNat) rfl rfl Try.underlying120 (by kernel_rfl) (by omega) (by omega) rfl) rfl rfl rfl ?_; clear hf fa; intro fa hf
    refine sqn hf (d_rowset (u := none) (j := (i).toNat) (by intros; rfl) (by exact onePF) rfl rfl (by first | rfl | (simp; done) | (simp; omega)) (by kernel_rfl) hR (by first | omega | (simp only [Sl.list_length, List.length_set, List.length_take, List.length_append, List.length_replicate, List.length_cons, List.length_nil, List.length_map, nums_len]; omega)) (by omega)) rfl rfl ?_; clear hf fa; rintro fa _ w2 ⟨hr1, hg1⟩ hf
    replace hp := blk_grown hp hg1 (fun e => Row.ne_type hR hp rfl (show some rb1 = some p by rw [e]))
    replace hRS := Row.grown hRS hg1 (fun e => Row.ne_row hRS hR rfl rb1 e rfl)
    replace hF := FRel.map hF (fun bf cs hbf => blk_grown hbf hg1 (fun e => Row.ne_type hR hbf rfl (show some rb1 = some bf by rw [e])))
    replace hb := hb.trans (grown_below hg1 hb.size (by first | omega | (have := Row.lt hR _ rfl; omega)))
    apply wpList_nil
    (try simp only [Exit.then, Exit.inBlock, ↓reduceIte, Nat.reduceEqDiff])
    refine hK5 _ _ ?_
    refine wp_seq_k (fun K6 hK6 => ?_)
    refine wp_region_lit ?_
    refine sqv hf (r_move rfl) rfl rfl rfl ?_; clear hf fa; intro fa hf
    refine sqv hf (r_nilCheck rfl) rfl rfl rfl ?_; clear hf fa; intro fa hf
    refine sqv hf (r_fa rfl Try.underlying122 (f := 1) (q := 1) rfl (by kernel_rfl) rfl) rfl rfl rfl ?_; clear hf fa; intro fa hf
    refine sqv hf (r_load (v := (.slice b Sl_.length d)) rfl Try.underlying33 rfl (cell_blk hp rfl)) rfl rfl rfl ?_; clear hf fa; intro fa hf
    refine sqv hf (r_move rfl) rfl rfl rfl ?_; clear hf fa; intro fa hf
    obtain ⟨rb2, rfl, hbbrb2, hlbrb2⟩ := Row.some hRS (by first | omega | (simp only [Sl.list_length, List.length_set, List.length_take, List.length_append, List.length_replicate, List.length_cons, List.length_nil, List.length_map, nums_len]; omega))
    have hy2 := getD_at (l := Sl_) (j := (i).toNat) (0 : Int) (by first | omega | (simp only [Sl.list_length, List.length_set, List.length_take, List.length_append, List.length_replicate, List.length_cons, List.length_nil, List.length_map, nums_len]; omega))
    have hel2 := RdS.at (Row.rd (by intros; rfl) hRS) hy2
    obtain ⟨_, _, hab, hlr2, hel2⟩ := hel2
    cases hab
    refine sqv hf (r_ixa (sz := 1) (j := (i).toNat) rfl rfl Try.underlying33 (by kernel_rfl) (by omega) (by omega) rfl) rfl rfl rfl ?_; clear hf fa; intro fa hf
    refine sqn hf (d_rowset (u := (-1 : Int)) (j := (i).toNat) (by intros; rfl) (by intro x u hu; simp only [vInt, List.mem_singleton] at hu; subst hu; rfl) rfl rfl (by first | rfl | (simp; done) | (simp; omega)) (by kernel_rfl) hRS (by first | omega | (simp only [Sl.list_length, List.length_set, List.length_take, List.length_append, List.length_replicate, List.length_cons, List.length_nil, List.length_map, nums_len]; omega)) (by omega)) rfl rfl ?_; clear hf fa; rintro fa _ w3 ⟨hr2, hg2⟩ hf
    replace hp := blk_grown hp hg2 (fun e => Row.ne_type hRS hp rfl (show some rb2 = some p by rw [e]))
    replace hr1 := Row.grown hr1 hg2 (fun e => Row.ne_row hr1 hRS rfl rb2 e rfl)
    replace hF := FRel.map hF (fun bf cs hbf => blk_grown hbf hg2 (fun e => Row.ne_type hRS hbf rfl (show some rb2 = some bf by rw [e])))
    replace hb := hb.trans (grown_below hg2 hb.size (by first | omega | (have := Row.lt hRS _ rfl; omega)))
    apply wpList_nil
    (try simp only [Exit.then, Exit.inBlock, ↓reduceIte, Nat.reduceEqDiff])
    refine hK6 _ _ ?_
    refine wp_seq_k (fun K7 hK7 => ?_)
    refine wp_region_lit ?_
    refine sqv hf (r_assign rfl) rfl rfl rfl ?_; clear hf fa; intro fa hf
    apply wpList_nil
    (try simp only [Exit.then, Exit.inBlock, ↓reduceIte, Nat.reduceEqDiff])
    refine hK7 _ _ ?_
    refine wp_ret ?_
    (try simp only [Exit.then, Exit.inBlock])
    refine ret1 hf rfl rfl ?_
    have hll : liveL L i = true := by rw [← hF0]; exact (by have h := hqt8_1; simpa using h)
    have h1 : frL L i = L.set i.toNat none := by unfold frL; rw [if_pos (by rw [hll])]
    have h2 : frS L Sl_ i = Sl_.set i.toNat (-1) := by unfold frS; rw [if_pos (by rw [hll])]
    rw [h1, h2, hll]
    have hp2 := hp
    have hzR := hr1
    have hzS := hr2
    exact ⟨rfl, ⟨_, _, c, d, ps.set i.toNat none, by rw [List.length_set, List.length_set]; exact hp2, hzR.relen, hzS.relen, hBp, by rw [List.length_set]; exact hps, by rw [List.length_set, List.length_set]; exact hln, hF.setNone _⟩, hb⟩

def swR (L : List (Option MFn)) (Sl_ : List Int) (i j : Int) : Int × Int × List Int := if liveL L i = true ∧ liveL L j = true then (if (gotL L i).1 = (gotL L j).1 ∧ (gotL L i).2.1 = (gotL L j).2.1 then (Sl_.getD i.toNat 0, 0, Sl_.set i.toNat j) else (0, 66, Sl_)) else (0, 47, Sl_)

set_option maxHeartbeats 1000000 in
set_option maxRecDepth 100000 in
theorem swap_raw (p : Nat) (a b : Option Addr) (c d : Nat) (ps : List (Option Addr)) (Sl_ : List Int) (w0 w : World) (hb : Below w0.heap.size w0 w) (hp : w.heap[p]? = some (.cells #[(.slice a ps.length c), (.slice b Sl_.length d)] 122 (0, 0))) (hR : Row 1 vPF 123 w0.heap.size w (.slice a ps.length c) ps) (hRS : Row 1 (vInt .i64) 3 w0.heap.size w (.slice b Sl_.length d) Sl_) (hBp : w0.heap.size ≤ p) (hps : ps.length ≤ 1000) (hln : ps.length = Sl_.length) (L : List (Option MFn)) (hF : FRel w ps L) (i j : Int) (hF0 : ∀ i, liveB ps i = liveL L i) : Calls Try.prog 14 #[(.pointer (some ⟨p, 0, none⟩)), (.int .i64 i), (.int .i64 j)] w fun e w' => e = .returned (.tuple #[.int .i64 (swR L Sl_ i j).1, .int .i64 (swR L Sl_ i j).2.1]) ∧ FSt w0.heap.size w' p L (swR L Sl_ i j).2.2 ∧ Below w0.heap.size w0 w' := by
  have hcR := Row.caps hR
  have hcS := Row.caps hRS
  have hpl := (Array.getElem?_eq_some_iff.1 hp).1
  refine sx_enter (L := [(0, (.pointer (some ⟨p, 0, none⟩))), (1, (.int .i64 i)), (2, (.int .i64 j))]) Try.func14 rfl rfl rfl rfl (fun fa hf => ?_)
  refine wp_seq_k (fun K1 hK1 => ?_)
  refine wp_region_lit ?_
  refine sqv hf (r_assign rfl) rfl rfl rfl ?_; clear hf fa; intro fa hf
  refine sqv hf (r_assign rfl) rfl rfl rfl ?_; clear hf fa; intro fa hf
  apply wpList_nil
  (try simp only [Exit.then, Exit.inBlock, ↓reduceIte, Nat.reduceEqDiff])
  refine hK1 _ _ ?_
  refine wp_seq_k (fun K2 hK2 => ?_)
  refine wp_seq_k (fun K3 hK3 => ?_)
  refine wp_region_lit ?_
  refine sqv hf (r_move rfl) rfl rfl rfl ?_; clear hf fa; intro fa hf
  refine sqv hf (r_move rfl) rfl rfl rfl ?_; clear hf fa; intro fa hf
  refine sqdt hf (d_callB (vs := [(.pointer (some ⟨p, 0, none⟩)), (.int .i64 i)]) rfl Try.func66 (by kernel_rfl) (by kernel_rfl) (live_any w0.heap.size p a b c d ps Sl_ _ hp hR hRS hBp hps hln i)) rfl rfl rfl ?_; clear hf fa; rintro fa _ w1 ⟨rfl, he1⟩ hf
  replace hp := blk_ext hp he1
  replace hR := Row.ext hR he1
  replace hRS := Row.ext hRS he1
  replace hF := FRel.map hF (fun bf cs hbf => blk_ext hbf he1)
  replace hb := hb.trans (Below.mono he1 hb.size)
  refine sqv hf (r_not rfl) rfl rfl rfl ?_; clear hf fa; intro fa hf
  refine sqv hf (r_move rfl) rfl rfl rfl ?_; clear hf fa; intro fa hf
  refine sqgF (act := (!(!(liveB ps i)))) (ag := true) (c := (!(liveB ps i))) (v := (.pointer (some ⟨p, 0, none⟩))) hf rfl rfl rfl (fun hact => (r_move rfl)) rfl rfl ?_; clear hf fa; intro fa hf
  refine sqgF (act := (!(!(liveB ps i)))) (ag := true) (c := (!(liveB ps i))) (v := (.int .i64 j)) hf rfl rfl rfl (fun hact => (r_move rfl)) rfl rfl ?_; clear hf fa; intro fa hf
  refine sqgd (R := fun vq wq => vq = gb (!(!(liveB ps i))) (.bool (liveB ps j)) ∧ Below w1.heap.size w1 wq) (act := (!(!(liveB ps i)))) (g := 4) (want := false) (ag := true) (c := (!(liveB ps i))) hf (by rfl) (by rfl) (act_F _ _) (fun hact => (d_callB (vs := [(.pointer (some ⟨p, 0, none⟩)), (.int .i64 j)]) (cons_ev (gb_ev hact rfl) (cons_ev (gb_ev hact rfl) rfl)) Try.func66 (by kernel_rfl) (by kernel_rfl) (live_any w0.heap.size p a b c d ps Sl_ _ hp hR hRS hBp hps hln j)).mono (fun _ _ h => ⟨by rw [h.1, hact]; rfl, h.2⟩)) (fun h => ⟨by rw [h]; rfl, Below.refl _ _⟩) rfl ?_; clear hf fa; rintro fa _ w2 ⟨rfl, he2⟩ hf
  replace hp := blk_ext hp he2
  replace hR := Row.ext hR he2
  replace hRS := Row.ext hRS he2
  replace hF := FRel.map hF (fun bf cs hbf => blk_ext hbf he2)
  replace hb := hb.trans (Below.mono he2 hb.size)
  change Fr _ _ ((16, (gb (!(!(liveB ps i))) (.bool (liveB ps j)))) :: _) at hf
  refine sqgF (act := (!(!(liveB ps i)))) (ag := true) (c := (!(liveB ps i))) (v := (.bool (!(liveB ps j)))) hf rfl rfl rfl (fun hact => (r_not (gb_ev hact rfl))) rfl rfl ?_; clear hf fa; intro fa hf
  refine sqv hf (r_pickO (b := (!(liveB ps i))) (e := (!(liveB ps j))) rfl rfl rfl) rfl rfl rfl ?_; clear hf fa; intro fa hf
  apply wpList_nil
  (try simp only [Exit.then, Exit.inBlock, ↓reduceIte, Nat.reduceEqDiff])
  refine hK3 _ _ ?_
  refine wp_cond_split (t := ((!(liveB ps i)) || (!(liveB ps j)))) (hf.ev rfl) (fun hqt18_1 => ?_) (fun hqt18_1 => ?_)
  · have hqt18_1b := hqt18_1
    try simp only [decide_eq_true_eq, Bool.and_eq_true, Bool.or_eq_true, Bool.not_eq_true', decide_eq_false_iff_not, ne_eq, Bool.not_eq_true] at hqt18_1
    refine wp_seq_k (fun K4 hK4 => ?_)
    refine wp_region_lit ?_
    refine sqv hf (r_assign rfl) rfl rfl rfl ?_; clear hf fa; intro fa hf
    refine sqv hf (r_assign rfl) rfl rfl rfl ?_; clear hf fa; intro fa hf
    apply wpList_nil
    (try simp only [Exit.then, Exit.inBlock, ↓reduceIte, Nat.reduceEqDiff])
    refine hK4 _ _ ?_
    refine wp_ret ?_
    (try simp only [Exit.then, Exit.inBlock])
    refine ret2 hf rfl rfl rfl ?_
    have hn : ¬ (liveL L i = true ∧ liveL L j = true) := by rw [← hF0, ← hF0]; have h := hqt18_1; revert h; cases liveB ps i <;> cases liveB ps j <;> simp
    have hD : swR L Sl_ i j = (0, 47, Sl_) := by unfold swR; rw [if_neg hn]
    rw [hD]; exact ⟨rfl, ⟨_, _, c, d, ps, hp, hR, hRS, hBp, hps, hln, hF⟩, hb⟩
  · have hqt18_1b := hqt18_1
    replace hqt18_1 := Bool.eq_false_iff.1 hqt18_1
    try simp only [ne_eq, decide_eq_true_eq, Bool.and_eq_true, Bool.or_eq_true, Bool.not_eq_true', decide_eq_false_iff_not] at hqt18_1
    refine wp_skip ?_
    (try simp only [Exit.then, Exit.inBlock, ↓reduceIte, Nat.reduceEqDiff])
    refine hK2 _ _ ?_
    refine wp_seq_k (fun K5 hK5 => ?_)
    refine wp_seq_k (fun K6 hK6 => ?_)
    have hlb : liveB ps i = true ∧ liveB ps j = true := by have h := hqt18_1; revert h; cases liveB ps i <;> cases liveB ps j <;> simp
    obtain ⟨bf1, hq1, x1, hx1, hbf1⟩ := FRel.get hF hlb.1
    obtain ⟨bf2, hq2, x2, hx2, hbf2⟩ := FRel.get hF hlb.2
    obtain ⟨hi0, hi1, _⟩ := liveB_in hlb.1
    obtain ⟨hj0, hj1, _⟩ := liveB_in hlb.2
    have hgo1 : gotL L i = x1 := by unfold gotL; rw [if_pos (by rw [← hF0]; exact hlb.1), List.getD_eq_getElem?_getD, hx1]; rfl
    have hgo2 : gotL L j = x2 := by unfold gotL; rw [if_pos (by rw [← hF0]; exact hlb.2), List.getD_eq_getElem?_getD, hx2]; rfl
    obtain ⟨rbx, rfl, hbbx, hlbx⟩ := Row.some hR (by omega)
    skip
    have hy1 : (ps)[(i).toNat]? = some (some ⟨bf1, 0, none⟩) := hq1
    have hel1 := RdS.at (Row.rd (by intros; rfl) hR) hy1
    obtain ⟨_, _, hab, hlr1, hel1⟩ := hel1
    cases hab
    have hy2 : (ps)[(j).toNat]? = some (some ⟨bf2, 0, none⟩) := hq2
    have hel2 := RdS.at (Row.rd (by intros; rfl) hR) hy2
    obtain ⟨_, _, hab, hlr2, hel2⟩ := hel2
    cases hab
    refine wp_region_un (fun wq => Below w2.heap.size w2 wq) (fun w w' => Below w.heap.size w w')
      (fun V => [(fun x _ => x = (.pointer (some ⟨p, 0, none⟩))), (fun x _ => x = (.pointer (some ⟨p, 0, none⟩))), (fun x _ => x = (.pointer (some ⟨p, 0, none⟩))), (fun x _ => x = (.slice (some ⟨rbx, 0, none⟩) ps.length c)), (fun x _ => x = (.int .i64 i)), (fun x _ => x = (.pointer (some ⟨rbx, (0 + (i).toNat * 1), none⟩))), (fun x _ => x = (.pointer (some ⟨bf1, 0, none⟩))), (fun x _ => x = (.pointer (some ⟨bf1, 0, none⟩))), (fun x _ => x = (.pointer (some ⟨bf1, 0, none⟩))), (fun x _ => x = (.agg #[(.string x1.1), (.string x1.2.1)])), (fun x _ => x = (.pointer (some ⟨p, 0, none⟩))), (fun x _ => x = (.pointer (some ⟨p, 0, none⟩))), (fun x _ => x = (.pointer (some ⟨p, 0, none⟩))), (fun x _ => x = (.slice (some ⟨rbx, 0, none⟩) ps.length c)), (fun x _ => x = (.int .i64 j)), (fun x _ => x = (.pointer (some ⟨rbx, (0 + (j).toNat * 1), none⟩))), (fun x _ => x = (.pointer (some ⟨bf2, 0, none⟩))), (fun x _ => x = (.pointer (some ⟨bf2, 0, none⟩))), (fun x _ => x = (.pointer (some ⟨bf2, 0, none⟩))), (fun x _ => x = (.agg #[(.string x2.1), (.string x2.2.1)])), (fun x _ => x = (.bool (!((decide (x1.1 = x2.1)) && (decide (x1.2.1 = x2.2.1))))))])
      []
      [[], [0], [1], [2], [], [3, 4], [5], [6], [7], [8], [], [10], [11], [12], [], [13, 14], [15], [16], [17], [18], [9, 19]]
      hf (by kernel_rfl) (by kernel_rfl) (fun _ => rfl) ((Below.refl _ _).drew) (fun a b h1 h2 => h1.trans (h2.mono h1.size)) (fun _ _ h => h.size) (fun V => ⟨kept_eq, kept_eq, kept_eq, kept_eq, kept_eq, kept_eq, kept_eq, kept_eq, kept_eq, kept_eq, kept_eq, kept_eq, kept_eq, kept_eq, kept_eq, kept_eq, kept_eq, kept_eq, kept_eq, kept_eq, kept_eq, trivial⟩) (fun _ _ _ _ _ => rfl) ?_ ?_
    · skip
      intro V
      refine ⟨fun wu0 hC hd => ?_, ?_⟩
      · clear hd
        replace hb := hb.trans (hC.mono hb.size)
        replace hp := blk_ext hp hC
        replace hbf1 := blk_ext hbf1 hC
        replace hbf2 := blk_ext hbf2 hC
        replace hR := Row.ext hR hC
        replace hRS := Row.ext hRS hC
        exact Runs.does (r_move rfl) ⟨Below.refl _ _, rfl, nofr rfl⟩
      refine ⟨fun wu1 hC hd => ?_, ?_⟩
      · obtain ⟨h0, _⟩ := hd
        skip
        replace h0 : V 0 = (.pointer (some ⟨p, 0, none⟩)) := h0
        replace hb := hb.trans (hC.mono hb.size)
        replace hp := blk_ext hp hC
        replace hbf1 := blk_ext hbf1 hC
        replace hbf2 := blk_ext hbf2 hC
        replace hR := Row.ext hR hC
        replace hRS := Row.ext hRS hC
        exact Runs.does (r_nilCheck (congrArg some h0)) ⟨Below.refl _ _, rfl, nofr rfl⟩
      refine ⟨fun wu2 hC hd => ?_, ?_⟩
      · obtain ⟨h1, _⟩ := hd
        skip
        replace h1 : V 1 = (.pointer (some ⟨p, 0, none⟩)) := h1
        replace hb := hb.trans (hC.mono hb.size)
        replace hp := blk_ext hp hC
        replace hbf1 := blk_ext hbf1 hC
        replace hbf2 := blk_ext hbf2 hC
        replace hR := Row.ext hR hC
        replace hRS := Row.ext hRS hC
        exact Runs.does (r_fa (congrArg some h1) Try.underlying122 (f := 0) (q := 0) rfl (by kernel_rfl) rfl) ⟨Below.refl _ _, rfl, nofr rfl⟩
      refine ⟨fun wu3 hC hd => ?_, ?_⟩
      · obtain ⟨h2, _⟩ := hd
        skip
        replace h2 : V 2 = (.pointer (some ⟨p, 0, none⟩)) := h2
        replace hb := hb.trans (hC.mono hb.size)
        replace hp := blk_ext hp hC
        replace hbf1 := blk_ext hbf1 hC
        replace hbf2 := blk_ext hbf2 hC
        replace hR := Row.ext hR hC
        replace hRS := Row.ext hRS hC
        exact Runs.does (r_load (v := (.slice (some ⟨rbx, 0, none⟩) ps.length c)) (congrArg some h2) Try.underlying120 rfl (cell_blk hp rfl)) ⟨Below.refl _ _, rfl, nofr rfl⟩
      refine ⟨fun wu4 hC hd => ?_, ?_⟩
      · clear hd
        replace hb := hb.trans (hC.mono hb.size)
        replace hp := blk_ext hp hC
        replace hbf1 := blk_ext hbf1 hC
        replace hbf2 := blk_ext hbf2 hC
        replace hR := Row.ext hR hC
        replace hRS := Row.ext hRS hC
        exact Runs.does (r_move rfl) ⟨Below.refl _ _, rfl, nofr rfl⟩
      refine ⟨fun wu5 hC hd => ?_, ?_⟩
      · obtain ⟨h3, h4, _⟩ := hd
        skip
        skip
        replace h3 : V 3 = (.slice (some ⟨rbx, 0, none⟩) ps.length c) := h3
        replace h4 : V 4 = (.int .i64 i) := h4
        replace hb := hb.trans (hC.mono hb.size)
        replace hp := blk_ext hp hC
        replace hbf1 := blk_ext hbf1 hC
        replace hbf2 := blk_ext hbf2 hC
        replace hR := Row.ext hR hC
        replace hRS := Row.ext hRS hC
        exact Runs.does (r_ixa (sz := 1) (j := (i).toNat) (congrArg some h3) (congrArg some h4) Try.underlying120 (by kernel_rfl) (by omega) (by omega) rfl) ⟨Below.refl _ _, rfl, nofr rfl⟩
      refine ⟨fun wu6 hC hd => ?_, ?_⟩
      · obtain ⟨h5, _⟩ := hd
        skip
        replace h5 : V 5 = (.pointer (some ⟨rbx, (0 + (i).toNat * 1), none⟩)) := h5
        replace hb := hb.trans (hC.mono hb.size)
        replace hp := blk_ext hp hC
        replace hbf1 := blk_ext hbf1 hC
        replace hbf2 := blk_ext hbf2 hC
        replace hR := Row.ext hR hC
        replace hRS := Row.ext hRS hC
        exact Runs.does (r_load (v := (.pointer (some ⟨bf1, 0, none⟩))) (congrArg some h5) Try.underlying123 rfl (cellsAt_cell (cellsAt_below hel1 hC hlr1) (i := 0) rfl rfl)) ⟨Below.refl _ _, rfl, nofr rfl⟩
      refine ⟨fun wu7 hC hd => ?_, ?_⟩
      · obtain ⟨h6, _⟩ := hd
        skip
        replace h6 : V 6 = (.pointer (some ⟨bf1, 0, none⟩)) := h6
        replace hb := hb.trans (hC.mono hb.size)
        replace hp := blk_ext hp hC
        replace hbf1 := blk_ext hbf1 hC
        replace hbf2 := blk_ext hbf2 hC
        replace hR := Row.ext hR hC
        replace hRS := Row.ext hRS hC
        exact Runs.does (r_nilCheck (congrArg some h6)) ⟨Below.refl _ _, rfl, nofr rfl⟩
      refine ⟨fun wu8 hC hd => ?_, ?_⟩
      · obtain ⟨h7, _⟩ := hd
        skip
        replace h7 : V 7 = (.pointer (some ⟨bf1, 0, none⟩)) := h7
        replace hb := hb.trans (hC.mono hb.size)
        replace hp := blk_ext hp hC
        replace hbf1 := blk_ext hbf1 hC
        replace hbf2 := blk_ext hbf2 hC
        replace hR := Row.ext hR hC
        replace hRS := Row.ext hRS hC
        exact Runs.does (r_fa (congrArg some h7) Try.underlying37 (f := 0) (q := 0) rfl (by kernel_rfl) rfl) ⟨Below.refl _ _, rfl, nofr rfl⟩
      refine ⟨fun wu9 hC hd => ?_, ?_⟩
      · obtain ⟨h8, _⟩ := hd
        skip
        replace h8 : V 8 = (.pointer (some ⟨bf1, 0, none⟩)) := h8
        replace hb := hb.trans (hC.mono hb.size)
        replace hp := blk_ext hp hC
        replace hbf1 := blk_ext hbf1 hC
        replace hbf2 := blk_ext hbf2 hC
        replace hR := Row.ext hR hC
        replace hRS := Row.ext hRS hC
        exact Runs.does (r_loadA (cs := [(.string x1.1), (.string x1.2.1)]) (congrArg some h8) Try.underlying31 rfl (by kernel_rfl) (cellsAt_part (d := 0) (n := 2) (cellsAt_blk hbf1) rfl rfl)) ⟨Below.refl _ _, rfl, nofr rfl⟩
      refine ⟨fun wu10 hC hd => ?_, ?_⟩
      · clear hd
        replace hb := hb.trans (hC.mono hb.size)
        replace hp := blk_ext hp hC
        replace hbf1 := blk_ext hbf1 hC
        replace hbf2 := blk_ext hbf2 hC
        replace hR := Row.ext hR hC
        replace hRS := Row.ext hRS hC
        exact Runs.does (r_move rfl) ⟨Below.refl _ _, rfl, nofr rfl⟩
      refine ⟨fun wu11 hC hd => ?_, ?_⟩
      · obtain ⟨h10, _⟩ := hd
        skip
        replace h10 : V 10 = (.pointer (some ⟨p, 0, none⟩)) := h10
        replace hb := hb.trans (hC.mono hb.size)
        replace hp := blk_ext hp hC
        replace hbf1 := blk_ext hbf1 hC
        replace hbf2 := blk_ext hbf2 hC
        replace hR := Row.ext hR hC
        replace hRS := Row.ext hRS hC
        exact Runs.does (r_nilCheck (congrArg some h10)) ⟨Below.refl _ _, rfl, nofr rfl⟩
      refine ⟨fun wu12 hC hd => ?_, ?_⟩
      · obtain ⟨h11, _⟩ := hd
        skip
        replace h11 : V 11 = (.pointer (some ⟨p, 0, none⟩)) := h11
        replace hb := hb.trans (hC.mono hb.size)
        replace hp := blk_ext hp hC
        replace hbf1 := blk_ext hbf1 hC
        replace hbf2 := blk_ext hbf2 hC
        replace hR := Row.ext hR hC
        replace hRS := Row.ext hRS hC
        exact Runs.does (r_fa (congrArg some h11) Try.underlying122 (f := 0) (q := 0) rfl (by kernel_rfl) rfl) ⟨Below.refl _ _, rfl, nofr rfl⟩
      refine ⟨fun wu13 hC hd => ?_, ?_⟩
      · obtain ⟨h12, _⟩ := hd
        skip
        replace h12 : V 12 = (.pointer (some ⟨p, 0, none⟩)) := h12
        replace hb := hb.trans (hC.mono hb.size)
        replace hp := blk_ext hp hC
        replace hbf1 := blk_ext hbf1 hC
        replace hbf2 := blk_ext hbf2 hC
        replace hR := Row.ext hR hC
        replace hRS := Row.ext hRS hC
        exact Runs.does (r_load (v := (.slice (some ⟨rbx, 0, none⟩) ps.length c)) (congrArg some h12) Try.underlying120 rfl (cell_blk hp rfl)) ⟨Below.refl _ _, rfl, nofr rfl⟩
      refine ⟨fun wu14 hC hd => ?_, ?_⟩
      · clear hd
        replace hb := hb.trans (hC.mono hb.size)
        replace hp := blk_ext hp hC
        replace hbf1 := blk_ext hbf1 hC
        replace hbf2 := blk_ext hbf2 hC
        replace hR := Row.ext hR hC
        replace hRS := Row.ext hRS hC
        exact Runs.does (r_move rfl) ⟨Below.refl _ _, rfl, nofr rfl⟩
      refine ⟨fun wu15 hC hd => ?_, ?_⟩
      · obtain ⟨h13, h14, _⟩ := hd
        skip
        skip
        replace h13 : V 13 = (.slice (some ⟨rbx, 0, none⟩) ps.length c) := h13
        replace h14 : V 14 = (.int .i64 j) := h14
        replace hb := hb.trans (hC.mono hb.size)
        replace hp := blk_ext hp hC
        replace hbf1 := blk_ext hbf1 hC
        replace hbf2 := blk_ext hbf2 hC
        replace hR := Row.ext hR hC
        replace hRS := Row.ext hRS hC
        exact Runs.does (r_ixa (sz := 1) (j := (j).toNat) (congrArg some h13) (congrArg some h14) Try.underlying120 (by kernel_rfl) (by omega) (by omega) rfl) ⟨Below.refl _ _, rfl, nofr rfl⟩
      refine ⟨fun wu16 hC hd => ?_, ?_⟩
      · obtain ⟨h15, _⟩ := hd
        skip
        replace h15 : V 15 = (.pointer (some ⟨rbx, (0 + (j).toNat * 1), none⟩)) := h15
        replace hb := hb.trans (hC.mono hb.size)
        replace hp := blk_ext hp hC
        replace hbf1 := blk_ext hbf1 hC
        replace hbf2 := blk_ext hbf2 hC
        replace hR := Row.ext hR hC
        replace hRS := Row.ext hRS hC
        exact Runs.does (r_load (v := (.pointer (some ⟨bf2, 0, none⟩))) (congrArg some h15) Try.underlying123 rfl (cellsAt_cell (cellsAt_below hel2 hC hlr2) (i := 0) rfl rfl)) ⟨Below.refl _ _, rfl, nofr rfl⟩
      refine ⟨fun wu17 hC hd => ?_, ?_⟩
      · obtain ⟨h16, _⟩ := hd
        skip
        replace h16 : V 16 = (.pointer (some ⟨bf2, 0, none⟩)) := h16
        replace hb := hb.trans (hC.mono hb.size)
        replace hp := blk_ext hp hC
        replace hbf1 := blk_ext hbf1 hC
        replace hbf2 := blk_ext hbf2 hC
        replace hR := Row.ext hR hC
        replace hRS := Row.ext hRS hC
        exact Runs.does (r_nilCheck (congrArg some h16)) ⟨Below.refl _ _, rfl, nofr rfl⟩
      refine ⟨fun wu18 hC hd => ?_, ?_⟩
      · obtain ⟨h17, _⟩ := hd
        skip
        replace h17 : V 17 = (.pointer (some ⟨bf2, 0, none⟩)) := h17
        replace hb := hb.trans (hC.mono hb.size)
        replace hp := blk_ext hp hC
        replace hbf1 := blk_ext hbf1 hC
        replace hbf2 := blk_ext hbf2 hC
        replace hR := Row.ext hR hC
        replace hRS := Row.ext hRS hC
        exact Runs.does (r_fa (congrArg some h17) Try.underlying37 (f := 0) (q := 0) rfl (by kernel_rfl) rfl) ⟨Below.refl _ _, rfl, nofr rfl⟩
      refine ⟨fun wu19 hC hd => ?_, ?_⟩
      · obtain ⟨h18, _⟩ := hd
        skip
        replace h18 : V 18 = (.pointer (some ⟨bf2, 0, none⟩)) := h18
        replace hb := hb.trans (hC.mono hb.size)
        replace hp := blk_ext hp hC
        replace hbf1 := blk_ext hbf1 hC
        replace hbf2 := blk_ext hbf2 hC
        replace hR := Row.ext hR hC
        replace hRS := Row.ext hRS hC
        exact Runs.does (r_loadA (cs := [(.string x2.1), (.string x2.2.1)]) (congrArg some h18) Try.underlying31 rfl (by kernel_rfl) (cellsAt_part (d := 0) (n := 2) (cellsAt_blk hbf2) rfl rfl)) ⟨Below.refl _ _, rfl, nofr rfl⟩
      refine ⟨fun wu20 hC hd => ?_, ?_⟩
      · obtain ⟨h9, h19, _⟩ := hd
        skip
        skip
        replace h9 : V 9 = (.agg #[(.string x1.1), (.string x1.2.1)]) := h9
        replace h19 : V 19 = (.agg #[(.string x2.1), (.string x2.2.1)]) := h19
        replace hb := hb.trans (hC.mono hb.size)
        replace hp := blk_ext hp hC
        replace hbf1 := blk_ext hbf1 hC
        replace hbf2 := blk_ext hbf2 hC
        replace hR := Row.ext hR hC
        replace hRS := Row.ext hRS hC
        exact Runs.does (r_ane (k := 5) (congrArg some h9) (congrArg some h19) (by kernel_rfl) (eqt_struct (xs := #[(.string x1.1), (.string x1.2.1)]) (ys := #[(.string x2.1), (.string x2.2.1)]) Try.underlying31 (by kernel_rfl) (eqf_cons (by kernel_rfl) (fun _ => by kernel_rfl) (fun _ => by kernel_rfl) (eqt_str (a := x1.1) (b := x2.1) Try.underlying9) (eqf_one (by kernel_rfl) (fun _ => by kernel_rfl) (fun _ => by kernel_rfl) (eqt_str (a := x1.2.1) (b := x2.2.1) Try.underlying9)))) rfl) ⟨Below.refl _ _, rfl, nofr rfl⟩
      trivial
    · skip
      clear hf fa; intro V w3 fa he3 hp hnb hf
      have hv0 : V 0 = (.pointer (some ⟨p, 0, none⟩)) := postsHold_at hp 0 rfl
      have hv1 : V 1 = (.pointer (some ⟨p, 0, none⟩)) := postsHold_at hp 1 rfl
      have hv2 : V 2 = (.pointer (some ⟨p, 0, none⟩)) := postsHold_at hp 2 rfl
      have hv3 : V 3 = (.slice (some ⟨rbx, 0, none⟩) ps.length c) := postsHold_at hp 3 rfl
      have hv4 : V 4 = (.int .i64 i) := postsHold_at hp 4 rfl
      have hv5 : V 5 = (.pointer (some ⟨rbx, (0 + (i).toNat * 1), none⟩)) := postsHold_at hp 5 rfl
      have hv6 : V 6 = (.pointer (some ⟨bf1, 0, none⟩)) := postsHold_at hp 6 rfl
      have hv7 : V 7 = (.pointer (some ⟨bf1, 0, none⟩)) := postsHold_at hp 7 rfl
      have hv8 : V 8 = (.pointer (some ⟨bf1, 0, none⟩)) := postsHold_at hp 8 rfl
      have hv9 : V 9 = (.agg #[(.string x1.1), (.string x1.2.1)]) := postsHold_at hp 9 rfl
      have hv10 : V 10 = (.pointer (some ⟨p, 0, none⟩)) := postsHold_at hp 10 rfl
      have hv11 : V 11 = (.pointer (some ⟨p, 0, none⟩)) := postsHold_at hp 11 rfl
      have hv12 : V 12 = (.pointer (some ⟨p, 0, none⟩)) := postsHold_at hp 12 rfl
      have hv13 : V 13 = (.slice (some ⟨rbx, 0, none⟩) ps.length c) := postsHold_at hp 13 rfl
      have hv14 : V 14 = (.int .i64 j) := postsHold_at hp 14 rfl
      have hv15 : V 15 = (.pointer (some ⟨rbx, (0 + (j).toNat * 1), none⟩)) := postsHold_at hp 15 rfl
      have hv16 : V 16 = (.pointer (some ⟨bf2, 0, none⟩)) := postsHold_at hp 16 rfl
      have hv17 : V 17 = (.pointer (some ⟨bf2, 0, none⟩)) := postsHold_at hp 17 rfl
      have hv18 : V 18 = (.pointer (some ⟨bf2, 0, none⟩)) := postsHold_at hp 18 rfl
      have hv19 : V 19 = (.agg #[(.string x2.1), (.string x2.2.1)]) := postsHold_at hp 19 rfl
      have hv20 : V 20 = (.bool (!((decide (x1.1 = x2.1)) && (decide (x1.2.1 = x2.2.1))))) := postsHold_at hp 20 rfl
      simp only [List.take_succ_cons, List.take_zero, insAll, ins, hv0, hv1, hv2, hv3, hv4, hv5, hv6, hv7, hv8, hv9, hv10, hv11, hv12, hv13, hv14, hv15, hv16, hv17, hv18, hv19, hv20] at hf
      clear hp hnb hv0 hv1 hv2 hv3 hv4 hv5 hv6 hv7 hv8 hv9 hv10 hv11 hv12 hv13 hv14 hv15 hv16 hv17 hv18 hv19 hv20
      replace hp := blk_ext hp he3
      replace hbf1 := blk_ext hbf1 he3
      replace hbf2 := blk_ext hbf2 he3
      replace hR := Row.ext hR he3
      replace hRS := Row.ext hRS he3
      replace hF := FRel.map hF (fun bf cs hbf => blk_ext hbf he3)
      replace hb := hb.trans (Below.mono he3 hb.size)
      (try simp only [Exit.then, Exit.inBlock, ↓reduceIte, Nat.reduceEqDiff])
      refine hK6 _ _ ?_
      refine wp_cond_split (t := (!((decide (x1.1 = x2.1)) && (decide (x1.2.1 = x2.2.1))))) (hf.ev rfl) (fun hqt39_1 => ?_) (fun hqt39_1 => ?_)
      · have hqt39_1b := hqt39_1
        try simp only [decide_eq_true_eq, Bool.and_eq_true, Bool.or_eq_true, Bool.not_eq_true', decide_eq_false_iff_not, ne_eq, Bool.not_eq_true] at hqt39_1
        refine wp_seq_k (fun K7 hK7 => ?_)
        refine wp_region_lit ?_
        refine sqv hf (r_assign rfl) rfl rfl rfl ?_; clear hf fa; intro fa hf
        refine sqv hf (r_assign rfl) rfl rfl rfl ?_; clear hf fa; intro fa hf
        apply wpList_nil
        (try simp only [Exit.then, Exit.inBlock, ↓reduceIte, Nat.reduceEqDiff])
        refine hK7 _ _ ?_
        refine wp_ret ?_
        (try simp only [Exit.then, Exit.inBlock])
        refine ret2 hf rfl rfl rfl ?_
        have hy : liveL L i = true ∧ liveL L j = true := by rw [← hF0, ← hF0]; exact hlb
        have hn : ¬ ((gotL L i).1 = (gotL L j).1 ∧ (gotL L i).2.1 = (gotL L j).2.1) := by rw [hgo1, hgo2]; have h := hqt39_1; intro h2; simp [h2.1, h2.2] at h
        have hD : swR L Sl_ i j = (0, 66, Sl_) := by unfold swR; rw [if_pos hy, if_neg hn]
        rw [hD]; exact ⟨rfl, ⟨_, _, c, d, ps, hp, hR, hRS, hBp, hps, hln, hF⟩, hb⟩
      · have hqt39_1b := hqt39_1
        replace hqt39_1 := Bool.eq_false_iff.1 hqt39_1
        try simp only [ne_eq, decide_eq_true_eq, Bool.and_eq_true, Bool.or_eq_true, Bool.not_eq_true', decide_eq_false_iff_not] at hqt39_1
        refine wp_skip ?_
        (try simp only [Exit.then, Exit.inBlock, ↓reduceIte, Nat.reduceEqDiff])
        refine hK5 _ _ ?_
        refine wp_seq_k (fun K8 hK8 => ?_)
        refine wp_region_lit ?_
        refine sqv hf (r_move rfl) rfl rfl rfl ?_; clear hf fa; intro fa hf
        refine sqv hf (r_nilCheck rfl) rfl rfl rfl ?_; clear hf fa; intro fa hf
        refine sqv hf (r_fa rfl Try.underlying122 (f := 1) (q := 1) rfl (by kernel_rfl) rfl) rfl rfl rfl ?_; clear hf fa; intro fa hf
        refine sqv hf (r_load (v := (.slice b Sl_.length d)) rfl Try.underlying33 rfl (cell_blk hp rfl)) rfl rfl rfl ?_; clear hf fa; intro fa hf
        refine sqv hf (r_move rfl) rfl rfl rfl ?_; clear hf fa; intro fa hf
        obtain ⟨rb1, rfl, hbbrb1, hlbrb1⟩ := Row.some hRS (by first | omega | (simp only [Sl.list_length, List.length_set, List.length_take, List.length_append, List.length_replicate, List.length_cons, List.length_nil, List.length_map, nums_len]; omega))
        have hy3 := getD_at (l := Sl_) (j := (i).toNat) (0 : Int) (by first | omega | (simp only [Sl.list_length, List.length_set, List.length_take, List.length_append, List.length_replicate, List.length_cons, List.length_nil, List.length_map, nums_len]; omega))
        have hel3 := RdS.at (Row.rd (by intros; rfl) hRS) hy3
        obtain ⟨_, _, hab, hlr3, hel3⟩ := hel3
        cases hab
        refine sqv hf (r_ixa (sz := 1) (j := (i).toNat) rfl rfl Try.underlying33 (by kernel_rfl) (by omega) (by omega) rfl) rfl rfl rfl ?_; clear hf fa; intro fa hf
        refine sqv hf (r_load (v := (.int .i64 ((Sl_.getD (i).toNat (0 : Int))))) rfl Try.underlying3 rfl (cellsAt_cell hel3 (i := 0) rfl rfl)) rfl rfl rfl ?_; clear hf fa; intro fa hf
        refine sqv hf (r_assign rfl) rfl rfl rfl ?_; clear hf fa; intro fa hf
        apply wpList_nil
        (try simp only [Exit.then, Exit.inBlock, ↓reduceIte, Nat.reduceEqDiff])
        refine hK8 _ _ ?_
        refine wp_seq_k (fun K9 hK9 => ?_)
        refine wp_region_lit ?_
        refine sqv hf (r_move rfl) rfl rfl rfl ?_; clear hf fa; intro fa hf
        refine sqv hf (r_nilCheck rfl) rfl rfl rfl ?_; clear hf fa; intro fa hf
        refine sqv hf (r_fa rfl Try.underlying122 (f := 1) (q := 1) rfl (by kernel_rfl) rfl) rfl rfl rfl ?_; clear hf fa; intro fa hf
        refine sqv hf (r_load (v := (.slice (some ⟨rb1, 0, none⟩) Sl_.length d)) rfl Try.underlying33 rfl (cell_blk hp rfl)) rfl rfl rfl ?_; clear hf fa; intro fa hf
        refine sqv hf (r_move rfl) rfl rfl rfl ?_; clear hf fa; intro fa hf
        refine sqv hf (r_move rfl) rfl rfl rfl ?_; clear hf fa; intro fa hf
        have hy4 := getD_at (l := Sl_) (j := (i).toNat) (0 : Int) (by first | omega | (simp only [Sl.list_length, List.length_set, List.length_take, List.length_append, List.length_replicate, List.length_cons, List.length_nil, List.length_map, nums_len]; omega))
        have hel4 := RdS.at (Row.rd (by intros; rfl) hRS) hy4
        obtain ⟨_, _, hab, hlr4, hel4⟩ := hel4
        cases hab
        refine sqv hf (r_ixa (sz := 1) (j := (i).toNat) rfl rfl Try.underlying33 (by kernel_rfl) (by omega) (by omega) rfl) rfl rfl rfl ?_; clear hf fa; intro fa hf
        refine sqn hf (d_rowset (u := j) (j := (i).toNat) (by intros; rfl) (by intro x u hu; simp only [vInt, List.mem_singleton] at hu; subst hu; rfl) rfl rfl (by first | rfl | (simp; done) | (simp; omega)) (by kernel_rfl) hRS (by first | omega | (simp only [Sl.list_length, List.length_set, List.length_take, List.length_append, List.length_replicate, List.length_cons, List.length_nil, List.length_map, nums_len]; omega)) (by omega)) rfl rfl ?_; clear hf fa; rintro fa _ w4 ⟨hr1, hg1⟩ hf
        replace hp := blk_grown hp hg1 (fun e => Row.ne_type hRS hp rfl (show some rb1 = some p by rw [e]))
        replace hbf1 := blk_grown hbf1 hg1 (fun e => Row.ne_type hRS hbf1 rfl (show some rb1 = some bf1 by rw [e]))
        replace hbf2 := blk_grown hbf2 hg1 (fun e => Row.ne_type hRS hbf2 rfl (show some rb1 = some bf2 by rw [e]))
        replace hR := Row.grown hR hg1 (fun e => Row.ne_row hR hRS rfl rb1 e rfl)
        replace hF := FRel.map hF (fun bf cs hbf => blk_grown hbf hg1 (fun e => Row.ne_type hRS hbf rfl (show some rb1 = some bf by rw [e])))
        replace hb := hb.trans (grown_below hg1 hb.size (by first | omega | (have := Row.lt hRS _ rfl; omega)))
        apply wpList_nil
        (try simp only [Exit.then, Exit.inBlock, ↓reduceIte, Nat.reduceEqDiff])
        refine hK9 _ _ ?_
        refine wp_seq_k (fun K10 hK10 => ?_)
        refine wp_region_lit ?_
        refine sqv hf (r_move rfl) rfl rfl rfl ?_; clear hf fa; intro fa hf
        refine sqv hf (r_assign rfl) rfl rfl rfl ?_; clear hf fa; intro fa hf
        refine sqv hf (r_assign rfl) rfl rfl rfl ?_; clear hf fa; intro fa hf
        apply wpList_nil
        (try simp only [Exit.then, Exit.inBlock, ↓reduceIte, Nat.reduceEqDiff])
        refine hK10 _ _ ?_
        refine wp_ret ?_
        (try simp only [Exit.then, Exit.inBlock])
        refine ret2 hf rfl rfl rfl ?_
        have hy : liveL L i = true ∧ liveL L j = true := by rw [← hF0, ← hF0]; exact hlb
        have hn : (gotL L i).1 = (gotL L j).1 ∧ (gotL L i).2.1 = (gotL L j).2.1 := by rw [hgo1, hgo2]; have h := hqt39_1; simpa using h
        have hD : swR L Sl_ i j = (Sl_.getD i.toNat 0, 0, Sl_.set i.toNat j) := by unfold swR; rw [if_pos hy, if_pos hn]
        have hp2 := hp
        have hzS := hr1
        rw [hD]; exact ⟨rfl, ⟨_, _, c, d, ps, by rw [List.length_set]; exact hp2, hR, hzS.relen, hBp, hps, by rw [List.length_set]; exact hln, hF⟩, hb⟩
end Go.Proofs.Ytmcmickgllffoaa
