/- What is proved here: functions by numbers: the changes of the state and what they leave alone. -/
import Derived.Test.YtmcmickgllffoaaFnH
import Derived.Test.YtmcmickgllffoaaFnM
namespace Go.Proofs.Ytmcmickgllffoaa
open Go.RowKit
set_option linter.unusedVariables false
set_option linter.unusedSimpArgs false
/-- The blocks of a type are as they were. -/
def KT (T : Nat) (w1 w : World) : Prop := ∀ (bf : Nat) (cs : Array Value), w1.heap[bf]? = some (.cells cs T (0, 0)) → w.heap[bf]? = some (.cells cs T (0, 0))
theorem KT.refl (T : Nat) (w : World) : KT T w w := fun _ _ h => h
theorem KT.trans {T : Nat} {w w1 w2 : World} (h : KT T w w1) (h2 : KT T w1 w2) : KT T w w2 := fun b cs hb => h2 b cs (h b cs hb)
theorem KT.map {T : Nat} {w1 w w' : World} (h : KT T w1 w) (hm : ∀ (bf : Nat) (cs : Array Value), w.heap[bf]? = some (.cells cs T (0, 0)) → w'.heap[bf]? = some (.cells cs T (0, 0))) : KT T w1 w' := fun b cs hb => hm b cs (h b cs hb)
theorem KT.of_below {T : Nat} {w w' : World} (h : Below w.heap.size w w') : KT T w w' := fun _ _ hb => blk_ext hb h
theorem Row.kt {α : Type} {k e base : Nat} {V : α → List Value} {v : Value} {l : List α} {w w' : World} (h : Row k V e base w v l) (hk : KT e w w') : Row k V e base w' v l := by
  refine ⟨h.1, ?_⟩
  rcases h.2 with hz | ⟨g, cap, cur, rfl, hb, hgg, rest⟩
  · exact .inl hz
  · exact .inr ⟨g, cap, cur, rfl, hb, hk _ _ hgg, rest⟩
def Pk (w w' : World) : Prop := KT 132 w w' ∧ KT 127 w w' ∧ KT 28 w w' ∧ w.heap.size ≤ w'.heap.size
theorem Pk.of_below {w w' : World} (h : Below w.heap.size w w') : Pk w w' := ⟨KT.of_below h, KT.of_below h, KT.of_below h, h.size⟩
theorem Pk.trans {w w1 w2 : World} (h : Pk w w1) (h2 : Pk w1 w2) : Pk w w2 := ⟨h.1.trans h2.1, h.2.1.trans h2.2.1, h.2.2.1.trans h2.2.2.1, Nat.le_trans h.2.2.2 h2.2.2.2⟩

set_option maxHeartbeats 1000000 in
set_option maxRecDepth 100000 in
theorem freeK_raw (p : Nat) (a b : Option Addr) (c d : Nat) (ps : List (Option Addr)) (Sl_ : List Int) (w0 w : World) (hb : Below w0.heap.size w0 w) (hp : w.heap[p]? = some (.cells #[(.slice a ps.length c), (.slice b Sl_.length d)] 122 (0, 0))) (hR : Row 1 vPF 123 w0.heap.size w (.slice a ps.length c) ps) (hRS : Row 1 (vInt .i64) 3 w0.heap.size w (.slice b Sl_.length d) Sl_) (hBp : w0.heap.size ≤ p) (hps : ps.length ≤ 1000) (hln : ps.length = Sl_.length) (L : List (Option MFn)) (hF : FRel w ps L) (i : Int) (hF0 : liveB ps i = liveL L i) : Calls Try.prog 15 #[(.pointer (some ⟨p, 0, none⟩)), (.int .i64 i)] w fun e w' => e = .returned (.int .i64 (if liveL L i = true then 0 else 47)) ∧ FSt w0.heap.size w' p (frL L i) (frS L Sl_ i) ∧ Below w0.heap.size w0 w' ∧ Pk w w' := by
  have hcR := Row.caps hR
  have hcS := Row.caps hRS
  have hpl := (Array.getElem?_eq_some_iff.1 hp).1
  have hPk1 := KT.refl 132 w
  have hPk2 := KT.refl 127 w
  have hPk3 := KT.refl 28 w
  have hZ := Nat.le_refl w.heap.size
  refine sx_enter (L := [(0, (.pointer (some ⟨p, 0, none⟩))), (1, (.int .i64 i))]) Try.func15 rfl rfl rfl rfl (fun fa hf => ?_)
  refine wp_seq_k (fun K1 hK1 => ?_)
  refine wp_region_lit ?_
  refine sqv hf (r_assign rfl) rfl rfl rfl ?_; clear hf fa; intro fa hf
  apply wpList_nil
  (try simp only [Exit.then, Exit.inBlock, ↓reduceIte, Nat.reduceEqDiff])
  refine hK1 _ _ ?_
  refine wp_seq_k (fun K2 hK2 => ?_)
  refine wp_seq_k (fun K3 hK3 => ?_)
  refine wp_region_lit ?_
  refine sqv hf (r_move rfl) rfl rfl rfl ?_; clear hf fa; intro fa hf
  refine sqv hf (r_move rfl) rfl rfl rfl ?_; clear hf fa; intro fa hf
  refine sqdt hf (d_callB (vs := [(.pointer (some ⟨p, 0, none⟩)), (.int .i64 i)]) rfl Try.func66 (by kernel_rfl) (by kernel_rfl) (live_any w0.heap.size p a b c d ps Sl_ _ hp hR hRS hBp hps hln i)) rfl rfl rfl ?_; clear hf fa; rintro fa _ w1 ⟨rfl, he1⟩ hf
  replace hp := blk_ext hp he1
  replace hR := Row.ext hR he1
  replace hRS := Row.ext hRS he1
  replace hF := FRel.map hF (fun bf cs hbf => blk_ext hbf he1)
  replace hPk1 := KT.map hPk1 (fun bf cs hbf => blk_ext hbf he1)
  replace hPk2 := KT.map hPk2 (fun bf cs hbf => blk_ext hbf he1)
  replace hPk3 := KT.map hPk3 (fun bf cs hbf => blk_ext hbf he1)
  replace hZ := Nat.le_trans hZ he1.size
  replace hb := hb.trans (Below.mono he1 hb.size)
  refine sqv hf (r_not rfl) rfl rfl rfl ?_; clear hf fa; intro fa hf
  apply wpList_nil
  (try simp only [Exit.then, Exit.inBlock, ↓reduceIte, Nat.reduceEqDiff])
  refine hK3 _ _ ?_
  refine wp_cond_split (t := (!(liveB ps i))) (hf.ev rfl) (fun hqt8_1 => ?_) (fun hqt8_1 => ?_)
  · have hqt8_1b := hqt8_1
    try simp only [decide_eq_true_eq, Bool.and_eq_true, Bool.or_eq_true, Bool.not_eq_true', decide_eq_false_iff_not, ne_eq, Bool.not_eq_true] at hqt8_1
    refine wp_seq_k (fun K4 hK4 => ?_)
    refine wp_region_lit ?_
    refine sqv hf (r_assign rfl) rfl rfl rfl ?_; clear hf fa; intro fa hf
    apply wpList_nil
    (try simp only [Exit.then, Exit.inBlock, ↓reduceIte, Nat.reduceEqDiff])
    refine hK4 _ _ ?_
    refine wp_ret ?_
    (try simp only [Exit.then, Exit.inBlock])
    refine ret1 hf rfl rfl ?_
    have hll : liveL L i = false := by rw [← hF0]; exact (by have h := hqt8_1; simpa using h)
    have h1 : frL L i = L := by unfold frL; rw [if_neg (by rw [hll]; decide)]
    have h2 : frS L Sl_ i = Sl_ := by unfold frS; rw [if_neg (by rw [hll]; decide)]
    rw [h1, h2, hll]
    exact ⟨rfl, ⟨_, _, c, d, ps, hp, hR, hRS, hBp, hps, hln, hF⟩, hb, hPk1, hPk2, hPk3, hZ⟩
  · have hqt8_1b := hqt8_1
    replace hqt8_1 := Bool.eq_false_iff.1 hqt8_1
    try simp only [ne_eq, decide_eq_true_eq, Bool.and_eq_true, Bool.or_eq_true, Bool.not_eq_true', decide_eq_false_iff_not] at hqt8_1
    refine wp_skip ?_
    (try simp only [Exit.then, Exit.inBlock, ↓reduceIte, Nat.reduceEqDiff])
    refine hK2 _ _ ?_
    refine wp_seq_k (fun K5 hK5 => ?_)
    obtain ⟨hi0, hi1, qf, hqf⟩ := liveB_in (ps := ps) (i := i) (by have h := hqt8_1; simpa using h)
    skip
    refine wp_region_lit ?_
    refine sqv hf (r_move rfl) rfl rfl rfl ?_; clear hf fa; intro fa hf
    refine sqv hf (r_nilCheck rfl) rfl rfl rfl ?_; clear hf fa; intro fa hf
    refine sqv hf (r_fa rfl Try.underlying122 (f := 0) (q := 0) rfl (by kernel_rfl) rfl) rfl rfl rfl ?_; clear hf fa; intro fa hf
    refine sqv hf (r_load (v := (.slice a ps.length c)) rfl Try.underlying120 rfl (cell_blk hp rfl)) rfl rfl rfl ?_; clear hf fa; intro fa hf
    refine sqv hf (r_move rfl) rfl rfl rfl ?_; clear hf fa; intro fa hf
    obtain ⟨rb1, rfl, hbbrb1, hlbrb1⟩ := Row.some hR (by first | omega | (simp only [Sl.list_length, List.length_set, List.length_take, List.length_append, List.length_replicate, List.length_cons, List.length_nil, List.length_map, nums_len]; omega))
    have hy1 := getD_at (l := ps) (j := (i).toNat) none (by first | omega | (simp only [Sl.list_length, List.length_set, List.length_take, List.length_append, List.length_replicate, List.length_cons, List.length_nil, List.length_map, nums_len]; omega))
    have hel1 := RdS.at (Row.rd (by intros; rfl) hR) hy1
    obtain ⟨_, _, hab, hlr1, hel1⟩ := hel1
    cases hab
    refine sqv hf (r_ixa (sz := 1) (j := (i).toNat) rfl rfl Try.underlying120 (by kernel_rfl) (by omega) (by omega) rfl) rfl rfl rfl ?_; clear hf fa; intro fa hf
    refine sqn hf (d_rowset (u := none) (j := (i).toNat) (by intros; rfl) (by exact onePF) rfl rfl (by first | rfl | (simp; done) | (simp; omega)) (by kernel_rfl) hR (by first | omega | (simp only [Sl.list_length, List.length_set, List.length_take, List.length_append, List.length_replicate, List.length_cons, List.length_nil, List.length_map, nums_len]; omega)) (by omega)) rfl rfl ?_; clear hf fa; rintro fa _ w2 ⟨hr1, hg1⟩ hf
    replace hp := blk_grown hp hg1 (fun e => Row.ne_type hR hp rfl (show some rb1 = some p by rw [e]))
    replace hRS := Row.grown hRS hg1 (fun e => Row.ne_row hRS hR rfl rb1 e rfl)
    replace hZ := Nat.le_trans hZ hg1.size
    replace hF := FRel.map hF (fun bf cs hbf => blk_grown hbf hg1 (fun e => Row.ne_type hR hbf rfl (show some rb1 = some bf by rw [e])))
    replace hPk1 := KT.map hPk1 (fun bf cs hbf => blk_grown hbf hg1 (fun e => Row.ne_type hR hbf rfl (show some rb1 = some bf by rw [e])))
    replace hPk2 := KT.map hPk2 (fun bf cs hbf => blk_grown hbf hg1 (fun e => Row.ne_type hR hbf rfl (show some rb1 = some bf by rw [e])))
    replace hPk3 := KT.map hPk3 (fun bf cs hbf => blk_grown hbf hg1 (fun e => Row.ne_type hR hbf rfl (show some rb1 = some bf by rw [e])))
    replace hb := hb.trans (grown_below hg1 hb.size (by first | omega | (have := Row.lt hR _ rfl; omega)))
    apply wpList_nil
    (try simp only [Exit.then, Exit.inBlock, ↓reduceIte, Nat.reduceEqDiff])
    refine hK5 _ _ ?_
    refine wp_seq_k (fun K6 hK6 => ?_)
    refine wp_region_lit ?_
    refine sqv hf (r_move rfl) rfl rfl rfl ?_; clear hf fa; intro fa hf
    refine sqv hf (r_nilCheck rfl) rfl rfl rfl ?_; clear hf fa; intro fa hf
    refine sqv hf (r_fa rfl Try.underlying122 (f := 1) (q := 1) rfl (by kernel_rfl) rfl) rfl rfl rfl ?_; clear hf fa; intro fa hf
    refine sqv hf (r_load (v := (.slice b Sl_.length d)) rfl Try.underlying33 rfl (cell_blk hp rfl)) rfl rfl rfl ?_; clear hf fa; intro fa hf
    refine sqv hf (r_move rfl) rfl rfl rfl ?_; clear hf fa; intro fa hf
    obtain ⟨rb2, rfl, hbbrb2, hlbrb2⟩ := Row.some hRS (by first | omega | (simp only [Sl.list_length, List.length_set, List.length_take, List.length_append, List.length_replicate, List.length_cons, List.length_nil, List.length_map, nums_len]; omega))
    have hy2 := getD_at (l := Sl_) (j := (i).toNat) (0 : Int) (by first | omega | (simp only [Sl.list_length, List.length_set, List.length_take, List.length_append, List.length_replicate, List.length_cons, List.length_nil, List.length_map, nums_len]; omega))
    have hel2 := RdS.at (Row.rd (by intros; rfl) hRS) hy2
    obtain ⟨_, _, hab, hlr2, hel2⟩ := hel2
    cases hab
    refine sqv hf (r_ixa (sz := 1) (j := (i).toNat) rfl rfl Try.underlying33 (by kernel_rfl) (by omega) (by omega) rfl) rfl rfl rfl ?_; clear hf fa; intro fa hf
    refine sqn hf (d_rowset (u := (-1 : Int)) (j := (i).toNat) (by intros; rfl) (by intro x u hu; simp only [vInt, List.mem_singleton] at hu; subst hu; rfl) rfl rfl (by first | rfl | (simp; done) | (simp; omega)) (by kernel_rfl) hRS (by first | omega | (simp only [Sl.list_length, List.length_set, List.length_take, List.length_append, List.length_replicate, List.length_cons, List.length_nil, List.length_map, nums_len]; omega)) (by omega)) rfl rfl ?_; clear hf fa; rintro fa _ w3 ⟨hr2, hg2⟩ hf
    replace hp := blk_grown hp hg2 (fun e => Row.ne_type hRS hp rfl (show some rb2 = some p by rw [e]))
    replace hr1 := Row.grown hr1 hg2 (fun e => Row.ne_row hr1 hRS rfl rb2 e rfl)
    replace hZ := Nat.le_trans hZ hg2.size
    replace hF := FRel.map hF (fun bf cs hbf => blk_grown hbf hg2 (fun e => Row.ne_type hRS hbf rfl (show some rb2 = some bf by rw [e])))
    replace hPk1 := KT.map hPk1 (fun bf cs hbf => blk_grown hbf hg2 (fun e => Row.ne_type hRS hbf rfl (show some rb2 = some bf by rw [e])))
    replace hPk2 := KT.map hPk2 (fun bf cs hbf => blk_grown hbf hg2 (fun e => Row.ne_type hRS hbf rfl (show some rb2 = some bf by rw [e])))
    replace hPk3 := KT.map hPk3 (fun bf cs hbf => blk_grown hbf hg2 (fun e => Row.ne_type hRS hbf rfl (show some rb2 = some bf by rw [e])))
    replace hb := hb.trans (grown_below hg2 hb.size (by first | omega | (have := Row.lt hRS _ rfl; omega)))
    apply wpList_nil
    (try simp only [Exit.then, Exit.inBlock, ↓reduceIte, Nat.reduceEqDiff])
    refine hK6 _ _ ?_
    refine wp_seq_k (fun K7 hK7 => ?_)
    refine wp_region_lit ?_
    refine sqv hf (r_assign rfl) rfl rfl rfl ?_; clear hf fa; intro fa hf
    apply wpList_nil
    (try simp only [Exit.then, Exit.inBlock, ↓reduceIte, Nat.reduceEqDiff])
    refine hK7 _ _ ?_
    refine wp_ret ?_
    (try simp only [Exit.then, Exit.inBlock])
    refine ret1 hf rfl rfl ?_
    have hll : liveL L i = true := by rw [← hF0]; exact (by have h := hqt8_1; simpa using h)
    have h1 : frL L i = L.set i.toNat none := by unfold frL; rw [if_pos (by rw [hll])]
    have h2 : frS L Sl_ i = Sl_.set i.toNat (-1) := by unfold frS; rw [if_pos (by rw [hll])]
    rw [h1, h2, hll]
    have hp2 := hp
    have hzR := hr1
    have hzS := hr2
    exact ⟨rfl, ⟨_, _, c, d, ps.set i.toNat none, by rw [List.length_set, List.length_set]; exact hp2, hzR.relen, hzS.relen, hBp, by rw [List.length_set]; exact hps, by rw [List.length_set, List.length_set]; exact hln, hF.setNone _⟩, hb, hPk1, hPk2, hPk3, hZ⟩

set_option maxHeartbeats 1000000 in
set_option maxRecDepth 100000 in
theorem swapK_raw (p : Nat) (a b : Option Addr) (c d : Nat) (ps : List (Option Addr)) (Sl_ : List Int) (w0 w : World) (hb : Below w0.heap.size w0 w) (hp : w.heap[p]? = some (.cells #[(.slice a ps.length c), (.slice b Sl_.length d)] 122 (0, 0))) (hR : Row 1 vPF 123 w0.heap.size w (.slice a ps.length c) ps) (hRS : Row 1 (vInt .i64) 3 w0.heap.size w (.slice b Sl_.length d) Sl_) (hBp : w0.heap.size ≤ p) (hps : ps.length ≤ 1000) (hln : ps.length = Sl_.length) (L : List (Option MFn)) (hF : FRel w ps L) (i j : Int) (hF0 : ∀ i, liveB ps i = liveL L i) : Calls Try.prog 14 #[(.pointer (some ⟨p, 0, none⟩)), (.int .i64 i), (.int .i64 j)] w fun e w' => e = .returned (.tuple #[.int .i64 (swR L Sl_ i j).1, .int .i64 (swR L Sl_ i j).2.1]) ∧ FSt w0.heap.size w' p L (swR L Sl_ i j).2.2 ∧ Below w0.heap.size w0 w' ∧ Pk w w' := by
  have hcR := Row.caps hR
  have hcS := Row.caps hRS
  have hpl := (Array.getElem?_eq_some_iff.1 hp).1
  have hPk1 := KT.refl 132 w
  have hPk2 := KT.refl 127 w
  have hPk3 := KT.refl 28 w
  have hZ := Nat.le_refl w.heap.size
  refine sx_enter (L := [(0, (.pointer (some ⟨p, 0, none⟩))), (1, (.int .i64 i)), (2, (.int .i64 j))]) Try.func14 rfl rfl rfl rfl (fun fa hf => ?_)
  refine wp_seq_k (fun K1 hK1 => ?_)
  refine wp_region_lit ?_
  refine sqv hf (r_assign rfl) rfl rfl rfl ?_; clear hf fa; intro fa hf
  refine sqv hf (r_assign rfl) rfl rfl rfl ?_; clear hf fa; intro fa hf
  apply wpList_nil
  (try simp only [Exit.then, Exit.inBlock, ↓reduceIte, Nat.reduceEqDiff])
  refine hK1 _ _ ?_
  refine wp_seq_k (fun K2 hK2 => ?_)
  refine wp_seq_k (fun K3 hK3 => ?_)
  refine wp_region_lit ?_
  refine sqv hf (r_move rfl) rfl rfl rfl ?_; clear hf fa; intro fa hf
  refine sqv hf (r_move rfl) rfl rfl rfl ?_; clear hf fa; intro fa hf
  refine sqdt hf (d_callB (vs := [(.pointer (some ⟨p, 0, none⟩)), (.int .i64 i)]) rfl Try.func66 (by kernel_rfl) (by kernel_rfl) (live_any w0.heap.size p a b c d ps Sl_ _ hp hR hRS hBp hps hln i)) rfl rfl rfl ?_; clear hf fa; rintro fa _ w1 ⟨rfl, he1⟩ hf
  replace hp := blk_ext hp he1
  replace hR := Row.ext hR he1
  replace hRS := Row.ext hRS he1
  replace hF := FRel.map hF (fun bf cs hbf => blk_ext hbf he1)
  replace hPk1 := KT.map hPk1 (fun bf cs hbf => blk_ext hbf he1)
  replace hPk2 := KT.map hPk2 (fun bf cs hbf => blk_ext hbf he1)
  replace hPk3 := KT.map hPk3 (fun bf cs hbf => blk_ext hbf he1)
  replace hZ := Nat.le_trans hZ he1.size
  replace hb := hb.trans (Below.mono he1 hb.size)
  refine sqv hf (r_not rfl) rfl rfl rfl ?_; clear hf fa; intro fa hf
  refine sqv hf (r_move rfl) rfl rfl rfl ?_; clear hf fa; intro fa hf
  refine sqgF (act := (!(!(liveB ps i)))) (ag := true) (c := (!(liveB ps i))) (v := (.pointer (some ⟨p, 0, none⟩))) hf rfl rfl rfl (fun hact => (r_move rfl)) rfl rfl ?_; clear hf fa; intro fa hf
  refine sqgF (act := (!(!(liveB ps i)))) (ag := true) (c := (!(liveB ps i))) (v := (.int .i64 j)) hf rfl rfl rfl (fun hact => (r_move rfl)) rfl rfl ?_; clear hf fa; intro fa hf
  refine sqgd (R := fun vq wq => vq = gb (!(!(liveB ps i))) (.bool (liveB ps j)) ∧ Below w1.heap.size w1 wq) (act := (!(!(liveB ps i)))) (g := 4) (want := false) (ag := true) (c := (!(liveB ps i))) hf (by rfl) (by rfl) (act_F _ _) (fun hact => (d_callB (vs := [(.pointer (some ⟨p, 0, none⟩)), (.int .i64 j)]) (cons_ev (gb_ev hact rfl) (cons_ev (gb_ev hact rfl) rfl)) Try.func66 (by kernel_rfl) (by kernel_rfl) (live_any w0.heap.size p a b c d ps Sl_ _ hp hR hRS hBp hps hln j)).mono (fun _ _ h => ⟨by rw [h.1, hact]; rfl, h.2⟩)) (fun h => ⟨by rw [h]; rfl, Below.refl _ _⟩) rfl ?_; clear hf fa; rintro fa _ w2 ⟨rfl, he2⟩ hf
  replace hp := blk_ext hp he2
  replace hR := Row.ext hR he2
  replace hRS := Row.ext hRS he2
  replace hF := FRel.map hF (fun bf cs hbf => blk_ext hbf he2)
  replace hPk1 := KT.map hPk1 (fun bf cs hbf => blk_ext hbf he2)
  replace hPk2 := KT.map hPk2 (fun bf cs hbf => blk_ext hbf he2)
  replace hPk3 := KT.map hPk3 (fun bf cs hbf => blk_ext hbf he2)
  replace hZ := Nat.le_trans hZ he2.size
  replace hb := hb.trans (Below.mono he2 hb.size)
  change Fr _ _ ((16, (gb (!(!(liveB ps i))) (.bool (liveB ps j)))) :: _) at hf
  refine sqgF (act := (!(!(liveB ps i)))) (ag := true) (c := (!(liveB ps i))) (v := (.bool (!(liveB ps j)))) hf rfl rfl rfl (fun hact => (r_not (gb_ev hact rfl))) rfl rfl ?_; clear hf fa; intro fa hf
  refine sqv hf (r_pickO (b := (!(liveB ps i))) (e := (!(liveB ps j))) rfl rfl rfl) rfl rfl rfl ?_; clear hf fa; intro fa hf
  apply wpList_nil
  (try simp only [Exit.then, Exit.inBlock, ↓reduceIte, Nat.reduceEqDiff])
  refine hK3 _ _ ?_
  refine wp_cond_split (t := ((!(liveB ps i)) || (!(liveB ps j)))) (hf.ev rfl) (fun hqt18_1 => ?_) (fun hqt18_1 => ?_)
  · have hqt18_1b := hqt18_1
    try simp only [decide_eq_true_eq, Bool.and_eq_true, Bool.or_eq_true, Bool.not_eq_true', decide_eq_false_iff_not, ne_eq, Bool.not_eq_true] at hqt18_1
    refine wp_seq_k (fun K4 hK4 => ?_)
    refine wp_region_lit ?_
    refine sqv hf (r_assign rfl) rfl rfl rfl ?_; clear hf fa; intro fa hf
    refine sqv hf (r_assign rfl) rfl rfl rfl ?_; clear hf fa; intro fa hf
    apply wpList_nil
    (try simp only [Exit.then, Exit.inBlock, ↓reduceIte, Nat.reduceEqDiff])
    refine hK4 _ _ ?_
    refine wp_ret ?_
    (try simp only [Exit.then, Exit.inBlock])
    refine ret2 hf rfl rfl rfl ?_
    have hn : ¬ (liveL L i = true ∧ liveL L j = true) := by rw [← hF0, ← hF0]; have h := hqt18_1; revert h; cases liveB ps i <;> cases liveB ps j <;> simp
    have hD : swR L Sl_ i j = (0, 47, Sl_) := by unfold swR; rw [if_neg hn]
    rw [hD]; exact ⟨rfl, ⟨_, _, c, d, ps, hp, hR, hRS, hBp, hps, hln, hF⟩, hb, hPk1, hPk2, hPk3, hZ⟩
  · have hqt18_1b := hqt18_1
    replace hqt18_1 := Bool.eq_false_iff.1 hqt18_1
    try simp only [ne_eq, decide_eq_true_eq, Bool.and_eq_true, Bool.or_eq_true, Bool.not_eq_true', decide_eq_false_iff_not] at hqt18_1
    refine wp_skip ?_
    (try simp only [Exit.then, Exit.inBlock, ↓reduceIte, Nat.reduceEqDiff])
    refine hK2 _ _ ?_
    refine wp_seq_k (fun K5 hK5 => ?_)
    refine wp_seq_k (fun K6 hK6 => ?_)
    have hlb : liveB ps i = true ∧ liveB ps j = true := by have h := hqt18_1; revert h; cases liveB ps i <;> cases liveB ps j <;> simp
    obtain ⟨bf1, hq1, x1, hx1, hbf1⟩ := FRel.get hF hlb.1
    obtain ⟨bf2, hq2, x2, hx2, hbf2⟩ := FRel.get hF hlb.2
    obtain ⟨hi0, hi1, _⟩ := liveB_in hlb.1
    obtain ⟨hj0, hj1, _⟩ := liveB_in hlb.2
    have hgo1 : gotL L i = x1 := by unfold gotL; rw [if_pos (by rw [← hF0]; exact hlb.1), List.getD_eq_getElem?_getD, hx1]; rfl
    have hgo2 : gotL L j = x2 := by unfold gotL; rw [if_pos (by rw [← hF0]; exact hlb.2), List.getD_eq_getElem?_getD, hx2]; rfl
    obtain ⟨rbx, rfl, hbbx, hlbx⟩ := Row.some hR (by omega)
    skip
    have hy1 : (ps)[(i).toNat]? = some (some ⟨bf1, 0, none⟩) := hq1
    have hel1 := RdS.at (Row.rd (by intros; rfl) hR) hy1
    obtain ⟨_, _, hab, hlr1, hel1⟩ := hel1
    cases hab
    have hy2 : (ps)[(j).toNat]? = some (some ⟨bf2, 0, none⟩) := hq2
    have hel2 := RdS.at (Row.rd (by intros; rfl) hR) hy2
    obtain ⟨_, _, hab, hlr2, hel2⟩ := hel2
    cases hab
    refine wp_region_un (fun wq => Below w2.heap.size w2 wq) (fun w w' => Below w.heap.size w w')
      (fun V => [(fun x _ => x = (.pointer (some ⟨p, 0, none⟩))), (fun x _ => x = (.pointer (some ⟨p, 0, none⟩))), (fun x _ => x = (.pointer (some ⟨p, 0, none⟩))), (fun x _ => x = (.slice (some ⟨rbx, 0, none⟩) ps.length c)), (fun x _ => x = (.int .i64 i)), (fun x _ => x = (.pointer (some ⟨rbx, (0 + (i).toNat * 1), none⟩))), (fun x _ => x = (.pointer (some ⟨bf1, 0, none⟩))), (fun x _ => x = (.pointer (some ⟨bf1, 0, none⟩))), (fun x _ => x = (.pointer (some ⟨bf1, 0, none⟩))), (fun x _ => x = (.agg #[(.string x1.1), (.string x1.2.1)])), (fun x _ => x = (.pointer (some ⟨p, 0, none⟩))), (fun x _ => x = (.pointer (some ⟨p, 0, none⟩))), (fun x _ => x = (.pointer (some ⟨p, 0, none⟩))), (fun x _ => x = (.slice (some ⟨rbx, 0, none⟩) ps.length c)), (fun x _ => x = (.int .i64 j)), (fun x _ => x = (.pointer (some ⟨rbx, (0 + (j).toNat * 1), none⟩))), (fun x _ => x = (.pointer (some ⟨bf2, 0, none⟩))), (fun x _ => x = (.pointer (some ⟨bf2, 0, none⟩))), (fun x _ => x = (.pointer (some ⟨bf2, 0, none⟩))), (fun x _ => x = (.agg #[(.string x2.1), (.string x2.2.1)])), (fun x _ => x = (.bool (!((decide (x1.1 = x2.1)) && (decide (x1.2.1 = x2.2.1))))))])
      []
      [[], [0], [1], [2], [], [3, 4], [5], [6], [7], [8], [], [10], [11], [12], [], [13, 14], [15], [16], [17], [18], [9, 19]]
      hf (by kernel_rfl) (by kernel_rfl) (fun _ => rfl) ((Below.refl _ _).drew) (fun a b h1 h2 => h1.trans (h2.mono h1.size)) (fun _ _ h => h.size) (fun V => ⟨kept_eq, kept_eq, kept_eq, kept_eq, kept_eq, kept_eq, kept_eq, kept_eq, kept_eq, kept_eq, kept_eq, kept_eq, kept_eq, kept_eq, kept_eq, kept_eq, kept_eq, kept_eq, kept_eq, kept_eq, kept_eq, trivial⟩) (fun _ _ _ _ _ => rfl) ?_ ?_
    · skip
      intro V
      refine ⟨fun wu0 hC hd => ?_, ?_⟩
      · clear hd
        replace hb := hb.trans (hC.mono hb.size)
        replace hp := blk_ext hp hC
        replace hbf1 := blk_ext hbf1 hC
        replace hbf2 := blk_ext hbf2 hC
        replace hR := Row.ext hR hC
        replace hRS := Row.ext hRS hC
        exact Runs.does (r_move rfl) ⟨Below.refl _ _, rfl, nofr rfl⟩
      refine ⟨fun wu1 hC hd => ?_, ?_⟩
      · obtain ⟨h0, _⟩ := hd
        skip
        replace h0 : V 0 = (.pointer (some ⟨p, 0, none⟩)) := h0
        replace hb := hb.trans (hC.mono hb.size)
        replace hp := blk_ext hp hC
        replace hbf1 := blk_ext hbf1 hC
        replace hbf2 := blk_ext hbf2 hC
        replace hR := Row.ext hR hC
        replace hRS := Row.ext hRS hC
        exact Runs.does (r_nilCheck (congrArg some h0)) ⟨Below.refl _ _, rfl, nofr rfl⟩
      refine ⟨fun wu2 hC hd => ?_, ?_⟩
      · obtain ⟨h1, _⟩ := hd
        skip
        replace h1 : V 1 = (.pointer (some ⟨p, 0, none⟩)) := h1
        replace hb := hb.trans (hC.mono hb.size)
        replace hp := blk_ext hp hC
        replace hbf1 := blk_ext hbf1 hC
        replace hbf2 := blk_ext hbf2 hC
        replace hR := Row.ext hR hC
        replace hRS := Row.ext hRS hC
        exact Runs.does (r_fa (congrArg some h1) Try.underlying122 (f := 0) (q := 0) rfl (by kernel_rfl) rfl) ⟨Below.refl _ _, rfl, nofr rfl⟩
      refine ⟨fun wu3 hC hd => ?_, ?_⟩
      · obtain ⟨h2, _⟩ := hd
        skip
        replace h2 : V 2 = (.pointer (some ⟨p, 0, none⟩)) := h2
        replace hb := hb.trans (hC.mono hb.size)
        replace hp := blk_ext hp hC
        replace hbf1 := blk_ext hbf1 hC
        replace hbf2 := blk_ext hbf2 hC
        replace hR := Row.ext hR hC
        replace hRS := Row.ext hRS hC
        exact Runs.does (r_load (v := (.slice (some ⟨rbx, 0, none⟩) ps.length c)) (congrArg some h2) Try.underlying120 rfl (cell_blk hp rfl)) ⟨Below.refl _ _, rfl, nofr rfl⟩
      refine ⟨fun wu4 hC hd => ?_, ?_⟩
      · clear hd
        replace hb := hb.trans (hC.mono hb.size)
        replace hp := blk_ext hp hC
        replace hbf1 := blk_ext hbf1 hC
        replace hbf2 := blk_ext hbf2 hC
        replace hR := Row.ext hR hC
        replace hRS := Row.ext hRS hC
        exact Runs.does (r_move rfl) ⟨Below.refl _ _, rfl, nofr rfl⟩
      refine ⟨fun wu5 hC hd => ?_, ?_⟩
      · obtain ⟨h3, h4, _⟩ := hd
        skip
        skip
        replace h3 : V 3 = (.slice (some ⟨rbx, 0, none⟩) ps.length c) := h3
        replace h4 : V 4 = (.int .i64 i) := h4
        replace hb := hb.trans (hC.mono hb.size)
        replace hp := blk_ext hp hC
        replace hbf1 := blk_ext hbf1 hC
        replace hbf2 := blk_ext hbf2 hC
        replace hR := Row.ext hR hC
        replace hRS := Row.ext hRS hC
        exact Runs.does (r_ixa (sz := 1) (j := (i).toNat) (congrArg some h3) (congrArg some h4) Try.underlying120 (by kernel_rfl) (by omega) (by omega) rfl) ⟨Below.refl _ _, rfl, nofr rfl⟩
      refine ⟨fun wu6 hC hd => ?_, ?_⟩
      · obtain ⟨h5, _⟩ := hd
        skip
        replace h5 : V 5 = (.pointer (some ⟨rbx, (0 + (i).toNat * 1), none⟩)) := h5
        replace hb := hb.trans (hC.mono hb.size)
        replace hp := blk_ext hp hC
        replace hbf1 := blk_ext hbf1 hC
        replace hbf2 := blk_ext hbf2 hC
        replace hR := Row.ext hR hC
        replace hRS := Row.ext hRS hC
        exact Runs.does (r_load (v := (.pointer (some ⟨bf1, 0, none⟩))) (congrArg some h5) Try.underlying123 rfl (cellsAt_cell (cellsAt_below hel1 hC hlr1) (i := 0) rfl rfl)) ⟨Below.refl _ _, rfl, nofr rfl⟩
      refine ⟨fun wu7 hC hd => ?_, ?_⟩
      · obtain ⟨h6, _⟩ := hd
        skip
        replace h6 : V 6 = (.pointer (some ⟨bf1, 0, none⟩)) := h6
        replace hb := hb.trans (hC.mono hb.size)
        replace hp := blk_ext hp hC
        replace hbf1 := blk_ext hbf1 hC
        replace hbf2 := blk_ext hbf2 hC
        replace hR := Row.ext hR hC
        replace hRS := Row.ext hRS hC
        exact Runs.does (r_nilCheck (congrArg some h6)) ⟨Below.refl _ _, rfl, nofr rfl⟩
      refine ⟨fun wu8 hC hd => ?_, ?_⟩
      · obtain ⟨h7, _⟩ := hd
        skip
        replace h7 : V 7 = (.pointer (some ⟨bf1, 0, none⟩)) := h7
        replace hb := hb.trans (hC.mono hb.size)
        replace hp := blk_ext hp hC
        replace hbf1 := blk_ext hbf1 hC
        replace hbf2 := blk_ext hbf2 hC
        replace hR := Row.ext hR hC
        replace hRS := Row.ext hRS hC
        exact Runs.does (r_fa (congrArg some h7) Try.underlying37 (f := 0) (q := 0) rfl (by kernel_rfl) rfl) ⟨Below.refl _ _, rfl, nofr rfl⟩
      refine ⟨fun wu9 hC hd => ?_, ?_⟩
      · obtain ⟨h8, _⟩ := hd
        skip
        replace h8 : V 8 = (.pointer (some ⟨bf1, 0, none⟩)) := h8
        replace hb := hb.trans (hC.mono hb.size)
        replace hp := blk_ext hp hC
        replace hbf1 := blk_ext hbf1 hC
        replace hbf2 := blk_ext hbf2 hC
        replace hR := Row.ext hR hC
        replace hRS := Row.ext hRS hC
        exact Runs.does (r_loadA (cs := [(.string x1.1), (.string x1.2.1)]) (congrArg some h8) Try.underlying31 rfl (by kernel_rfl) (cellsAt_part (d := 0) (n := 2) (cellsAt_blk hbf1) rfl rfl)) ⟨Below.refl _ _, rfl, nofr rfl⟩
      refine ⟨fun wu10 hC hd => ?_, ?_⟩
      · clear hd
        replace hb := hb.trans (hC.mono hb.size)
        replace hp := blk_ext hp hC
        replace hbf1 := blk_ext hbf1 hC
        replace hbf2 := blk_ext hbf2 hC
        replace hR := Row.ext hR hC
        replace hRS := Row.ext hRS hC
        exact Runs.does (r_move rfl) ⟨Below.refl _ _, rfl, nofr rfl⟩
      refine ⟨fun wu11 hC hd => ?_, ?_⟩
      · obtain ⟨h10, _⟩ := hd
        skip
        replace h10 : V 10 = (.pointer (some ⟨p, 0, none⟩)) := h10
        replace hb := hb.trans (hC.mono hb.size)
        replace hp := blk_ext hp hC
        replace hbf1 := blk_ext hbf1 hC
        replace hbf2 := blk_ext hbf2 hC
        replace hR := Row.ext hR hC
        replace hRS := Row.ext hRS hC
        exact Runs.does (r_nilCheck (congrArg some h10)) ⟨Below.refl _ _, rfl, nofr rfl⟩
      refine ⟨fun wu12 hC hd => ?_, ?_⟩
      · obtain ⟨h11, _⟩ := hd
        skip
        replace h11 : V 11 = (.pointer (some ⟨p, 0, none⟩)) := h11
        replace hb := hb.trans (hC.mono hb.size)
        replace hp := blk_ext hp hC
        replace hbf1 := blk_ext hbf1 hC
        replace hbf2 := blk_ext hbf2 hC
        replace hR := Row.ext hR hC
        replace hRS := Row.ext hRS hC
        exact Runs.does (r_fa (congrArg some h11) Try.underlying122 (f := 0) (q := 0) rfl (by kernel_rfl) rfl) ⟨Below.refl _ _, rfl, nofr rfl⟩
      refine ⟨fun wu13 hC hd => ?_, ?_⟩
      · obtain ⟨h12, _⟩ := hd
        skip
        replace h12 : V 12 = (.pointer (some ⟨p, 0, none⟩)) := h12
        replace hb := hb.trans (hC.mono hb.size)
        replace hp := blk_ext hp hC
        replace hbf1 := blk_ext hbf1 hC
        replace hbf2 := blk_ext hbf2 hC
        replace hR := Row.ext hR hC
        replace hRS := Row.ext hRS hC
        exact Runs.does (r_load (v := (.slice (some ⟨rbx, 0, none⟩) ps.length c)) (congrArg some h12) Try.underlying120 rfl (cell_blk hp rfl)) ⟨Below.refl _ _, rfl, nofr rfl⟩
      refine ⟨fun wu14 hC hd => ?_, ?_⟩
      · clear hd
        replace hb := hb.trans (hC.mono hb.size)
        replace hp := blk_ext hp hC
        replace hbf1 := blk_ext hbf1 hC
        replace hbf2 := blk_ext hbf2 hC
        replace hR := Row.ext hR hC
        replace hRS := Row.ext hRS hC
        exact Runs.does (r_move rfl) ⟨Below.refl _ _, rfl, nofr rfl⟩
      refine ⟨fun wu15 hC hd => ?_, ?_⟩
      · obtain ⟨h13, h14, _⟩ := hd
        skip
        skip
        replace h13 : V 13 = (.slice (some ⟨rbx, 0, none⟩) ps.length c) := h13
        replace h14 : V 14 = (.int .i64 j) := h14
        replace hb := hb.trans (hC.mono hb.size)
        replace hp := blk_ext hp hC
        replace hbf1 := blk_ext hbf1 hC
        replace hbf2 := blk_ext hbf2 hC
        replace hR := Row.ext hR hC
        replace hRS := Row.ext hRS hC
        exact Runs.does (r_ixa (sz := 1) (j := (j).toNat) (congrArg some h13) (congrArg some h14) Try.underlying120 (by kernel_rfl) (by omega) (by omega) rfl) ⟨Below.refl _ _, rfl, nofr rfl⟩
      refine ⟨fun wu16 hC hd => ?_, ?_⟩
      · obtain ⟨h15, _⟩ := hd
        skip
        replace h15 : V 15 = (.pointer (some ⟨rbx, (0 + (j).toNat * 1), none⟩)) := h15
        replace hb := hb.trans (hC.mono hb.size)
        replace hp := blk_ext hp hC
        replace hbf1 := blk_ext hbf1 hC
        replace hbf2 := blk_ext hbf2 hC
        replace hR := Row.ext hR hC
        replace hRS := Row.ext hRS hC
        exact Runs.does (r_load (v := (.pointer (some ⟨bf2, 0, none⟩))) (congrArg some h15) Try.underlying123 rfl (cellsAt_cell (cellsAt_below hel2 hC hlr2) (i := 0) rfl rfl)) ⟨Below.refl _ _, rfl, nofr rfl⟩
      refine ⟨fun wu17 hC hd => ?_, ?_⟩
      · obtain ⟨h16, _⟩ := hd
        skip
        replace h16 : V 16 = (.pointer (some ⟨bf2, 0, none⟩)) := h16
        replace hb := hb.trans (hC.mono hb.size)
        replace hp := blk_ext hp hC
        replace hbf1 := blk_ext hbf1 hC
        replace hbf2 := blk_ext hbf2 hC
        replace hR := Row.ext hR hC
        replace hRS := Row.ext hRS hC
        exact Runs.does (r_nilCheck (congrArg some h16)) ⟨Below.refl _ _, rfl, nofr rfl⟩
      refine ⟨fun wu18 hC hd => ?_, ?_⟩
      · obtain ⟨h17, _⟩ := hd
        skip
        replace h17 : V 17 = (.pointer (some ⟨bf2, 0, none⟩)) := h17
        replace hb := hb.trans (hC.mono hb.size)
        replace hp := blk_ext hp hC
        replace hbf1 := blk_ext hbf1 hC
        replace hbf2 := blk_ext hbf2 hC
        replace hR := Row.ext hR hC
        replace hRS := Row.ext hRS hC
        exact Runs.does (r_fa (congrArg some h17) Try.underlying37 (f := 0) (q := 0) rfl (by kernel_rfl) rfl) ⟨Below.refl _ _, rfl, nofr rfl⟩
      refine ⟨fun wu19 hC hd => ?_, ?_⟩
      · obtain ⟨h18, _⟩ := hd
        skip
        replace h18 : V 18 = (.pointer (some ⟨bf2, 0, none⟩)) := h18
        replace hb := hb.trans (hC.mono hb.size)
        replace hp := blk_ext hp hC
        replace hbf1 := blk_ext hbf1 hC
        replace hbf2 := blk_ext hbf2 hC
        replace hR := Row.ext hR hC
        replace hRS := Row.ext hRS hC
        exact Runs.does (r_loadA (cs := [(.string x2.1), (.string x2.2.1)]) (congrArg some h18) Try.underlying31 rfl (by kernel_rfl) (cellsAt_part (d := 0) (n := 2) (cellsAt_blk hbf2) rfl rfl)) ⟨Below.refl _ _, rfl, nofr rfl⟩
      refine ⟨fun wu20 hC hd => ?_, ?_⟩
      · obtain ⟨h9, h19, _⟩ := hd
        skip
        skip
        replace h9 : V 9 = (.agg #[(.string x1.1), (.string x1.2.1)]) := h9
        replace h19 : V 19 = (.agg #[(.string x2.1), (.string x2.2.1)]) := h19
        replace hb := hb.trans (hC.mono hb.size)
        replace hp := blk_ext hp hC
        replace hbf1 := blk_ext hbf1 hC
        replace hbf2 := blk_ext hbf2 hC
        replace hR := Row.ext hR hC
        replace hRS := Row.ext hRS hC
        exact Runs.does (r_ane (k := 5) (congrArg some h9) (congrArg some h19) (by kernel_rfl) (eqt_struct (xs := #[(.string x1.1), (.string x1.2.1)]) (ys := #[(.string x2.1), (.string x2.2.1)]) Try.underlying31 (by kernel_rfl) (eqf_cons (by kernel_rfl) (fun _ => by kernel_rfl) (fun _ => by kernel_rfl) (eqt_str (a := x1.1) (b := x2.1) Try.underlying9) (eqf_one (by kernel_rfl) (fun _ => by kernel_rfl) (fun _ => by kernel_rfl) (eqt_str (a := x1.2.1) (b := x2.2.1) Try.underlying9)))) rfl) ⟨Below.refl _ _, rfl, nofr rfl⟩
      trivial
    · skip
      clear hf fa; intro V w3 fa he3 hp hnb hf
      have hv0 : V 0 = (.pointer (some ⟨p, 0, none⟩)) := postsHold_at hp 0 rfl
      have hv1 : V 1 = (.pointer (some ⟨p, 0, none⟩)) := postsHold_at hp 1 rfl
      have hv2 : V 2 = (.pointer (some ⟨p, 0, none⟩)) := postsHold_at hp 2 rfl
      have hv3 : V 3 = (.slice (some ⟨rbx, 0, none⟩) ps.length c) := postsHold_at hp 3 rfl
      have hv4 : V 4 = (.int .i64 i) := postsHold_at hp 4 rfl
      have hv5 : V 5 = (.pointer (some ⟨rbx, (0 + (i).toNat * 1), none⟩)) := postsHold_at hp 5 rfl
      have hv6 : V 6 = (.pointer (some ⟨bf1, 0, none⟩)) := postsHold_at hp 6 rfl
      have hv7 : V 7 = (.pointer (some ⟨bf1, 0, none⟩)) := postsHold_at hp 7 rfl
      have hv8 : V 8 = (.pointer (some ⟨bf1, 0, none⟩)) := postsHold_at hp 8 rfl
      have hv9 : V 9 = (.agg #[(.string x1.1), (.string x1.2.1)]) := postsHold_at hp 9 rfl
      have hv10 : V 10 = (.pointer (some ⟨p, 0, none⟩)) := postsHold_at hp 10 rfl
      have hv11 : V 11 = (.pointer (some ⟨p, 0, none⟩)) := postsHold_at hp 11 rfl
      have hv12 : V 12 = (.pointer (some ⟨p, 0, none⟩)) := postsHold_at hp 12 rfl
      have hv13 : V 13 = (.slice (some ⟨rbx, 0, none⟩) ps.length c) := postsHold_at hp 13 rfl
      have hv14 : V 14 = (.int .i64 j) := postsHold_at hp 14 rfl
      have hv15 : V 15 = (.pointer (some ⟨rbx, (0 + (j).toNat * 1), none⟩)) := postsHold_at hp 15 rfl
      have hv16 : V 16 = (.pointer (some ⟨bf2, 0, none⟩)) := postsHold_at hp 16 rfl
      have hv17 : V 17 = (.pointer (some ⟨bf2, 0, none⟩)) := postsHold_at hp 17 rfl
      have hv18 : V 18 = (.pointer (some ⟨bf2, 0, none⟩)) := postsHold_at hp 18 rfl
      have hv19 : V 19 = (.agg #[(.string x2.1), (.string x2.2.1)]) := postsHold_at hp 19 rfl
      have hv20 : V 20 = (.bool (!((decide (x1.1 = x2.1)) && (decide (x1.2.1 = x2.2.1))))) := postsHold_at hp 20 rfl
      simp only [List.take_succ_cons, List.take_zero, insAll, ins, hv0, hv1, hv2, hv3, hv4, hv5, hv6, hv7, hv8, hv9, hv10, hv11, hv12, hv13, hv14, hv15, hv16, hv17, hv18, hv19, hv20] at hf
      clear hp hnb hv0 hv1 hv2 hv3 hv4 hv5 hv6 hv7 hv8 hv9 hv10 hv11 hv12 hv13 hv14 hv15 hv16 hv17 hv18 hv19 hv20
      replace hp := blk_ext hp he3
      replace hbf1 := blk_ext hbf1 he3
      replace hbf2 := blk_ext hbf2 he3
      replace hR := Row.ext hR he3
      replace hRS := Row.ext hRS he3
      replace hF := FRel.map hF (fun bf cs hbf => blk_ext hbf he3)
      replace hPk1 := KT.map hPk1 (fun bf cs hbf => blk_ext hbf he3)
      replace hPk2 := KT.map hPk2 (fun bf cs hbf => blk_ext hbf he3)
      replace hPk3 := KT.map hPk3 (fun bf cs hbf => blk_ext hbf he3)
      replace hZ := Nat.le_trans hZ he3.size
      replace hb := hb.trans (Below.mono he3 hb.size)
      (try simp only [Exit.then, Exit.inBlock, ↓reduceIte, Nat.reduceEqDiff])
      refine hK6 _ _ ?_
      refine wp_cond_split (t := (!((decide (x1.1 = x2.1)) && (decide (x1.2.1 = x2.2.1))))) (hf.ev rfl) (fun hqt39_1 => ?_) (fun hqt39_1 => ?_)
      · have hqt39_1b := hqt39_1
        try simp only [decide_eq_true_eq, Bool.and_eq_true, Bool.or_eq_true, Bool.not_eq_true', decide_eq_false_iff_not, ne_eq, Bool.not_eq_true] at hqt39_1
        refine wp_seq_k (fun K7 hK7 => ?_)
        refine wp_region_lit ?_
        refine sqv hf (r_assign rfl) rfl rfl rfl ?_; clear hf fa; intro fa hf
        refine sqv hf (r_assign rfl) rfl rfl rfl ?_; clear hf fa; intro fa hf
        apply wpList_nil
        (try simp only [Exit.then, Exit.inBlock, ↓reduceIte, Nat.reduceEqDiff])
        refine hK7 _ _ ?_
        refine wp_ret ?_
        (try simp only [Exit.then, Exit.inBlock])
        refine ret2 hf rfl rfl rfl ?_
        have hy : liveL L i = true ∧ liveL L j = true := by rw [← hF0, ← hF0]; exact hlb
        have hn : ¬ ((gotL L i).1 = (gotL L j).1 ∧ (gotL L i).2.1 = (gotL L j).2.1) := by rw [hgo1, hgo2]; have h := hqt39_1; intro h2; simp [h2.1, h2.2] at h
        have hD : swR L Sl_ i j = (0, 66, Sl_) := by unfold swR; rw [if_pos hy, if_neg hn]
        rw [hD]; exact ⟨rfl, ⟨_, _, c, d, ps, hp, hR, hRS, hBp, hps, hln, hF⟩, hb, hPk1, hPk2, hPk3, hZ⟩
      · have hqt39_1b := hqt39_1
        replace hqt39_1 := Bool.eq_false_iff.1 hqt39_1
        try simp only [ne_eq, decide_eq_true_eq, Bool.and_eq_true, Bool.or_eq_true, Bool.not_eq_true', decide_eq_false_iff_not] at hqt39_1
        refine wp_skip ?_
        (try simp only [Exit.then, Exit.inBlock, ↓reduceIte, Nat.reduceEqDiff])
        refine hK5 _ _ ?_
        refine wp_seq_k (fun K8 hK8 => ?_)
        refine wp_region_lit ?_
        refine sqv hf (r_move rfl) rfl rfl rfl ?_; clear hf fa; intro fa hf
        refine sqv hf (r_nilCheck rfl) rfl rfl rfl ?_; clear hf fa; intro fa hf
        refine sqv hf (r_fa rfl Try.underlying122 (f := 1) (q := 1) rfl (by kernel_rfl) rfl) rfl rfl rfl ?_; clear hf fa; intro fa hf
        refine sqv hf (r_load (v := (.slice b Sl_.length d)) rfl Try.underlying33 rfl (cell_blk hp rfl)) rfl rfl rfl ?_; clear hf fa; intro fa hf
        refine sqv hf (r_move rfl) rfl rfl rfl ?_; clear hf fa; intro fa hf
        obtain ⟨rb1, rfl, hbbrb1, hlbrb1⟩ := Row.some hRS (by first | omega | (simp only [Sl.list_length, List.length_set, List.length_take, List.length_append, List.length_replicate, List.length_cons, List.length_nil, List.length_map, nums_len]; omega))
        have hy3 := getD_at (l := Sl_) (j := (i).toNat) (0 : Int) (by first | omega | (simp only [Sl.list_length, List.length_set, List.length_take, List.length_append, List.length_replicate, List.length_cons, List.length_nil, List.length_map, nums_len]; omega))
        have hel3 := RdS.at (Row.rd (by intros; rfl) hRS) hy3
        obtain ⟨_, _, hab, hlr3, hel3⟩ := hel3
        cases hab
        refine sqv hf (r_ixa (sz := 1) (j := (i).toNat) rfl rfl Try.underlying33 (by kernel_rfl) (by omega) (by omega) rfl) rfl rfl rfl ?_; clear hf fa; intro fa hf
        refine sqv hf (r_load (v := (.int .i64 ((Sl_.getD (i).toNat (0 : Int))))) rfl Try.underlying3 rfl (cellsAt_cell hel3 (i := 0) rfl rfl)) rfl rfl rfl ?_; clear hf fa; intro fa hf
        refine sqv hf (r_assign rfl) rfl rfl rfl ?_; clear hf fa; intro fa hf
        apply wpList_nil
        (try simp only [Exit.then, Exit.inBlock, ↓reduceIte, Nat.reduceEqDiff])
        refine hK8 _ _ ?_
        refine wp_seq_k (fun K9 hK9 => ?_)
        refine wp_region_lit ?_
        refine sqv hf (r_move rfl) rfl rfl rfl ?_; clear hf fa; intro fa hf
        refine sqv hf (r_nilCheck rfl) rfl rfl rfl ?_; clear hf fa; intro fa hf
        refine sqv hf (r_fa rfl Try.underlying122 (f := 1) (q := 1) rfl (by kernel_rfl) rfl) rfl rfl rfl ?_; clear hf fa; intro fa hf
        refine sqv hf (r_load (v := (.slice (some ⟨rb1, 0, none⟩) Sl_.length d)) rfl Try.underlying33 rfl (cell_blk hp rfl)) rfl rfl rfl ?_; clear hf fa; intro fa hf
        refine sqv hf (r_move rfl) rfl rfl rfl ?_; clear hf fa; intro fa hf
        refine sqv hf (r_move rfl) rfl rfl rfl ?_; clear hf fa; intro fa hf
        have hy4 := getD_at (l := Sl_) (j := (i).toNat) (0 : Int) (by first | omega | (simp only [Sl.list_length, List.length_set, List.length_take, List.length_append, List.length_replicate, List.length_cons, List.length_nil, List.length_map, nums_len]; omega))
        have hel4 := RdS.at (Row.rd (by intros; rfl) hRS) hy4
        obtain ⟨_, _, hab, hlr4, hel4⟩ := hel4
        cases hab
        refine sqv hf (r_ixa (sz := 1) (j := (i).toNat) rfl rfl Try.underlying33 (by kernel_rfl) (by omega) (by omega) rfl) rfl rfl rfl ?_; clear hf fa; intro fa hf
        refine sqn hf (d_rowset (u := j) (j := (i).toNat) (by intros; rfl) (by intro x u hu; simp only [vInt, List.mem_singleton] at hu; subst hu; rfl) rfl rfl (by first | rfl | (simp; done) | (simp; omega)) (by kernel_rfl) hRS (by first | omega | (simp only [Sl.list_length, List.length_set, List.length_take, List.length_append, List.length_replicate, List.length_cons, List.length_nil, List.length_map, nums_len]; omega)) (by omega)) rfl rfl ?_; clear hf fa; rintro fa _ w4 ⟨hr1, hg1⟩ hf
        replace hp := blk_grown hp hg1 (fun e => Row.ne_type hRS hp rfl (show some rb1 = some p by rw [e]))
        replace hbf1 := blk_grown hbf1 hg1 (fun e => Row.ne_type hRS hbf1 rfl (show some rb1 = some bf1 by rw [e]))
        replace hbf2 := blk_grown hbf2 hg1 (fun e => Row.ne_type hRS hbf2 rfl (show some rb1 = some bf2 by rw [e]))
        replace hR := Row.grown hR hg1 (fun e => Row.ne_row hR hRS rfl rb1 e rfl)
        replace hZ := Nat.le_trans hZ hg1.size
        replace hF := FRel.map hF (fun bf cs hbf => blk_grown hbf hg1 (fun e => Row.ne_type hRS hbf rfl (show some rb1 = some bf by rw [e])))
        replace hPk1 := KT.map hPk1 (fun bf cs hbf => blk_grown hbf hg1 (fun e => Row.ne_type hRS hbf rfl (show some rb1 = some bf by rw [e])))
        replace hPk2 := KT.map hPk2 (fun bf cs hbf => blk_grown hbf hg1 (fun e => Row.ne_type hRS hbf rfl (show some rb1 = some bf by rw [e])))
        replace hPk3 := KT.map hPk3 (fun bf cs hbf => blk_grown hbf hg1 (fun e => Row.ne_type hRS hbf rfl (show some rb1 = some bf by rw [e])))
        replace hb := hb.trans (grown_below hg1 hb.size (by first | omega | (have := Row.lt hRS _ rfl; omega)))
        apply wpList_nil
        (try simp only [Exit.then, Exit.inBlock, ↓reduceIte, Nat.reduceEqDiff])
        refine hK9 _ _ ?_
        refine wp_seq_k (fun K10 hK10 => ?_)
        refine wp_region_lit ?_
        refine sqv hf (r_move rfl) rfl rfl rfl ?_; clear hf fa; intro fa hf
        refine sqv hf (r_assign rfl) rfl rfl rfl ?_; clear hf fa; intro fa hf
        refine sqv hf (r_assign rfl) rfl rfl rfl ?_; clear hf fa; intro fa hf
        apply wpList_nil
        (try simp only [Exit.then, Exit.inBlock, ↓reduceIte, Nat.reduceEqDiff])
        refine hK10 _ _ ?_
        refine wp_ret ?_
        (try simp only [Exit.then, Exit.inBlock])
        refine ret2 hf rfl rfl rfl ?_
        have hy : liveL L i = true ∧ liveL L j = true := by rw [← hF0, ← hF0]; exact hlb
        have hn : (gotL L i).1 = (gotL L j).1 ∧ (gotL L i).2.1 = (gotL L j).2.1 := by rw [hgo1, hgo2]; have h := hqt39_1; simpa using h
        have hD : swR L Sl_ i j = (Sl_.getD i.toNat 0, 0, Sl_.set i.toNat j) := by unfold swR; rw [if_pos hy, if_pos hn]
        have hp2 := hp
        have hzS := hr1
        rw [hD]; exact ⟨rfl, ⟨_, _, c, d, ps, by rw [List.length_set]; exact hp2, hR, hzS.relen, hBp, hps, by rw [List.length_set]; exact hln, hF⟩, hb, hPk1, hPk2, hPk3, hZ⟩

set_option maxHeartbeats 1000000 in
set_option maxRecDepth 100000 in
theorem addK_raw (p : Nat) (a b : Option Addr) (c d : Nat) (ps : List (Option Addr)) (Sl_ : List Int) (w0 w : World) (hb : Below w0.heap.size w0 w) (hp : w.heap[p]? = some (.cells #[(.slice a ps.length c), (.slice b Sl_.length d)] 122 (0, 0))) (hR : Row 1 vPF 123 w0.heap.size w (.slice a ps.length c) ps) (hRS : Row 1 (vInt .i64) 3 w0.heap.size w (.slice b Sl_.length d) Sl_) (hBp : w0.heap.size ≤ p) (hps : ps.length ≤ 1000) (hln : ps.length = Sl_.length) (L : List (Option MFn)) (hF : FRel w ps L) (x : MFn) (hps2 : ps.length + 1 ≤ 1000) : Calls Try.prog 12 #[(.pointer (some ⟨p, 0, none⟩)), (.agg #[(.string x.1), (.string x.2.1), (.int .i64 x.2.2.1), (.string ⟨#[]⟩), (.slice x.2.2.2.1 x.2.2.2.2 x.2.2.2.2), (.slice none 0 0), (.slice none 0 0)])] w fun e w' => e = .returned (.int .i64 ((L.length : Nat) : Int)) ∧ FSt w0.heap.size w' p (L ++ [some x]) (Sl_ ++ [((L.length : Nat) : Int)]) ∧ Below w0.heap.size w0 w' ∧ Pk w w' := by
  have hcR := Row.caps hR
  have hcS := Row.caps hRS
  have hpl := (Array.getElem?_eq_some_iff.1 hp).1
  have hPk1 := KT.refl 132 w
  have hPk2 := KT.refl 127 w
  have hPk3 := KT.refl 28 w
  have hZ := Nat.le_refl w.heap.size
  refine sx_enter (L := [(0, (.pointer (some ⟨p, 0, none⟩))), (1, (.agg #[(.string x.1), (.string x.2.1), (.int .i64 x.2.2.1), (.string ⟨#[]⟩), (.slice x.2.2.2.1 x.2.2.2.2 x.2.2.2.2), (.slice none 0 0), (.slice none 0 0)]))]) Try.func12 rfl rfl rfl rfl (fun fa hf => ?_)
  refine wp_seq_k (fun K1 hK1 => ?_)
  refine wp_region_lit ?_
  refine sqdt hf (d_box (cs := #[(.string x.1), (.string x.2.1), (.int .i64 x.2.2.1), (.string ⟨#[]⟩), (.slice x.2.2.2.1 x.2.2.2.2 x.2.2.2.2), (.slice none 0 0), (.slice none 0 0)]) rfl rfl) rfl rfl rfl ?_; clear hf fa; rintro fa _ w1 ⟨b1, rfl, hle1, hk1, he1⟩ hf
  have hBb1 : w0.heap.size ≤ b1 := Nat.le_trans hb.size hle1
  have : p < b1 := Nat.lt_of_lt_of_le (blk_lt hp) hle1
  replace hp := blk_ext hp he1
  replace hR := Row.ext hR he1
  replace hRS := Row.ext hRS he1
  replace hF := FRel.map hF (fun bf cs hbf => blk_ext hbf he1)
  replace hPk1 := KT.map hPk1 (fun bf cs hbf => blk_ext hbf he1)
  replace hPk2 := KT.map hPk2 (fun bf cs hbf => blk_ext hbf he1)
  replace hPk3 := KT.map hPk3 (fun bf cs hbf => blk_ext hbf he1)
  replace hZ := Nat.le_trans hZ he1.size
  replace hb := hb.trans (Below.mono he1 hb.size)
  refine sqv hf (r_assign rfl) rfl rfl rfl ?_; clear hf fa; intro fa hf
  apply wpList_nil
  (try simp only [Exit.then, Exit.inBlock, ↓reduceIte, Nat.reduceEqDiff])
  refine hK1 _ _ ?_
  refine wp_seq_k (fun K2 hK2 => ?_)
  refine wp_region_lit ?_
  refine sqv hf (r_move rfl) rfl rfl rfl ?_; clear hf fa; intro fa hf
  refine sqv hf (r_move rfl) rfl rfl rfl ?_; clear hf fa; intro fa hf
  refine sqv hf (r_nilCheck rfl) rfl rfl rfl ?_; clear hf fa; intro fa hf
  refine sqv hf (r_fa rfl Try.underlying122 (f := 0) (q := 0) rfl (by kernel_rfl) rfl) rfl rfl rfl ?_; clear hf fa; intro fa hf
  refine sqv hf (r_load (v := (.slice a ps.length c)) rfl Try.underlying120 rfl (cell_blk hp rfl)) rfl rfl rfl ?_; clear hf fa; intro fa hf
  refine sqdt hf (d_bslice (z := (.pointer none)) (sz := 1) (vs := [(0, (.pointer (some ⟨b1, 0, none⟩)))]) (cs := #[(.pointer (some ⟨b1, 0, none⟩))]) rfl Try.underlying120 (by kernel_rfl) rfl (by kernel_rfl)) rfl rfl rfl ?_; clear hf fa; rintro fa _ w2 ⟨b2, rfl, hle2, hk2, he2⟩ hf
  have hBb2 : w0.heap.size ≤ b2 := Nat.le_trans hb.size hle2
  have : p < b2 := Nat.lt_of_lt_of_le (blk_lt hp) hle2
  have : b1 < b2 := Nat.lt_of_lt_of_le (blk_lt hk1) hle2
  have hnr1 : (Value.slice a (ps.length) c).ownBlock ≠ some b2 := fun hq => by have := (Row.lt hR _ hq).2; omega
  have hnl1 : ∀ q, (Value.slice a (ps.length) c).ownBlock = some q → q < b2 := fun q hq => Nat.lt_of_lt_of_le (Row.lt hR q hq).2 hle2
  replace hp := blk_ext hp he2
  replace hk1 := blk_ext hk1 he2
  replace hR := Row.ext hR he2
  replace hRS := Row.ext hRS he2
  replace hF := FRel.map hF (fun bf cs hbf => blk_ext hbf he2)
  replace hPk1 := KT.map hPk1 (fun bf cs hbf => blk_ext hbf he2)
  replace hPk2 := KT.map hPk2 (fun bf cs hbf => blk_ext hbf he2)
  replace hPk3 := KT.map hPk3 (fun bf cs hbf => blk_ext hbf he2)
  replace hZ := Nat.le_trans hZ he2.size
  replace hb := hb.trans (Below.mono he2 hb.size)
  have hs1 := Row.rd (by intros; rfl) (Row.of_new (k := 1) (V := vPF) (l := [(some (⟨b1, 0, none⟩ : Addr))]) hk2 (Nat.le_refl _) rfl rfl (Nat.le_of_ble_eq_true rfl))
  refine sqdt hf (d_append (V := vPF) (k := 1) (e := 123) (bytes := 8) (z := (.pointer none)) (news := [(some (⟨b1, 0, none⟩ : Addr))]) (base := w0.heap.size) (by intros; rfl) (by exact onePF) rfl rfl Try.underlying120 (by kernel_rfl) rfl rfl rfl hR hs1 rfl (fun h => by cases h) (by first | omega | (simp only [List.length_cons, List.length_nil, List.length_append, nums_len]; omega)) (by have := hb.size; omega)) rfl rfl rfl ?_; clear hf fa; rintro fa v w3 ⟨hr1, hg1⟩ hf; obtain ⟨ra1, rc1, rfl, hcrc1, hmrc1⟩ := Row.slice hr1
  replace hp := blk_row' hp hg1 (Row.ne_type hR hp rfl)
  replace hk1 := blk_row' hk1 hg1 (Row.ne_type hR hk1 rfl)
  replace hRS := Row.grown' hRS hg1 (Row.ne_row hRS hR rfl)
  replace hZ := Nat.le_trans hZ hg1.size
  replace hF := FRel.map hF (fun bf cs hbf => blk_row' hbf hg1 (Row.ne_type hR hbf rfl))
  replace hPk1 := KT.map hPk1 (fun bf cs hbf => blk_row' hbf hg1 (Row.ne_type hR hbf rfl))
  replace hPk2 := KT.map hPk2 (fun bf cs hbf => blk_row' hbf hg1 (Row.ne_type hR hbf rfl))
  replace hPk3 := KT.map hPk3 (fun bf cs hbf => blk_row' hbf hg1 (Row.ne_type hR hbf rfl))
  replace hb := hb.trans (row_below hR hg1 hb.size (by have := hb.size; omega))
  refine sqv hf (r_nilCheck rfl) rfl rfl rfl ?_; clear hf fa; intro fa hf
  refine sqv hf (r_fa rfl Try.underlying122 (f := 0) (q := 0) rfl (by kernel_rfl) rfl) rfl rfl rfl ?_; clear hf fa; intro fa hf
  refine sqn hf (d_storeK (T := 122) (v := (.slice ra1 (((ps ++ [(some (⟨b1, 0, none⟩ : Addr))])).length) rc1)) (cs := #[(.slice a ps.length c), (.slice b Sl_.length d)]) (cs' := #[(.slice ra1 (((ps ++ [(some (⟨b1, 0, none⟩ : Addr))])).length) rc1), (.slice b Sl_.length d)]) rfl rfl (by kernel_rfl) (by kernel_rfl) hp (by kernel_rfl) (by kernel_rfl)) rfl rfl ?_; clear hf fa; rintro fa _ w4 ⟨hk3, hg2⟩ hf
  replace hk1 := blk_grown hk1 hg2 (by omega)
  replace hr1 := Row.grown hr1 hg2 (Row.ne_type hr1 hp rfl)
  replace hRS := Row.grown hRS hg2 (Row.ne_type hRS hp rfl)
  replace hZ := Nat.le_trans hZ hg2.size
  replace hF := FRel.map hF (fun bf cs hbf => blk_grown hbf hg2 (blk_ty hbf hp rfl))
  replace hPk1 := KT.map hPk1 (fun bf cs hbf => blk_grown hbf hg2 (blk_ty hbf hp rfl))
  replace hPk2 := KT.map hPk2 (fun bf cs hbf => blk_grown hbf hg2 (blk_ty hbf hp rfl))
  replace hPk3 := KT.map hPk3 (fun bf cs hbf => blk_grown hbf hg2 (blk_ty hbf hp rfl))
  replace hb := hb.trans (grown_below hg2 hb.size hBp)
  apply wpList_nil
  (try simp only [Exit.then, Exit.inBlock, ↓reduceIte, Nat.reduceEqDiff])
  refine hK2 _ _ ?_
  refine wp_seq_k (fun K3 hK3 => ?_)
  have hap : (ps ++ [(some (⟨b1, 0, none⟩ : Addr))]).length = ps.length + 1 := by rw [List.length_append]; rfl
  have hlW : p < w4.heap.size := blk_lt hk3
  have hlV := fun q (hq : ((Value.slice b Sl_.length d)).ownBlock = some q) => (Row.lt hRS q hq).2
  refine wp_region_vnT 13 (fun S wq => GO w4 p (Value.slice b Sl_.length d) wq ∧ (¬ S 12 → Row 1 (vInt .i64) 3 (w0.heap.size) wq (Value.slice b Sl_.length d) Sl_) ∧ (¬ S 4 → wq.heap[p]? = some (.cells #[(.slice ra1 (((ps ++ [(some (⟨b1, 0, none⟩ : Addr))])).length) rc1), (.slice b Sl_.length d)] 122 (0, 0))) ∧ (S 4 → wq.heap[p]? = some (.cells #[(.slice ra1 (((ps ++ [(some (⟨b1, 0, none⟩ : Addr))])).length) rc1), (.slice b Sl_.length d)] 122 (0, 0))))
    (fun V S => [(fun x _ => x = (.pointer (some ⟨p, 0, none⟩))), (fun x _ => x = (.pointer (some ⟨p, 0, none⟩))), (fun x _ => x = (.pointer (some ⟨p, 0, none⟩))), (fun x _ => x = (.pointer (some ⟨p, 1, none⟩))), (fun x _ => x = (.slice b Sl_.length d)), (fun x _ => x = (.pointer (some ⟨p, 0, none⟩))), (fun x _ => x = (.pointer (some ⟨p, 0, none⟩))), (fun x _ => x = (.pointer (some ⟨p, 0, none⟩))), (fun x _ => x = (.slice ra1 (((ps ++ [(some (⟨b1, 0, none⟩ : Addr))])).length) rc1)), (fun x _ => x = (.int .i64 ((((ps ++ [(some (⟨b1, 0, none⟩ : Addr))])).length : Nat) : Int))), (fun x _ => x = (.int .i64 ((ps.length : Nat) : Int))), (fun x wq => ∃ b, x = .slice (some ⟨b, 0, none⟩) 1 1 ∧ w4.heap.size ≤ b ∧ wq.heap[b]? = some (.cells #[(.int .i64 ((ps.length : Nat) : Int))] 3 (0, 0))), (fun x wq => ∃ a c, x = .slice a (Sl_ ++ [((ps.length : Nat) : Int)]).length c ∧ Row 1 (vInt .i64) 3 (w0.heap.size) wq x (Sl_ ++ [((ps.length : Nat) : Int)]))])
    [11]
    [[], [], [1], [2], [3], [], [5], [6], [7], [8], [9], [10], [4, 11], [], [], []]
    hf (by kernel_rfl) (by kernel_rfl) (by kernel_rfl) (fun _ _ => rfl) (fun S hS => ⟨(GO.refl _ _ _).below (Below.refl _ _).drew, fun _ => Row.ext hRS (Below.refl _ _).drew, fun _ => blk_ext hk3 (Below.refl _ _).drew, fun h => absurd h (hS _)⟩) (fun _ _ _ _ _ _ => rfl) ?_ ?_
  · skip
    intro V
    have hKP : ∀ (i : Nat) (S : Nat → Prop) (wk : World), ∀ j v w', (((fun (S : Nat → Prop) => ([(fun x _ => x = (.pointer (some ⟨p, 0, none⟩))), (fun x _ => x = (.pointer (some ⟨p, 0, none⟩))), (fun x _ => x = (.pointer (some ⟨p, 0, none⟩))), (fun x _ => x = (.pointer (some ⟨p, 1, none⟩))), (fun x _ => x = (.slice b Sl_.length d)), (fun x _ => x = (.pointer (some ⟨p, 0, none⟩))), (fun x _ => x = (.pointer (some ⟨p, 0, none⟩))), (fun x _ => x = (.pointer (some ⟨p, 0, none⟩))), (fun x _ => x = (.slice ra1 (((ps ++ [(some (⟨b1, 0, none⟩ : Addr))])).length) rc1)), (fun x _ => x = (.int .i64 ((((ps ++ [(some (⟨b1, 0, none⟩ : Addr))])).length : Nat) : Int))), (fun x _ => x = (.int .i64 ((ps.length : Nat) : Int))), (fun x wq => ∃ b, x = .slice (some ⟨b, 0, none⟩) 1 1 ∧ w4.heap.size ≤ b ∧ wq.heap[b]? = some (.cells #[(.int .i64 ((ps.length : Nat) : Int))] 3 (0, 0))), (fun x wq => ∃ a c, x = .slice a (Sl_ ++ [((ps.length : Nat) : Int)]).length c ∧ Row 1 (vInt .i64) 3 (w0.heap.size) wq x (Sl_ ++ [((ps.length : Nat) : Int)]))] : List (Value → World → Prop))) S).getD j (fun _ _ => True)) v wk → Below wk.heap.size wk w' → (((fun (S : Nat → Prop) => ([(fun x _ => x = (.pointer (some ⟨p, 0, none⟩))), (fun x _ => x = (.pointer (some ⟨p, 0, none⟩))), (fun x _ => x = (.pointer (some ⟨p, 0, none⟩))), (fun x _ => x = (.pointer (some ⟨p, 1, none⟩))), (fun x _ => x = (.slice b Sl_.length d)), (fun x _ => x = (.pointer (some ⟨p, 0, none⟩))), (fun x _ => x = (.pointer (some ⟨p, 0, none⟩))), (fun x _ => x = (.pointer (some ⟨p, 0, none⟩))), (fun x _ => x = (.slice ra1 (((ps ++ [(some (⟨b1, 0, none⟩ : Addr))])).length) rc1)), (fun x _ => x = (.int .i64 ((((ps ++ [(some (⟨b1, 0, none⟩ : Addr))])).length : Nat) : Int))), (fun x _ => x = (.int .i64 ((ps.length : Nat) : Int))), (fun x wq => ∃ b, x = .slice (some ⟨b, 0, none⟩) 1 1 ∧ w4.heap.size ≤ b ∧ wq.heap[b]? = some (.cells #[(.int .i64 ((ps.length : Nat) : Int))] 3 (0, 0))), (fun x wq => ∃ a c, x = .slice a (Sl_ ++ [((ps.length : Nat) : Int)]).length c ∧ Row 1 (vInt .i64) 3 (w0.heap.size) wq x (Sl_ ++ [((ps.length : Nat) : Int)]))] : List (Value → World → Prop))) (ad i S)).getD j (fun _ _ => True)) v w' := by
      intro i S wk j v w' h hB
      match j with
      | 0 =>
        exact h
      | 1 =>
        exact h
      | 2 =>
        exact h
      | 3 =>
        exact h
      | 4 =>
        exact h
      | 5 =>
        exact h
      | 6 =>
        exact h
      | 7 =>
        exact h
      | 8 =>
        exact h
      | 9 =>
        exact h
      | 10 =>
        exact h
      | 11 =>
        obtain ⟨b, e1, e2, e3⟩ := h
        exact ⟨b, e1, e2, blk_ext e3 hB⟩
      | 12 =>
        exact keptApp _ _ _ h hB
      | _ + 13 => trivial
    refine ⟨fun S wu0 hC hS hd hi => ?_, ?_⟩
    · skip
      replace hC : GO w4 p (Value.slice b Sl_.length d) wu0 ∧ (¬ S 12 → Row 1 (vInt .i64) 3 (w0.heap.size) wu0 (Value.slice b Sl_.length d) Sl_) ∧ (¬ S 4 → wu0.heap[p]? = some (.cells #[(.slice ra1 (((ps ++ [(some (⟨b1, 0, none⟩ : Addr))])).length) rc1), (.slice b Sl_.length d)] 122 (0, 0))) ∧ (S 4 → wu0.heap[p]? = some (.cells #[(.slice ra1 (((ps ++ [(some (⟨b1, 0, none⟩ : Addr))])).length) rc1), (.slice b Sl_.length d)] 122 (0, 0))) := hC
      refine uv_plain (C := (fun S wq => GO w4 p (Value.slice b Sl_.length d) wq ∧ (¬ S 12 → Row 1 (vInt .i64) 3 (w0.heap.size) wq (Value.slice b Sl_.length d) Sl_) ∧ (¬ S 4 → wq.heap[p]? = some (.cells #[(.slice ra1 (((ps ++ [(some (⟨b1, 0, none⟩ : Addr))])).length) rc1), (.slice b Sl_.length d)] 122 (0, 0))) ∧ (S 4 → wq.heap[p]? = some (.cells #[(.slice ra1 (((ps ++ [(some (⟨b1, 0, none⟩ : Addr))])).length) rc1), (.slice b Sl_.length d)] 122 (0, 0))))) (hKP 0 S wu0) (fun w' h1 h2 => ⟨h1.1.below h2, fun hn => Row.ext (h1.2.1 (fun hs => hn (.inr hs))) h2, fun hn => blk_ext (h1.2.2.1 (fun hs => hn (.inr hs))) h2, fun hs => blk_ext (h1.2.2.2 (by rcases hs with e | hs; exact absurd e (by decide); exact hs)) h2⟩) hC hS ?_
      obtain ⟨hC, hCr, hCo, hCn⟩ := hC
      replace hk1 := blk_go hk1 hC (by omega) (Row.ne_type hRS hk1 rfl)
      replace hr1 := Row.go hr1 hC (Row.ne_type hr1 hk3 rfl) (Row.ne_row hr1 hRS rfl)
      have hKb : wu0.heap[p]? = some (.cells #[(.slice ra1 (((ps ++ [(some (⟨b1, 0, none⟩ : Addr))])).length) rc1), (.slice b Sl_.length d)] 122 (0, 0)) := by by_cases hz : S 4; exact hCn hz; exact hCo hz
      replace hk3 := hKb
      exact Runs.does (r_move rfl) ⟨Below.refl _ _, rfl, nofr rfl⟩
    refine ⟨fun S wu1 hC hS hd hi => ?_, ?_⟩
    · skip
      replace hC : GO w4 p (Value.slice b Sl_.length d) wu1 ∧ (¬ S 12 → Row 1 (vInt .i64) 3 (w0.heap.size) wu1 (Value.slice b Sl_.length d) Sl_) ∧ (¬ S 4 → wu1.heap[p]? = some (.cells #[(.slice ra1 (((ps ++ [(some (⟨b1, 0, none⟩ : Addr))])).length) rc1), (.slice b Sl_.length d)] 122 (0, 0))) ∧ (S 4 → wu1.heap[p]? = some (.cells #[(.slice ra1 (((ps ++ [(some (⟨b1, 0, none⟩ : Addr))])).length) rc1), (.slice b Sl_.length d)] 122 (0, 0))) := hC
      refine uv_plain (C := (fun S wq => GO w4 p (Value.slice b Sl_.length d) wq ∧ (¬ S 12 → Row 1 (vInt .i64) 3 (w0.heap.size) wq (Value.slice b Sl_.length d) Sl_) ∧ (¬ S 4 → wq.heap[p]? = some (.cells #[(.slice ra1 (((ps ++ [(some (⟨b1, 0, none⟩ : Addr))])).length) rc1), (.slice b Sl_.length d)] 122 (0, 0))) ∧ (S 4 → wq.heap[p]? = some (.cells #[(.slice ra1 (((ps ++ [(some (⟨b1, 0, none⟩ : Addr))])).length) rc1), (.slice b Sl_.length d)] 122 (0, 0))))) (hKP 1 S wu1) (fun w' h1 h2 => ⟨h1.1.below h2, fun hn => Row.ext (h1.2.1 (fun hs => hn (.inr hs))) h2, fun hn => blk_ext (h1.2.2.1 (fun hs => hn (.inr hs))) h2, fun hs => blk_ext (h1.2.2.2 (by rcases hs with e | hs; exact absurd e (by decide); exact hs)) h2⟩) hC hS ?_
      obtain ⟨hC, hCr, hCo, hCn⟩ := hC
      replace hk1 := blk_go hk1 hC (by omega) (Row.ne_type hRS hk1 rfl)
      replace hr1 := Row.go hr1 hC (Row.ne_type hr1 hk3 rfl) (Row.ne_row hr1 hRS rfl)
      have hKb : wu1.heap[p]? = some (.cells #[(.slice ra1 (((ps ++ [(some (⟨b1, 0, none⟩ : Addr))])).length) rc1), (.slice b Sl_.length d)] 122 (0, 0)) := by by_cases hz : S 4; exact hCn hz; exact hCo hz
      replace hk3 := hKb
      exact Runs.does (r_move rfl) ⟨Below.refl _ _, rfl, nofr rfl⟩
    refine ⟨fun S wu2 hC hS hd hi => ?_, ?_⟩
    · skip
      replace hC : GO w4 p (Value.slice b Sl_.length d) wu2 ∧ (¬ S 12 → Row 1 (vInt .i64) 3 (w0.heap.size) wu2 (Value.slice b Sl_.length d) Sl_) ∧ (¬ S 4 → wu2.heap[p]? = some (.cells #[(.slice ra1 (((ps ++ [(some (⟨b1, 0, none⟩ : Addr))])).length) rc1), (.slice b Sl_.length d)] 122 (0, 0))) ∧ (S 4 → wu2.heap[p]? = some (.cells #[(.slice ra1 (((ps ++ [(some (⟨b1, 0, none⟩ : Addr))])).length) rc1), (.slice b Sl_.length d)] 122 (0, 0))) := hC
      refine uv_plain (C := (fun S wq => GO w4 p (Value.slice b Sl_.length d) wq ∧ (¬ S 12 → Row 1 (vInt .i64) 3 (w0.heap.size) wq (Value.slice b Sl_.length d) Sl_) ∧ (¬ S 4 → wq.heap[p]? = some (.cells #[(.slice ra1 (((ps ++ [(some (⟨b1, 0, none⟩ : Addr))])).length) rc1), (.slice b Sl_.length d)] 122 (0, 0))) ∧ (S 4 → wq.heap[p]? = some (.cells #[(.slice ra1 (((ps ++ [(some (⟨b1, 0, none⟩ : Addr))])).length) rc1), (.slice b Sl_.length d)] 122 (0, 0))))) (hKP 2 S wu2) (fun w' h1 h2 => ⟨h1.1.below h2, fun hn => Row.ext (h1.2.1 (fun hs => hn (.inr hs))) h2, fun hn => blk_ext (h1.2.2.1 (fun hs => hn (.inr hs))) h2, fun hs => blk_ext (h1.2.2.2 (by rcases hs with e | hs; exact absurd e (by decide); exact hs)) h2⟩) hC hS ?_
      obtain ⟨hC, hCr, hCo, hCn⟩ := hC
      have h1 := hS.post 1 (hd 1 (by decide))
      replace h1 : V 1 = (.pointer (some ⟨p, 0, none⟩)) := h1
      replace hk1 := blk_go hk1 hC (by omega) (Row.ne_type hRS hk1 rfl)
      replace hr1 := Row.go hr1 hC (Row.ne_type hr1 hk3 rfl) (Row.ne_row hr1 hRS rfl)
      have hKb : wu2.heap[p]? = some (.cells #[(.slice ra1 (((ps ++ [(some (⟨b1, 0, none⟩ : Addr))])).length) rc1), (.slice b Sl_.length d)] 122 (0, 0)) := by by_cases hz : S 4; exact hCn hz; exact hCo hz
      replace hk3 := hKb
      exact Runs.does (r_nilCheck (congrArg some h1)) ⟨Below.refl _ _, rfl, nofr rfl⟩
    refine ⟨fun S wu3 hC hS hd hi => ?_, ?_⟩
    · skip
      replace hC : GO w4 p (Value.slice b Sl_.length d) wu3 ∧ (¬ S 12 → Row 1 (vInt .i64) 3 (w0.heap.size) wu3 (Value.slice b Sl_.length d) Sl_) ∧ (¬ S 4 → wu3.heap[p]? = some (.cells #[(.slice ra1 (((ps ++ [(some (⟨b1, 0, none⟩ : Addr))])).length) rc1), (.slice b Sl_.length d)] 122 (0, 0))) ∧ (S 4 → wu3.heap[p]? = some (.cells #[(.slice ra1 (((ps ++ [(some (⟨b1, 0, none⟩ : Addr))])).length) rc1), (.slice b Sl_.length d)] 122 (0, 0))) := hC
      refine uv_plain (C := (fun S wq => GO w4 p (Value.slice b Sl_.length d) wq ∧ (¬ S 12 → Row 1 (vInt .i64) 3 (w0.heap.size) wq (Value.slice b Sl_.length d) Sl_) ∧ (¬ S 4 → wq.heap[p]? = some (.cells #[(.slice ra1 (((ps ++ [(some (⟨b1, 0, none⟩ : Addr))])).length) rc1), (.slice b Sl_.length d)] 122 (0, 0))) ∧ (S 4 → wq.heap[p]? = some (.cells #[(.slice ra1 (((ps ++ [(some (⟨b1, 0, none⟩ : Addr))])).length) rc1), (.slice b Sl_.length d)] 122 (0, 0))))) (hKP 3 S wu3) (fun w' h1 h2 => ⟨h1.1.below h2, fun hn => Row.ext (h1.2.1 (fun hs => hn (.inr hs))) h2, fun hn => blk_ext (h1.2.2.1 (fun hs => hn (.inr hs))) h2, fun hs => blk_ext (h1.2.2.2 (by rcases hs with e | hs; exact absurd e (by decide); exact hs)) h2⟩) hC hS ?_
      obtain ⟨hC, hCr, hCo, hCn⟩ := hC
      have h2 := hS.post 2 (hd 2 (by decide))
      replace h2 : V 2 = (.pointer (some ⟨p, 0, none⟩)) := h2
      replace hk1 := blk_go hk1 hC (by omega) (Row.ne_type hRS hk1 rfl)
      replace hr1 := Row.go hr1 hC (Row.ne_type hr1 hk3 rfl) (Row.ne_row hr1 hRS rfl)
      have hKb : wu3.heap[p]? = some (.cells #[(.slice ra1 (((ps ++ [(some (⟨b1, 0, none⟩ : Addr))])).length) rc1), (.slice b Sl_.length d)] 122 (0, 0)) := by by_cases hz : S 4; exact hCn hz; exact hCo hz
      replace hk3 := hKb
      exact Runs.does (r_fa (congrArg some h2) Try.underlying122 (f := 1) (q := 1) rfl (by kernel_rfl) rfl) ⟨Below.refl _ _, rfl, nofr rfl⟩
    refine ⟨fun S wu4 hC hS hd hi => ?_, ?_⟩
    · skip
      replace hC : GO w4 p (Value.slice b Sl_.length d) wu4 ∧ (¬ S 12 → Row 1 (vInt .i64) 3 (w0.heap.size) wu4 (Value.slice b Sl_.length d) Sl_) ∧ (¬ S 4 → wu4.heap[p]? = some (.cells #[(.slice ra1 (((ps ++ [(some (⟨b1, 0, none⟩ : Addr))])).length) rc1), (.slice b Sl_.length d)] 122 (0, 0))) ∧ (S 4 → wu4.heap[p]? = some (.cells #[(.slice ra1 (((ps ++ [(some (⟨b1, 0, none⟩ : Addr))])).length) rc1), (.slice b Sl_.length d)] 122 (0, 0))) := hC
      refine uv_plain (C := (fun S wq => GO w4 p (Value.slice b Sl_.length d) wq ∧ (¬ S 12 → Row 1 (vInt .i64) 3 (w0.heap.size) wq (Value.slice b Sl_.length d) Sl_) ∧ (¬ S 4 → wq.heap[p]? = some (.cells #[(.slice ra1 (((ps ++ [(some (⟨b1, 0, none⟩ : Addr))])).length) rc1), (.slice b Sl_.length d)] 122 (0, 0))) ∧ (S 4 → wq.heap[p]? = some (.cells #[(.slice ra1 (((ps ++ [(some (⟨b1, 0, none⟩ : Addr))])).length) rc1), (.slice b Sl_.length d)] 122 (0, 0))))) (hKP 4 S wu4) (fun w' h1 h2 => ⟨h1.1.below h2, fun hn => Row.ext (h1.2.1 (fun hs => hn (.inr hs))) h2, fun hn => absurd (.inl rfl) hn, fun _ => blk_ext (h1.2.2.1 hi) h2⟩) hC hS ?_
      obtain ⟨hC, hCr, hCo, hCn⟩ := hC
      have h3 := hS.post 3 (hd 3 (by decide))
      replace h3 : V 3 = (.pointer (some ⟨p, 1, none⟩)) := h3
      replace hk1 := blk_go hk1 hC (by omega) (Row.ne_type hRS hk1 rfl)
      replace hr1 := Row.go hr1 hC (Row.ne_type hr1 hk3 rfl) (Row.ne_row hr1 hRS rfl)
      have hKb : wu4.heap[p]? = some (.cells #[(.slice ra1 (((ps ++ [(some (⟨b1, 0, none⟩ : Addr))])).length) rc1), (.slice b Sl_.length d)] 122 (0, 0)) := by by_cases hz : S 4; exact hCn hz; exact hCo hz
      replace hk3 := hKb
      exact Runs.does (r_load (v := (.slice b Sl_.length d)) (congrArg some h3) Try.underlying33 rfl (cell_blk hk3 rfl)) ⟨Below.refl _ _, rfl, nofr rfl⟩
    refine ⟨fun S wu5 hC hS hd hi => ?_, ?_⟩
    · skip
      replace hC : GO w4 p (Value.slice b Sl_.length d) wu5 ∧ (¬ S 12 → Row 1 (vInt .i64) 3 (w0.heap.size) wu5 (Value.slice b Sl_.length d) Sl_) ∧ (¬ S 4 → wu5.heap[p]? = some (.cells #[(.slice ra1 (((ps ++ [(some (⟨b1, 0, none⟩ : Addr))])).length) rc1), (.slice b Sl_.length d)] 122 (0, 0))) ∧ (S 4 → wu5.heap[p]? = some (.cells #[(.slice ra1 (((ps ++ [(some (⟨b1, 0, none⟩ : Addr))])).length) rc1), (.slice b Sl_.length d)] 122 (0, 0))) := hC
      refine uv_plain (C := (fun S wq => GO w4 p (Value.slice b Sl_.length d) wq ∧ (¬ S 12 → Row 1 (vInt .i64) 3 (w0.heap.size) wq (Value.slice b Sl_.length d) Sl_) ∧ (¬ S 4 → wq.heap[p]? = some (.cells #[(.slice ra1 (((ps ++ [(some (⟨b1, 0, none⟩ : Addr))])).length) rc1), (.slice b Sl_.length d)] 122 (0, 0))) ∧ (S 4 → wq.heap[p]? = some (.cells #[(.slice ra1 (((ps ++ [(some (⟨b1, 0, none⟩ : Addr))])).length) rc1), (.slice b Sl_.length d)] 122 (0, 0))))) (hKP 5 S wu5) (fun w' h1 h2 => ⟨h1.1.below h2, fun hn => Row.ext (h1.2.1 (fun hs => hn (.inr hs))) h2, fun hn => blk_ext (h1.2.2.1 (fun hs => hn (.inr hs))) h2, fun hs => blk_ext (h1.2.2.2 (by rcases hs with e | hs; exact absurd e (by decide); exact hs)) h2⟩) hC hS ?_
      obtain ⟨hC, hCr, hCo, hCn⟩ := hC
      replace hk1 := blk_go hk1 hC (by omega) (Row.ne_type hRS hk1 rfl)
      replace hr1 := Row.go hr1 hC (Row.ne_type hr1 hk3 rfl) (Row.ne_row hr1 hRS rfl)
      have hKb : wu5.heap[p]? = some (.cells #[(.slice ra1 (((ps ++ [(some (⟨b1, 0, none⟩ : Addr))])).length) rc1), (.slice b Sl_.length d)] 122 (0, 0)) := by by_cases hz : S 4; exact hCn hz; exact hCo hz
      replace hk3 := hKb
      exact Runs.does (r_move rfl) ⟨Below.refl _ _, rfl, nofr rfl⟩
    refine ⟨fun S wu6 hC hS hd hi => ?_, ?_⟩
    · skip
      replace hC : GO w4 p (Value.slice b Sl_.length d) wu6 ∧ (¬ S 12 → Row 1 (vInt .i64) 3 (w0.heap.size) wu6 (Value.slice b Sl_.length d) Sl_) ∧ (¬ S 4 → wu6.heap[p]? = some (.cells #[(.slice ra1 (((ps ++ [(some (⟨b1, 0, none⟩ : Addr))])).length) rc1), (.slice b Sl_.length d)] 122 (0, 0))) ∧ (S 4 → wu6.heap[p]? = some (.cells #[(.slice ra1 (((ps ++ [(some (⟨b1, 0, none⟩ : Addr))])).length) rc1), (.slice b Sl_.length d)] 122 (0, 0))) := hC
      refine uv_plain (C := (fun S wq => GO w4 p (Value.slice b Sl_.length d) wq ∧ (¬ S 12 → Row 1 (vInt .i64) 3 (w0.heap.size) wq (Value.slice b Sl_.length d) Sl_) ∧ (¬ S 4 → wq.heap[p]? = some (.cells #[(.slice ra1 (((ps ++ [(some (⟨b1, 0, none⟩ : Addr))])).length) rc1), (.slice b Sl_.length d)] 122 (0, 0))) ∧ (S 4 → wq.heap[p]? = some (.cells #[(.slice ra1 (((ps ++ [(some (⟨b1, 0, none⟩ : Addr))])).length) rc1), (.slice b Sl_.length d)] 122 (0, 0))))) (hKP 6 S wu6) (fun w' h1 h2 => ⟨h1.1.below h2, fun hn => Row.ext (h1.2.1 (fun hs => hn (.inr hs))) h2, fun hn => blk_ext (h1.2.2.1 (fun hs => hn (.inr hs))) h2, fun hs => blk_ext (h1.2.2.2 (by rcases hs with e | hs; exact absurd e (by decide); exact hs)) h2⟩) hC hS ?_
      obtain ⟨hC, hCr, hCo, hCn⟩ := hC
      have h5 := hS.post 5 (hd 5 (by decide))
      replace h5 : V 5 = (.pointer (some ⟨p, 0, none⟩)) := h5
      replace hk1 := blk_go hk1 hC (by omega) (Row.ne_type hRS hk1 rfl)
      replace hr1 := Row.go hr1 hC (Row.ne_type hr1 hk3 rfl) (Row.ne_row hr1 hRS rfl)
      have hKb : wu6.heap[p]? = some (.cells #[(.slice ra1 (((ps ++ [(some (⟨b1, 0, none⟩ : Addr))])).length) rc1), (.slice b Sl_.length d)] 122 (0, 0)) := by by_cases hz : S 4; exact hCn hz; exact hCo hz
      replace hk3 := hKb
      exact Runs.does (r_nilCheck (congrArg some h5)) ⟨Below.refl _ _, rfl, nofr rfl⟩
    refine ⟨fun S wu7 hC hS hd hi => ?_, ?_⟩
    · skip
      replace hC : GO w4 p (Value.slice b Sl_.length d) wu7 ∧ (¬ S 12 → Row 1 (vInt .i64) 3 (w0.heap.size) wu7 (Value.slice b Sl_.length d) Sl_) ∧ (¬ S 4 → wu7.heap[p]? = some (.cells #[(.slice ra1 (((ps ++ [(some (⟨b1, 0, none⟩ : Addr))])).length) rc1), (.slice b Sl_.length d)] 122 (0, 0))) ∧ (S 4 → wu7.heap[p]? = some (.cells #[(.slice ra1 (((ps ++ [(some (⟨b1, 0, none⟩ : Addr))])).length) rc1), (.slice b Sl_.length d)] 122 (0, 0))) := hC
      refine uv_plain (C := (fun S wq => GO w4 p (Value.slice b Sl_.length d) wq ∧ (¬ S 12 → Row 1 (vInt .i64) 3 (w0.heap.size) wq (Value.slice b Sl_.length d) Sl_) ∧ (¬ S 4 → wq.heap[p]? = some (.cells #[(.slice ra1 (((ps ++ [(some (⟨b1, 0, none⟩ : Addr))])).length) rc1), (.slice b Sl_.length d)] 122 (0, 0))) ∧ (S 4 → wq.heap[p]? = some (.cells #[(.slice ra1 (((ps ++ [(some (⟨b1, 0, none⟩ : Addr))])).length) rc1), (.slice b Sl_.length d)] 122 (0, 0))))) (hKP 7 S wu7) (fun w' h1 h2 => ⟨h1.1.below h2, fun hn => Row.ext (h1.2.1 (fun hs => hn (.inr hs))) h2, fun hn => blk_ext (h1.2.2.1 (fun hs => hn (.inr hs))) h2, fun hs => blk_ext (h1.2.2.2 (by rcases hs with e | hs; exact absurd e (by decide); exact hs)) h2⟩) hC hS ?_
      obtain ⟨hC, hCr, hCo, hCn⟩ := hC
      have h6 := hS.post 6 (hd 6 (by decide))
      replace h6 : V 6 = (.pointer (some ⟨p, 0, none⟩)) := h6
      replace hk1 := blk_go hk1 hC (by omega) (Row.ne_type hRS hk1 rfl)
      replace hr1 := Row.go hr1 hC (Row.ne_type hr1 hk3 rfl) (Row.ne_row hr1 hRS rfl)
      have hKb : wu7.heap[p]? = some (.cells #[(.slice ra1 (((ps ++ [(some (⟨b1, 0, none⟩ : Addr))])).length) rc1), (.slice b Sl_.length d)] 122 (0, 0)) := by by_cases hz : S 4; exact hCn hz; exact hCo hz
      replace hk3 := hKb
      exact Runs.does (r_fa (congrArg some h6) Try.underlying122 (f := 0) (q := 0) rfl (by kernel_rfl) rfl) ⟨Below.refl _ _, rfl, nofr rfl⟩
    refine ⟨fun S wu8 hC hS hd hi => ?_, ?_⟩
    · skip
      replace hC : GO w4 p (Value.slice b Sl_.length d) wu8 ∧ (¬ S 12 → Row 1 (vInt .i64) 3 (w0.heap.size) wu8 (Value.slice b Sl_.length d) Sl_) ∧ (¬ S 4 → wu8.heap[p]? = some (.cells #[(.slice ra1 (((ps ++ [(some (⟨b1, 0, none⟩ : Addr))])).length) rc1), (.slice b Sl_.length d)] 122 (0, 0))) ∧ (S 4 → wu8.heap[p]? = some (.cells #[(.slice ra1 (((ps ++ [(some (⟨b1, 0, none⟩ : Addr))])).length) rc1), (.slice b Sl_.length d)] 122 (0, 0))) := hC
      refine uv_plain (C := (fun S wq => GO w4 p (Value.slice b Sl_.length d) wq ∧ (¬ S 12 → Row 1 (vInt .i64) 3 (w0.heap.size) wq (Value.slice b Sl_.length d) Sl_) ∧ (¬ S 4 → wq.heap[p]? = some (.cells #[(.slice ra1 (((ps ++ [(some (⟨b1, 0, none⟩ : Addr))])).length) rc1), (.slice b Sl_.length d)] 122 (0, 0))) ∧ (S 4 → wq.heap[p]? = some (.cells #[(.slice ra1 (((ps ++ [(some (⟨b1, 0, none⟩ : Addr))])).length) rc1), (.slice b Sl_.length d)] 122 (0, 0))))) (hKP 8 S wu8) (fun w' h1 h2 => ⟨h1.1.below h2, fun hn => Row.ext (h1.2.1 (fun hs => hn (.inr hs))) h2, fun hn => blk_ext (h1.2.2.1 (fun hs => hn (.inr hs))) h2, fun hs => blk_ext (h1.2.2.2 (by rcases hs with e | hs; exact absurd e (by decide); exact hs)) h2⟩) hC hS ?_
      obtain ⟨hC, hCr, hCo, hCn⟩ := hC
      have h7 := hS.post 7 (hd 7 (by decide))
      replace h7 : V 7 = (.pointer (some ⟨p, 0, none⟩)) := h7
      replace hk1 := blk_go hk1 hC (by omega) (Row.ne_type hRS hk1 rfl)
      replace hr1 := Row.go hr1 hC (Row.ne_type hr1 hk3 rfl) (Row.ne_row hr1 hRS rfl)
      have hKb : wu8.heap[p]? = some (.cells #[(.slice ra1 (((ps ++ [(some (⟨b1, 0, none⟩ : Addr))])).length) rc1), (.slice b Sl_.length d)] 122 (0, 0)) := by by_cases hz : S 4; exact hCn hz; exact hCo hz
      replace hk3 := hKb
      exact Runs.does (r_load (v := (.slice ra1 (((ps ++ [(some (⟨b1, 0, none⟩ : Addr))])).length) rc1)) (congrArg some h7) Try.underlying120 rfl (cell_blk hk3 rfl)) ⟨Below.refl _ _, rfl, nofr rfl⟩
    refine ⟨fun S wu9 hC hS hd hi => ?_, ?_⟩
    · skip
      replace hC : GO w4 p (Value.slice b Sl_.length d) wu9 ∧ (¬ S 12 → Row 1 (vInt .i64) 3 (w0.heap.size) wu9 (Value.slice b Sl_.length d) Sl_) ∧ (¬ S 4 → wu9.heap[p]? = some (.cells #[(.slice ra1 (((ps ++ [(some (⟨b1, 0, none⟩ : Addr))])).length) rc1), (.slice b Sl_.length d)] 122 (0, 0))) ∧ (S 4 → wu9.heap[p]? = some (.cells #[(.slice ra1 (((ps ++ [(some (⟨b1, 0, none⟩ : Addr))])).length) rc1), (.slice b Sl_.length d)] 122 (0, 0))) := hC
      refine uv_plain (C := (fun S wq => GO w4 p (Value.slice b Sl_.length d) wq ∧ (¬ S 12 → Row 1 (vInt .i64) 3 (w0.heap.size) wq (Value.slice b Sl_.length d) Sl_) ∧ (¬ S 4 → wq.heap[p]? = some (.cells #[(.slice ra1 (((ps ++ [(some (⟨b1, 0, none⟩ : Addr))])).length) rc1), (.slice b Sl_.length d)] 122 (0, 0))) ∧ (S 4 → wq.heap[p]? = some (.cells #[(.slice ra1 (((ps ++ [(some (⟨b1, 0, none⟩ : Addr))])).length) rc1), (.slice b Sl_.length d)] 122 (0, 0))))) (hKP 9 S wu9) (fun w' h1 h2 => ⟨h1.1.below h2, fun hn => Row.ext (h1.2.1 (fun hs => hn (.inr hs))) h2, fun hn => blk_ext (h1.2.2.1 (fun hs => hn (.inr hs))) h2, fun hs => blk_ext (h1.2.2.2 (by rcases hs with e | hs; exact absurd e (by decide); exact hs)) h2⟩) hC hS ?_
      obtain ⟨hC, hCr, hCo, hCn⟩ := hC
      have h8 := hS.post 8 (hd 8 (by decide))
      replace h8 : V 8 = (.slice ra1 (((ps ++ [(some (⟨b1, 0, none⟩ : Addr))])).length) rc1) := h8
      replace hk1 := blk_go hk1 hC (by omega) (Row.ne_type hRS hk1 rfl)
      replace hr1 := Row.go hr1 hC (Row.ne_type hr1 hk3 rfl) (Row.ne_row hr1 hRS rfl)
      have hKb : wu9.heap[p]? = some (.cells #[(.slice ra1 (((ps ++ [(some (⟨b1, 0, none⟩ : Addr))])).length) rc1), (.slice b Sl_.length d)] 122 (0, 0)) := by by_cases hz : S 4; exact hCn hz; exact hCo hz
      replace hk3 := hKb
      exact Runs.does (r_lensl (congrArg some h8) Try.underlying120) ⟨Below.refl _ _, rfl, nofr rfl⟩
    refine ⟨fun S wu10 hC hS hd hi => ?_, ?_⟩
    · skip
      replace hC : GO w4 p (Value.slice b Sl_.length d) wu10 ∧ (¬ S 12 → Row 1 (vInt .i64) 3 (w0.heap.size) wu10 (Value.slice b Sl_.length d) Sl_) ∧ (¬ S 4 → wu10.heap[p]? = some (.cells #[(.slice ra1 (((ps ++ [(some (⟨b1, 0, none⟩ : Addr))])).length) rc1), (.slice b Sl_.length d)] 122 (0, 0))) ∧ (S 4 → wu10.heap[p]? = some (.cells #[(.slice ra1 (((ps ++ [(some (⟨b1, 0, none⟩ : Addr))])).length) rc1), (.slice b Sl_.length d)] 122 (0, 0))) := hC
      refine uv_plain (C := (fun S wq => GO w4 p (Value.slice b Sl_.length d) wq ∧ (¬ S 12 → Row 1 (vInt .i64) 3 (w0.heap.size) wq (Value.slice b Sl_.length d) Sl_) ∧ (¬ S 4 → wq.heap[p]? = some (.cells #[(.slice ra1 (((ps ++ [(some (⟨b1, 0, none⟩ : Addr))])).length) rc1), (.slice b Sl_.length d)] 122 (0, 0))) ∧ (S 4 → wq.heap[p]? = some (.cells #[(.slice ra1 (((ps ++ [(some (⟨b1, 0, none⟩ : Addr))])).length) rc1), (.slice b Sl_.length d)] 122 (0, 0))))) (hKP 10 S wu10) (fun w' h1 h2 => ⟨h1.1.below h2, fun hn => Row.ext (h1.2.1 (fun hs => hn (.inr hs))) h2, fun hn => blk_ext (h1.2.2.1 (fun hs => hn (.inr hs))) h2, fun hs => blk_ext (h1.2.2.2 (by rcases hs with e | hs; exact absurd e (by decide); exact hs)) h2⟩) hC hS ?_
      obtain ⟨hC, hCr, hCo, hCn⟩ := hC
      have h9 := hS.post 9 (hd 9 (by decide))
      replace h9 : V 9 = (.int .i64 ((((ps ++ [(some (⟨b1, 0, none⟩ : Addr))])).length : Nat) : Int)) := h9
      replace hk1 := blk_go hk1 hC (by omega) (Row.ne_type hRS hk1 rfl)
      replace hr1 := Row.go hr1 hC (Row.ne_type hr1 hk3 rfl) (Row.ne_row hr1 hRS rfl)
      have hKb : wu10.heap[p]? = some (.cells #[(.slice ra1 (((ps ++ [(some (⟨b1, 0, none⟩ : Addr))])).length) rc1), (.slice b Sl_.length d)] 122 (0, 0)) := by by_cases hz : S 4; exact hCn hz; exact hCo hz
      replace hk3 := hKb
      exact Runs.does (Runs.veq (v' := (.int .i64 ((ps.length : Nat) : Int))) (r_sub (C := (((((ps ++ [(some (⟨b1, 0, none⟩ : Addr))])).length : Nat) : Int) - (1 : Int))) (congrArg some h9) rfl (by rw [IntKind.wrap_i64]; omega)) (congrArg (Value.int .i64) (len_snoc _ _))) ⟨Below.refl _ _, rfl, nofr rfl⟩
    refine ⟨fun S wu11 hC hS hd hi => ?_, ?_⟩
    · skip
      replace hC : GO w4 p (Value.slice b Sl_.length d) wu11 ∧ (¬ S 12 → Row 1 (vInt .i64) 3 (w0.heap.size) wu11 (Value.slice b Sl_.length d) Sl_) ∧ (¬ S 4 → wu11.heap[p]? = some (.cells #[(.slice ra1 (((ps ++ [(some (⟨b1, 0, none⟩ : Addr))])).length) rc1), (.slice b Sl_.length d)] 122 (0, 0))) ∧ (S 4 → wu11.heap[p]? = some (.cells #[(.slice ra1 (((ps ++ [(some (⟨b1, 0, none⟩ : Addr))])).length) rc1), (.slice b Sl_.length d)] 122 (0, 0))) := hC
      refine uv_plain (C := (fun S wq => GO w4 p (Value.slice b Sl_.length d) wq ∧ (¬ S 12 → Row 1 (vInt .i64) 3 (w0.heap.size) wq (Value.slice b Sl_.length d) Sl_) ∧ (¬ S 4 → wq.heap[p]? = some (.cells #[(.slice ra1 (((ps ++ [(some (⟨b1, 0, none⟩ : Addr))])).length) rc1), (.slice b Sl_.length d)] 122 (0, 0))) ∧ (S 4 → wq.heap[p]? = some (.cells #[(.slice ra1 (((ps ++ [(some (⟨b1, 0, none⟩ : Addr))])).length) rc1), (.slice b Sl_.length d)] 122 (0, 0))))) (hKP 11 S wu11) (fun w' h1 h2 => ⟨h1.1.below h2, fun hn => Row.ext (h1.2.1 (fun hs => hn (.inr hs))) h2, fun hn => blk_ext (h1.2.2.1 (fun hs => hn (.inr hs))) h2, fun hs => blk_ext (h1.2.2.2 (by rcases hs with e | hs; exact absurd e (by decide); exact hs)) h2⟩) hC hS ?_
      obtain ⟨hC, hCr, hCo, hCn⟩ := hC
      have h10 := hS.post 10 (hd 10 (by decide))
      replace h10 : V 10 = (.int .i64 ((ps.length : Nat) : Int)) := h10
      replace hk1 := blk_go hk1 hC (by omega) (Row.ne_type hRS hk1 rfl)
      replace hr1 := Row.go hr1 hC (Row.ne_type hr1 hk3 rfl) (Row.ne_row hr1 hRS rfl)
      have hKb : wu11.heap[p]? = some (.cells #[(.slice ra1 (((ps ++ [(some (⟨b1, 0, none⟩ : Addr))])).length) rc1), (.slice b Sl_.length d)] 122 (0, 0)) := by by_cases hz : S 4; exact hCn hz; exact hCo hz
      replace hk3 := hKb
      refine Does.mono (d_bslice (z := (.int .i64 (0 : Int))) (sz := 1) (vs := [(0, (.int .i64 ((ps.length : Nat) : Int)))]) (cs := #[(.int .i64 ((ps.length : Nat) : Int))]) (show [(0, some (V 10))] = [(0, some (.int .i64 ((ps.length : Nat) : Int)))] from by rw [h10]) Try.underlying33 (by kernel_rfl) rfl (by kernel_rfl)) ?_
      rintro _ w' ⟨b, rfl, hF⟩
      exact ⟨hF.2.2, ⟨b, rfl, Nat.le_trans hC.size hF.1, hF.2.1⟩, isfr rfl hF.1 (blk_lt hF.2.1)⟩
    refine ⟨fun S wu12 hC hS hd hi => ?_, ?_⟩
    · skip
      replace hC : GO w4 p (Value.slice b Sl_.length d) wu12 ∧ (¬ S 12 → Row 1 (vInt .i64) 3 (w0.heap.size) wu12 (Value.slice b Sl_.length d) Sl_) ∧ (¬ S 4 → wu12.heap[p]? = some (.cells #[(.slice ra1 (((ps ++ [(some (⟨b1, 0, none⟩ : Addr))])).length) rc1), (.slice b Sl_.length d)] 122 (0, 0))) ∧ (S 4 → wu12.heap[p]? = some (.cells #[(.slice ra1 (((ps ++ [(some (⟨b1, 0, none⟩ : Addr))])).length) rc1), (.slice b Sl_.length d)] 122 (0, 0))) := hC
      obtain ⟨hC, hCr, hCo, hCn⟩ := hC
      have h4 := hS.post 4 (hd 4 (by decide))
      replace h4 : V 4 = (.slice b Sl_.length d) := h4
      have h11 := hS.post 11 (hd 11 (by decide))
      obtain ⟨b3, h11, hle3, hk4⟩ := h11
      replace hk1 := blk_go hk1 hC (by omega) (Row.ne_type hRS hk1 rfl)
      replace hr1 := Row.go hr1 hC (Row.ne_type hr1 hk3 rfl) (Row.ne_row hr1 hRS rfl)
      have hKb : wu12.heap[p]? = some (.cells #[(.slice ra1 (((ps ++ [(some (⟨b1, 0, none⟩ : Addr))])).length) rc1), (.slice b Sl_.length d)] 122 (0, 0)) := by by_cases hz : S 4; exact hCn hz; exact hCo hz
      replace hk3 := hKb
      replace hRS := hCr hi
      have hrB := Row.of_new (k := 1) (V := (vInt .i64)) (l := [((ps.length : Nat) : Int)]) (base := w4.heap.size) hk4 hle3 rfl rfl (Nat.le_of_ble_eq_true rfl)
      refine Does.mono (d_append (V := (vInt .i64)) (k := 1) (e := 3) (bytes := 8) (z := (.int .i64 (0 : Int))) (news := [((ps.length : Nat) : Int)]) (base := w0.heap.size) (by intros; rfl) (by intro x u hu; simp only [vInt, List.mem_singleton] at hu; subst hu; rfl) (congrArg some h4) (congrArg some h11) Try.underlying33 (by kernel_rfl) rfl rfl rfl hRS (Row.rd (by intros; rfl) hrB) rfl (fun h => by cases h) (by first | omega | (simp only [List.length_cons, List.length_nil, List.length_append, nums_len]; omega)) (by have := hb.size; have := hC.size; omega)) ?_
      rintro v' wz ⟨hY, hgY⟩
      obtain ⟨ra, rc, rfl, _, _⟩ := Row.slice hY
      refine ⟨⟨⟨hC.app hgY, fun hn => absurd (.inl rfl) hn, fun hn => absurd (.inr (hd 4 (by decide))) hn, fun _ => (hgY.block p (blk_lt (hCn (hd 4 (by decide)))) (fun e => Row.ne_type hRS (hCn (hd 4 (by decide))) rfl e.symm)).trans (hCn (hd 4 (by decide)))⟩, fun j hj => ?_, hgY.size⟩, ⟨ra, rc, rfl, hY⟩, nofr rfl⟩
      match j with
      | 0 =>
        exact hS.post 0 hj
      | 1 =>
        exact hS.post 1 hj
      | 2 =>
        exact hS.post 2 hj
      | 3 =>
        exact hS.post 3 hj
      | 4 =>
        exact hS.post 4 hj
      | 5 =>
        exact hS.post 5 hj
      | 6 =>
        exact hS.post 6 hj
      | 7 =>
        exact hS.post 7 hj
      | 8 =>
        exact hS.post 8 hj
      | 9 =>
        exact hS.post 9 hj
      | 10 =>
        exact hS.post 10 hj
      | 11 =>
        obtain ⟨b, e1, e2, e3⟩ := hS.post 11 hj
        exact ⟨b, e1, e2, (hgY.block b (blk_lt e3) (fun e => by have := hlV b e.symm; omega)).trans e3⟩
      | 12 =>
        exact absurd hj hi
      | _ + 13 => trivial
    trivial
  · skip
    clear hf fa; intro V S w5 fa hall he3 hp hnb hf
    have hv0 := postsHold_at hp 0 rfl
    replace hv0 : V 0 = (.pointer (some ⟨p, 0, none⟩)) := hv0
    have hv1 := postsHold_at hp 1 rfl
    replace hv1 : V 1 = (.pointer (some ⟨p, 0, none⟩)) := hv1
    have hv2 := postsHold_at hp 2 rfl
    replace hv2 : V 2 = (.pointer (some ⟨p, 0, none⟩)) := hv2
    have hv3 := postsHold_at hp 3 rfl
    replace hv3 : V 3 = (.pointer (some ⟨p, 1, none⟩)) := hv3
    have hv4 := postsHold_at hp 4 rfl
    replace hv4 : V 4 = (.slice b Sl_.length d) := hv4
    have hv5 := postsHold_at hp 5 rfl
    replace hv5 : V 5 = (.pointer (some ⟨p, 0, none⟩)) := hv5
    have hv6 := postsHold_at hp 6 rfl
    replace hv6 : V 6 = (.pointer (some ⟨p, 0, none⟩)) := hv6
    have hv7 := postsHold_at hp 7 rfl
    replace hv7 : V 7 = (.pointer (some ⟨p, 0, none⟩)) := hv7
    have hv8 := postsHold_at hp 8 rfl
    replace hv8 : V 8 = (.slice ra1 (((ps ++ [(some (⟨b1, 0, none⟩ : Addr))])).length) rc1) := hv8
    have hv9 := postsHold_at hp 9 rfl
    replace hv9 : V 9 = (.int .i64 ((((ps ++ [(some (⟨b1, 0, none⟩ : Addr))])).length : Nat) : Int)) := hv9
    have hv10 := postsHold_at hp 10 rfl
    replace hv10 : V 10 = (.int .i64 ((ps.length : Nat) : Int)) := hv10
    have hv11 := postsHold_at hp 11 rfl
    obtain ⟨b3, hv11, hle3, hk4⟩ := hv11
    have hBb3 : w0.heap.size ≤ b3 := Nat.le_trans hb.size hle3
    have hv12 := postsHold_at hp 12 rfl
    obtain ⟨ra2, rc2, hv12, hr2⟩ := hv12
    rw [hv12] at hr2
    have hcrc2 := Row.caps hr2
    simp only [List.take_succ_cons, List.take_zero, insAll, ins, hv0, hv1, hv2, hv3, hv4, hv5, hv6, hv7, hv8, hv9, hv10, hv11, hv12] at hf
    obtain ⟨he3, _, _, hk5⟩ := he3
    replace hk5 := hk5 (hall 4 (show 4 < 13 by decide))
    replace hZ := Nat.le_trans hZ he3.size
    replace hF := FRel.map hF (fun bf cs hbf => blk_go hbf he3 (blk_ty hbf hk3 rfl) (Row.ne_type hRS hbf rfl))
    replace hPk1 := KT.map hPk1 (fun bf cs hbf => blk_go hbf he3 (blk_ty hbf hk3 rfl) (Row.ne_type hRS hbf rfl))
    replace hPk2 := KT.map hPk2 (fun bf cs hbf => blk_go hbf he3 (blk_ty hbf hk3 rfl) (Row.ne_type hRS hbf rfl))
    replace hPk3 := KT.map hPk3 (fun bf cs hbf => blk_go hbf he3 (blk_ty hbf hk3 rfl) (Row.ne_type hRS hbf rfl))
    replace hk1 := blk_go hk1 he3 (by omega) (Row.ne_type hRS hk1 rfl)
    replace hr1 := Row.go hr1 he3 (Row.ne_type hr1 hk3 rfl) (Row.ne_row hr1 hRS rfl)
    replace hb := Below_go hb he3 hb.size hBp (fun q hq => by have := (Row.lt hRS q hq).1; omega)
    clear hp hnb hall hlV hRS hv0 hv1 hv2 hv3 hv4 hv5 hv6 hv7 hv8 hv9 hv10 hv11 hv12
    simp only [List.drop_succ_cons, List.drop_zero]
    refine sqv hf (r_nilCheck rfl) rfl rfl rfl ?_; clear hf fa; intro fa hf
    refine sqv hf (r_fa rfl Try.underlying122 (f := 1) (q := 1) rfl (by kernel_rfl) rfl) rfl rfl rfl ?_; clear hf fa; intro fa hf
    refine sqn hf (d_storeK (T := 122) (v := (.slice ra2 ((Sl_ ++ [((ps.length : Nat) : Int)]).length) rc2)) (cs := #[(.slice ra1 (((ps ++ [(some (⟨b1, 0, none⟩ : Addr))])).length) rc1), (.slice b Sl_.length d)]) (cs' := #[(.slice ra1 (((ps ++ [(some (⟨b1, 0, none⟩ : Addr))])).length) rc1), (.slice ra2 ((Sl_ ++ [((ps.length : Nat) : Int)]).length) rc2)]) rfl rfl (by kernel_rfl) (by kernel_rfl) hk5 (by kernel_rfl) (by kernel_rfl)) rfl rfl ?_; clear hf fa; rintro fa _ w6 ⟨hk6, hg3⟩ hf
    replace hk1 := blk_grown hk1 hg3 (by omega)
    replace hr1 := Row.grown hr1 hg3 (Row.ne_type hr1 hk5 rfl)
    replace hr2 := Row.grown hr2 hg3 (Row.ne_type hr2 hk5 rfl)
    replace hZ := Nat.le_trans hZ hg3.size
    replace hF := FRel.map hF (fun bf cs hbf => blk_grown hbf hg3 (blk_ty hbf hk5 rfl))
    replace hPk1 := KT.map hPk1 (fun bf cs hbf => blk_grown hbf hg3 (blk_ty hbf hk5 rfl))
    replace hPk2 := KT.map hPk2 (fun bf cs hbf => blk_grown hbf hg3 (blk_ty hbf hk5 rfl))
    replace hPk3 := KT.map hPk3 (fun bf cs hbf => blk_grown hbf hg3 (blk_ty hbf hk5 rfl))
    replace hb := hb.trans (grown_below hg3 hb.size hBp)
    apply wpList_nil
    (try simp only [Exit.then, Exit.inBlock, ↓reduceIte, Nat.reduceEqDiff])
    refine hK3 _ _ ?_
    refine wp_seq_k (fun K4 hK4 => ?_)
    refine wp_region_lit ?_
    refine sqv hf (r_move rfl) rfl rfl rfl ?_; clear hf fa; intro fa hf
    refine sqv hf (r_nilCheck rfl) rfl rfl rfl ?_; clear hf fa; intro fa hf
    refine sqv hf (r_fa rfl Try.underlying122 (f := 0) (q := 0) rfl (by kernel_rfl) rfl) rfl rfl rfl ?_; clear hf fa; intro fa hf
    refine sqv hf (r_load (v := (.slice ra1 (((ps ++ [(some (⟨b1, 0, none⟩ : Addr))])).length) rc1)) rfl Try.underlying120 rfl (cell_blk hk6 rfl)) rfl rfl rfl ?_; clear hf fa; intro fa hf
    refine sqv hf (r_lensl rfl Try.underlying120) rfl rfl rfl ?_; clear hf fa; intro fa hf
    refine sqv hf (Runs.veq (v' := (.int .i64 ((ps.length : Nat) : Int))) (r_sub (C := (((((ps ++ [(some (⟨b1, 0, none⟩ : Addr))])).length : Nat) : Int) - (1 : Int))) rfl rfl (by rw [IntKind.wrap_i64]; omega)) (congrArg (Value.int .i64) (len_snoc _ _))) rfl rfl rfl ?_; clear hf fa; intro fa hf
    refine sqv hf (r_assign rfl) rfl rfl rfl ?_; clear hf fa; intro fa hf
    apply wpList_nil
    (try simp only [Exit.then, Exit.inBlock, ↓reduceIte, Nat.reduceEqDiff])
    refine hK4 _ _ ?_
    refine wp_ret ?_
    (try simp only [Exit.then, Exit.inBlock])
    refine ret1 hf rfl rfl ?_
    have hz1 := hk6
    have hzR := hr1
    have hzS := hr2
    have hlL := hF.1
    rw [← hlL]; exact ⟨rfl, ⟨_, _, _, _, (ps ++ [(some (⟨b1, 0, none⟩ : Addr))]), hz1, hzR, hzS, hBp, by rw [List.length_append]; exact hps2, by rw [List.length_append, List.length_append, hln]; rfl, hF.snoc hk1⟩, hb, hPk1, hPk2, hPk3, hZ⟩

theorem FRel.take {w : World} {ps : List (Option Addr)} {L : List (Option MFn)} (h : FRel w ps L) (n : Nat) : FRel w (ps.take n) (L.take n) := by
  refine ⟨by rw [List.length_take, List.length_take, h.1], fun j q hq => ?_⟩
  rw [List.getElem?_take] at hq
  split at hq
  · rename_i hj
    have := h.2 j q hq
    cases q with
    | none => show (L.take n)[j]? = some none; rw [List.getElem?_take, if_pos hj]; exact this
    | some q => obtain ⟨x, hx, hc⟩ := this; exact ⟨x, by rw [List.getElem?_take, if_pos hj]; exact hx, hc⟩
  · cases hq
theorem FRel.setSome {w : World} {ps : List (Option Addr)} {L : List (Option MFn)} (h : FRel w ps L) (i : Nat) {bf : Nat} {x : MFn} (hx : w.heap[bf]? = some (.cells (fnCs x) 37 (0, 0))) : FRel w (ps.set i (some ⟨bf, 0, none⟩)) (L.set i (some x)) := by
  refine ⟨by rw [List.length_set, List.length_set]; exact h.1, fun j q hq => ?_⟩
  rw [List.getElem?_set] at hq
  by_cases e : i = j
  · rw [if_pos e] at hq
    split at hq
    · injection hq with hq
      subst hq
      exact ⟨x, by rw [List.getElem?_set, if_pos e, if_pos (by have := h.1; omega)], bf, rfl, hx⟩
    · cases hq
  · rw [if_neg e] at hq
    have := h.2 j q hq
    cases q with
    | none => show (L.set i (some x))[j]? = some none; rw [List.getElem?_set, if_neg e]; exact this
    | some q => obtain ⟨x, hx, hc⟩ := this; exact ⟨x, by rw [List.getElem?_set, if_neg e]; exact hx, hc⟩
def cutL {α : Type} (L : List α) (i : Int) : List α := if 0 ≤ i ∧ i < ((L.length : Nat) : Int) then L.take i.toNat else L
theorem rowTo {α : Type} {k e base n m c : Nat} {V : α → List Value} {w : World} {a : Option Addr} {l : List α} (h : Row k V e base w (.slice a n c) l) (e2 : n = m) : Row k V e base w (.slice a m c) l := e2 ▸ h

set_option maxHeartbeats 1000000 in
set_option maxRecDepth 100000 in
theorem cutK_raw (p : Nat) (a b : Option Addr) (c d : Nat) (ps : List (Option Addr)) (Sl_ : List Int) (w0 w : World) (hb : Below w0.heap.size w0 w) (hp : w.heap[p]? = some (.cells #[(.slice a ps.length c), (.slice b Sl_.length d)] 122 (0, 0))) (hR : Row 1 vPF 123 w0.heap.size w (.slice a ps.length c) ps) (hRS : Row 1 (vInt .i64) 3 w0.heap.size w (.slice b Sl_.length d) Sl_) (hBp : w0.heap.size ≤ p) (hps : ps.length ≤ 1000) (hln : ps.length = Sl_.length) (L : List (Option MFn)) (hF : FRel w ps L) (i : Int) : Calls Try.prog 70 #[(.pointer (some ⟨p, 0, none⟩)), (.int .i64 i)] w fun e w' => e = .returned (.tuple #[]) ∧ FSt w0.heap.size w' p (cutL L i) (cutL Sl_ i) ∧ Below w0.heap.size w0 w' ∧ Pk w w' := by
  have hcR := Row.caps hR
  have hcS := Row.caps hRS
  have hpl := (Array.getElem?_eq_some_iff.1 hp).1
  have hPk1 := KT.refl 132 w
  have hPk2 := KT.refl 127 w
  have hPk3 := KT.refl 28 w
  have hZ := Nat.le_refl w.heap.size
  refine sx_enter (L := [(0, (.pointer (some ⟨p, 0, none⟩))), (1, (.int .i64 i))]) Try.func70 rfl rfl rfl rfl (fun fa hf => ?_)
  refine wp_seq_k (fun K1 hK1 => ?_)
  refine wp_region_lit ?_
  refine sqv hf (r_move rfl) rfl rfl rfl ?_; clear hf fa; intro fa hf
  refine sqv hf (r_ge rfl rfl) rfl rfl rfl ?_; clear hf fa; intro fa hf
  refine sqv hf (r_move rfl) rfl rfl rfl ?_; clear hf fa; intro fa hf
  refine sqgT (act := (decide ((0 : Int) ≤ i))) (ag := true) (c := (decide ((0 : Int) ≤ i))) (v := (.int .i64 i)) hf rfl rfl rfl (fun hact => (r_move rfl)) rfl rfl ?_; clear hf fa; intro fa hf
  refine sqgT (act := (decide ((0 : Int) ≤ i))) (ag := true) (c := (decide ((0 : Int) ≤ i))) (v := (.pointer (some ⟨p, 0, none⟩))) hf rfl rfl rfl (fun hact => (r_move rfl)) rfl rfl ?_; clear hf fa; intro fa hf
  refine sqgT (act := (decide ((0 : Int) ≤ i))) (ag := true) (c := (decide ((0 : Int) ≤ i))) (v := (.pointer (some ⟨p, 0, none⟩))) hf rfl rfl rfl (fun hact => (r_nilCheck (gb_ev hact rfl))) rfl rfl ?_; clear hf fa; intro fa hf
  refine sqgT (act := (decide ((0 : Int) ≤ i))) (ag := true) (c := (decide ((0 : Int) ≤ i))) (v := (.pointer (some ⟨p, 0, none⟩))) hf rfl rfl rfl (fun hact => (r_fa (gb_ev hact rfl) Try.underlying122 (f := 0) (q := 0) rfl (by kernel_rfl) rfl)) rfl rfl ?_; clear hf fa; intro fa hf
  refine sqgT (act := (decide ((0 : Int) ≤ i))) (ag := true) (c := (decide ((0 : Int) ≤ i))) (v := (.slice a ps.length c)) hf rfl rfl rfl (fun hact => (r_load (v := (.slice a ps.length c)) (gb_ev hact rfl) Try.underlying120 rfl (cell_blk hp rfl))) rfl rfl ?_; clear hf fa; intro fa hf
  refine sqgT (act := (decide ((0 : Int) ≤ i))) (ag := true) (c := (decide ((0 : Int) ≤ i))) (v := (.int .i64 ((ps.length : Nat) : Int))) hf rfl rfl rfl (fun hact => (r_lensl (gb_ev hact rfl) Try.underlying120)) rfl rfl ?_; clear hf fa; intro fa hf
  refine sqgT (act := (decide ((0 : Int) ≤ i))) (ag := true) (c := (decide ((0 : Int) ≤ i))) (v := (.bool (decide (i < ((ps.length : Nat) : Int))))) hf rfl rfl rfl (fun hact => (r_lt (gb_ev hact rfl) (gb_ev hact rfl))) rfl rfl ?_; clear hf fa; intro fa hf
  refine sqv hf (r_pickA (b := (decide ((0 : Int) ≤ i))) (e := (decide (i < ((ps.length : Nat) : Int)))) rfl rfl rfl) rfl rfl rfl ?_; clear hf fa; intro fa hf
  apply wpList_nil
  (try simp only [Exit.then, Exit.inBlock, ↓reduceIte, Nat.reduceEqDiff])
  refine hK1 _ _ ?_
  refine wp_cond_split (t := ((decide ((0 : Int) ≤ i)) && (decide (i < ((ps.length : Nat) : Int))))) (hf.ev rfl) (fun hqt14_1 => ?_) (fun hqt14_1 => ?_)
  · have hqt14_1b := hqt14_1
    try simp only [decide_eq_true_eq, Bool.and_eq_true, Bool.or_eq_true, Bool.not_eq_true', decide_eq_false_iff_not, ne_eq, Bool.not_eq_true] at hqt14_1
    refine wp_seq_k (fun K2 hK2 => ?_)
    have hin1 : 0 ≤ i ∧ i < ((ps.length : Nat) : Int) := by have h := hqt14_1; first | omega | (simp at h; omega)
    refine wp_region_lit ?_
    refine sqv hf (r_move rfl) rfl rfl rfl ?_; clear hf fa; intro fa hf
    refine sqv hf (r_move rfl) rfl rfl rfl ?_; clear hf fa; intro fa hf
    refine sqv hf (r_nilCheck rfl) rfl rfl rfl ?_; clear hf fa; intro fa hf
    refine sqv hf (r_fa rfl Try.underlying122 (f := 0) (q := 0) rfl (by kernel_rfl) rfl) rfl rfl rfl ?_; clear hf fa; intro fa hf
    refine sqv hf (r_load (v := (.slice a ps.length c)) rfl Try.underlying120 rfl (cell_blk hp rfl)) rfl rfl rfl ?_; clear hf fa; intro fa hf
    refine sqv hf (r_move rfl) rfl rfl rfl ?_; clear hf fa; intro fa hf
    refine sqv hf (r_slto (m := (i).toNat) rfl rfl Try.underlying120 (by kernel_rfl) (by omega) (by omega)) rfl rfl rfl ?_; clear hf fa; intro fa hf
    have hr1 := Row.cut (m := (i).toNat) (by intros; rfl) hR (Row.caps hR).1 (by (try simp only [Sl.list_length]); omega) (by (try simp only [Sl.list_length]); omega)
    refine sqv hf (r_nilCheck rfl) rfl rfl rfl ?_; clear hf fa; intro fa hf
    refine sqv hf (r_fa rfl Try.underlying122 (f := 0) (q := 0) rfl (by kernel_rfl) rfl) rfl rfl rfl ?_; clear hf fa; intro fa hf
    refine sqn hf (d_storeK (T := 122) (v := (.slice a ((i).toNat) c)) (cs := #[(.slice a ps.length c), (.slice b Sl_.length d)]) (cs' := #[(.slice a ((i).toNat) c), (.slice b Sl_.length d)]) rfl rfl (by kernel_rfl) (by kernel_rfl) hp (by kernel_rfl) (by kernel_rfl)) rfl rfl ?_; clear hf fa; rintro fa _ w1 ⟨hk1, hg1⟩ hf
    replace hr1 := Row.grown hr1 hg1 (Row.ne_type hr1 hp rfl)
    replace hRS := Row.grown hRS hg1 (Row.ne_type hRS hp rfl)
    replace hZ := Nat.le_trans hZ hg1.size
    replace hF := FRel.map hF (fun bf cs hbf => blk_grown hbf hg1 (blk_ty hbf hp rfl))
    replace hPk1 := KT.map hPk1 (fun bf cs hbf => blk_grown hbf hg1 (blk_ty hbf hp rfl))
    replace hPk2 := KT.map hPk2 (fun bf cs hbf => blk_grown hbf hg1 (blk_ty hbf hp rfl))
    replace hPk3 := KT.map hPk3 (fun bf cs hbf => blk_grown hbf hg1 (blk_ty hbf hp rfl))
    replace hb := hb.trans (grown_below hg1 hb.size hBp)
    apply wpList_nil
    (try simp only [Exit.then, Exit.inBlock, ↓reduceIte, Nat.reduceEqDiff])
    refine hK2 _ _ ?_
    refine wp_region_lit ?_
    refine sqv hf (r_move rfl) rfl rfl rfl ?_; clear hf fa; intro fa hf
    refine sqv hf (r_move rfl) rfl rfl rfl ?_; clear hf fa; intro fa hf
    refine sqv hf (r_nilCheck rfl) rfl rfl rfl ?_; clear hf fa; intro fa hf
    refine sqv hf (r_fa rfl Try.underlying122 (f := 1) (q := 1) rfl (by kernel_rfl) rfl) rfl rfl rfl ?_; clear hf fa; intro fa hf
    refine sqv hf (r_load (v := (.slice b Sl_.length d)) rfl Try.underlying33 rfl (cell_blk hk1 rfl)) rfl rfl rfl ?_; clear hf fa; intro fa hf
    refine sqv hf (r_move rfl) rfl rfl rfl ?_; clear hf fa; intro fa hf
    refine sqv hf (r_slto (m := (i).toNat) rfl rfl Try.underlying33 (by kernel_rfl) (by omega) (by omega)) rfl rfl rfl ?_; clear hf fa; intro fa hf
    have hr2 := Row.cut (m := (i).toNat) (by intros; rfl) hRS (Row.caps hRS).1 (by (try simp only [Sl.list_length]); omega) (by (try simp only [Sl.list_length]); omega)
    refine sqv hf (r_nilCheck rfl) rfl rfl rfl ?_; clear hf fa; intro fa hf
    refine sqv hf (r_fa rfl Try.underlying122 (f := 1) (q := 1) rfl (by kernel_rfl) rfl) rfl rfl rfl ?_; clear hf fa; intro fa hf
    refine sqn hf (d_storeK (T := 122) (v := (.slice b ((i).toNat) d)) (cs := #[(.slice a ((i).toNat) c), (.slice b Sl_.length d)]) (cs' := #[(.slice a ((i).toNat) c), (.slice b ((i).toNat) d)]) rfl rfl (by kernel_rfl) (by kernel_rfl) hk1 (by kernel_rfl) (by kernel_rfl)) rfl rfl ?_; clear hf fa; rintro fa _ w2 ⟨hk2, hg2⟩ hf
    replace hr1 := Row.grown hr1 hg2 (Row.ne_type hr1 hk1 rfl)
    replace hr2 := Row.grown hr2 hg2 (Row.ne_type hr2 hk1 rfl)
    replace hZ := Nat.le_trans hZ hg2.size
    replace hF := FRel.map hF (fun bf cs hbf => blk_grown hbf hg2 (blk_ty hbf hk1 rfl))
    replace hPk1 := KT.map hPk1 (fun bf cs hbf => blk_grown hbf hg2 (blk_ty hbf hk1 rfl))
    replace hPk2 := KT.map hPk2 (fun bf cs hbf => blk_grown hbf hg2 (blk_ty hbf hk1 rfl))
    replace hPk3 := KT.map hPk3 (fun bf cs hbf => blk_grown hbf hg2 (blk_ty hbf hk1 rfl))
    replace hb := hb.trans (grown_below hg2 hb.size hBp)
    apply wpList_nil
    (try simp only [Exit.then, Exit.inBlock])
    refine end0 hf rfl ?_
    have hin : (0 ≤ i ∧ i < ((ps.length : Nat) : Int)) := by have h := hqt14_1; first | omega | (simp at h; omega)
    have h1 : cutL L i = L.take i.toNat := by unfold cutL; rw [if_pos (by rw [← hF.1]; exact hin)]
    have h2 : cutL Sl_ i = Sl_.take i.toNat := by unfold cutL; rw [if_pos (by rw [← hln]; exact hin)]
    rw [h1, h2]
    have hp2 := hk2
    have hzR := hr1
    have hzS := hr2
    have hm1 : i.toNat = (ps.take i.toNat).length := by rw [List.length_take]; omega
    have hm2 : i.toNat = (Sl_.take i.toNat).length := by rw [List.length_take]; omega
    exact ⟨rfl, ⟨_, _, c, d, ps.take i.toNat, by rw [← hm1, ← hm2]; exact hp2, rowTo hzR hm1, rowTo hzS hm2, hBp, by omega, by omega, hF.take _⟩, hb, hPk1, hPk2, hPk3, hZ⟩
  · have hqt14_1b := hqt14_1
    replace hqt14_1 := Bool.eq_false_iff.1 hqt14_1
    try simp only [ne_eq, decide_eq_true_eq, Bool.and_eq_true, Bool.or_eq_true, Bool.not_eq_true', decide_eq_false_iff_not] at hqt14_1
    refine wp_skip ?_
    (try simp only [Exit.then, Exit.inBlock])
    refine end0 hf rfl ?_
    have hin : ¬ (0 ≤ i ∧ i < ((ps.length : Nat) : Int)) := by have h := hqt14_1; first | omega | (simp at h; omega)
    have h1 : cutL L i = L := by unfold cutL; rw [if_neg (by rw [← hF.1]; exact hin)]
    have h2 : cutL Sl_ i = Sl_ := by unfold cutL; rw [if_neg (by rw [← hln]; exact hin)]
    rw [h1, h2]
    exact ⟨rfl, ⟨_, _, c, d, ps, hp, hR, hRS, hBp, hps, hln, hF⟩, hb, hPk1, hPk2, hPk3, hZ⟩

def inR (L : List (Option MFn)) (i : Int) : Prop := 0 ≤ i ∧ i < ((L.length : Nat) : Int)
instance (L : List (Option MFn)) (i : Int) : Decidable (inR L i) := by unfold inR; exact inferInstance
def reL (L : List (Option MFn)) (i : Int) (x : MFn) : List (Option MFn) := if inR L i then L.set i.toNat (some x) else L
def reS (L : List (Option MFn)) (Sl_ : List Int) (i : Int) (c : Int) : List Int := if inR L i then Sl_.set i.toNat c else Sl_

set_option maxHeartbeats 1000000 in
set_option maxRecDepth 100000 in
theorem restK_raw (p : Nat) (a b : Option Addr) (c d : Nat) (ps : List (Option Addr)) (Sl_ : List Int) (w0 w : World) (hb : Below w0.heap.size w0 w) (hp : w.heap[p]? = some (.cells #[(.slice a ps.length c), (.slice b Sl_.length d)] 122 (0, 0))) (hR : Row 1 vPF 123 w0.heap.size w (.slice a ps.length c) ps) (hRS : Row 1 (vInt .i64) 3 w0.heap.size w (.slice b Sl_.length d) Sl_) (hBp : w0.heap.size ≤ p) (hps : ps.length ≤ 1000) (hln : ps.length = Sl_.length) (L : List (Option MFn)) (hF : FRel w ps L) (i : Int) (x : MFn) (m : Int) : Calls Try.prog 71 #[(.pointer (some ⟨p, 0, none⟩)), (.int .i64 i), (.agg #[(.string x.1), (.string x.2.1), (.int .i64 x.2.2.1), (.string ⟨#[]⟩), (.slice x.2.2.2.1 x.2.2.2.2 x.2.2.2.2), (.slice none 0 0), (.slice none 0 0)]), (.int .i64 m)] w fun e w' => e = .returned (.int .i64 (if inR L i then 0 else 1)) ∧ FSt w0.heap.size w' p (reL L i x) (reS L Sl_ i m) ∧ Below w0.heap.size w0 w' ∧ Pk w w' := by
  have hcR := Row.caps hR
  have hcS := Row.caps hRS
  have hpl := (Array.getElem?_eq_some_iff.1 hp).1
  have hPk1 := KT.refl 132 w
  have hPk2 := KT.refl 127 w
  have hPk3 := KT.refl 28 w
  have hZ := Nat.le_refl w.heap.size
  refine sx_enter (L := [(0, (.pointer (some ⟨p, 0, none⟩))), (1, (.int .i64 i)), (2, (.agg #[(.string x.1), (.string x.2.1), (.int .i64 x.2.2.1), (.string ⟨#[]⟩), (.slice x.2.2.2.1 x.2.2.2.2 x.2.2.2.2), (.slice none 0 0), (.slice none 0 0)])), (3, (.int .i64 m))]) Try.func71 rfl rfl rfl rfl (fun fa hf => ?_)
  refine wp_seq_k (fun K1 hK1 => ?_)
  refine wp_region_lit ?_
  refine sqdt hf (d_box (cs := #[(.string x.1), (.string x.2.1), (.int .i64 x.2.2.1), (.string ⟨#[]⟩), (.slice x.2.2.2.1 x.2.2.2.2 x.2.2.2.2), (.slice none 0 0), (.slice none 0 0)]) rfl rfl) rfl rfl rfl ?_; clear hf fa; rintro fa _ w1 ⟨b1, rfl, hle1, hk1, he1⟩ hf
  have hBb1 : w0.heap.size ≤ b1 := Nat.le_trans hb.size hle1
  have : p < b1 := Nat.lt_of_lt_of_le (blk_lt hp) hle1
  replace hp := blk_ext hp he1
  replace hR := Row.ext hR he1
  replace hRS := Row.ext hRS he1
  replace hF := FRel.map hF (fun bf cs hbf => blk_ext hbf he1)
  replace hPk1 := KT.map hPk1 (fun bf cs hbf => blk_ext hbf he1)
  replace hPk2 := KT.map hPk2 (fun bf cs hbf => blk_ext hbf he1)
  replace hPk3 := KT.map hPk3 (fun bf cs hbf => blk_ext hbf he1)
  replace hZ := Nat.le_trans hZ he1.size
  replace hb := hb.trans (Below.mono he1 hb.size)
  refine sqv hf (r_assign rfl) rfl rfl rfl ?_; clear hf fa; intro fa hf
  apply wpList_nil
  (try simp only [Exit.then, Exit.inBlock, ↓reduceIte, Nat.reduceEqDiff])
  refine hK1 _ _ ?_
  refine wp_seq_k (fun K2 hK2 => ?_)
  refine wp_seq_k (fun K3 hK3 => ?_)
  refine wp_region_lit ?_
  refine sqv hf (r_move rfl) rfl rfl rfl ?_; clear hf fa; intro fa hf
  refine sqv hf (r_lt rfl rfl) rfl rfl rfl ?_; clear hf fa; intro fa hf
  refine sqv hf (r_move rfl) rfl rfl rfl ?_; clear hf fa; intro fa hf
  refine sqgF (act := (!(decide (i < (0 : Int))))) (ag := true) (c := (decide (i < (0 : Int)))) (v := (.int .i64 i)) hf rfl rfl rfl (fun hact => (r_move rfl)) rfl rfl ?_; clear hf fa; intro fa hf
  refine sqgF (act := (!(decide (i < (0 : Int))))) (ag := true) (c := (decide (i < (0 : Int)))) (v := (.pointer (some ⟨p, 0, none⟩))) hf rfl rfl rfl (fun hact => (r_move rfl)) rfl rfl ?_; clear hf fa; intro fa hf
  refine sqgF (act := (!(decide (i < (0 : Int))))) (ag := true) (c := (decide (i < (0 : Int)))) (v := (.pointer (some ⟨p, 0, none⟩))) hf rfl rfl rfl (fun hact => (r_nilCheck (gb_ev hact rfl))) rfl rfl ?_; clear hf fa; intro fa hf
  refine sqgF (act := (!(decide (i < (0 : Int))))) (ag := true) (c := (decide (i < (0 : Int)))) (v := (.pointer (some ⟨p, 0, none⟩))) hf rfl rfl rfl (fun hact => (r_fa (gb_ev hact rfl) Try.underlying122 (f := 0) (q := 0) rfl (by kernel_rfl) rfl)) rfl rfl ?_; clear hf fa; intro fa hf
  refine sqgF (act := (!(decide (i < (0 : Int))))) (ag := true) (c := (decide (i < (0 : Int)))) (v := (.slice a ps.length c)) hf rfl rfl rfl (fun hact => (r_load (v := (.slice a ps.length c)) (gb_ev hact rfl) Try.underlying120 rfl (cell_blk hp rfl))) rfl rfl ?_; clear hf fa; intro fa hf
  refine sqgF (act := (!(decide (i < (0 : Int))))) (ag := true) (c := (decide (i < (0 : Int)))) (v := (.int .i64 ((ps.length : Nat) : Int))) hf rfl rfl rfl (fun hact => (r_lensl (gb_ev hact rfl) Try.underlying120)) rfl rfl ?_; clear hf fa; intro fa hf
  refine sqgF (act := (!(decide (i < (0 : Int))))) (ag := true) (c := (decide (i < (0 : Int)))) (v := (.bool (decide (((ps.length : Nat) : Int) ≤ i)))) hf rfl rfl rfl (fun hact => (r_ge (gb_ev hact rfl) (gb_ev hact rfl))) rfl rfl ?_; clear hf fa; intro fa hf
  refine sqv hf (r_pickO (b := (decide (i < (0 : Int)))) (e := (decide (((ps.length : Nat) : Int) ≤ i))) rfl rfl rfl) rfl rfl rfl ?_; clear hf fa; intro fa hf
  apply wpList_nil
  (try simp only [Exit.then, Exit.inBlock, ↓reduceIte, Nat.reduceEqDiff])
  refine hK3 _ _ ?_
  refine wp_cond_split (t := ((decide (i < (0 : Int))) || (decide (((ps.length : Nat) : Int) ≤ i)))) (hf.ev rfl) (fun hqt19_1 => ?_) (fun hqt19_1 => ?_)
  · have hqt19_1b := hqt19_1
    try simp only [decide_eq_true_eq, Bool.and_eq_true, Bool.or_eq_true, Bool.not_eq_true', decide_eq_false_iff_not, ne_eq, Bool.not_eq_true] at hqt19_1
    refine wp_seq_k (fun K4 hK4 => ?_)
    refine wp_region_lit ?_
    refine sqv hf (r_assign rfl) rfl rfl rfl ?_; clear hf fa; intro fa hf
    apply wpList_nil
    (try simp only [Exit.then, Exit.inBlock, ↓reduceIte, Nat.reduceEqDiff])
    refine hK4 _ _ ?_
    refine wp_ret ?_
    (try simp only [Exit.then, Exit.inBlock])
    refine ret1 hf rfl rfl ?_
    have hin : ¬ inR L i := by unfold inR; rw [← hF.1]; have h := hqt19_1; first | omega | (simp at h; omega)
    have h1 : reL L i x = L := by unfold reL; rw [if_neg hin]
    have h2 : reS L Sl_ i m = Sl_ := by unfold reS; rw [if_neg hin]
    rw [h1, h2, if_neg hin]
    exact ⟨rfl, ⟨_, _, c, d, ps, hp, hR, hRS, hBp, hps, hln, hF⟩, hb, hPk1, hPk2, hPk3, hZ⟩
  · have hqt19_1b := hqt19_1
    replace hqt19_1 := Bool.eq_false_iff.1 hqt19_1
    try simp only [ne_eq, decide_eq_true_eq, Bool.and_eq_true, Bool.or_eq_true, Bool.not_eq_true', decide_eq_false_iff_not] at hqt19_1
    refine wp_skip ?_
    (try simp only [Exit.then, Exit.inBlock, ↓reduceIte, Nat.reduceEqDiff])
    refine hK2 _ _ ?_
    refine wp_seq_k (fun K5 hK5 => ?_)
    have hin1 : 0 ≤ i ∧ i < ((ps.length : Nat) : Int) := by have h := hqt19_1; first | omega | (simp at h; omega)
    skip
    refine wp_region_lit ?_
    refine sqv hf (r_move rfl) rfl rfl rfl ?_; clear hf fa; intro fa hf
    refine sqv hf (r_nilCheck rfl) rfl rfl rfl ?_; clear hf fa; intro fa hf
    refine sqv hf (r_fa rfl Try.underlying122 (f := 0) (q := 0) rfl (by kernel_rfl) rfl) rfl rfl rfl ?_; clear hf fa; intro fa hf
    refine sqv hf (r_load (v := (.slice a ps.length c)) rfl Try.underlying120 rfl (cell_blk hp rfl)) rfl rfl rfl ?_; clear hf fa; intro fa hf
    refine sqv hf (r_move rfl) rfl rfl rfl ?_; clear hf fa; intro fa hf
    obtain ⟨rb1, rfl, hbbrb1, hlbrb1⟩ := Row.some hR (by first | omega | (simp only [Sl.list_length, List.length_set, List.length_take, List.length_append, List.length_replicate, List.length_cons, List.length_nil, List.length_map, nums_len]; omega))
    have hy1 := getD_at (l := ps) (j := (i).toNat) none (by first | omega | (simp only [Sl.list_length, List.length_set, List.length_take, List.length_append, List.length_replicate, List.length_cons, List.length_nil, List.length_map, nums_len]; omega))
    have hel1 := RdS.at (Row.rd (by intros; rfl) hR) hy1
    obtain ⟨_, _, hab, hlr1, hel1⟩ := hel1
    cases hab
    refine sqv hf (r_ixa (sz := 1) (j := (i).toNat) rfl rfl Try.underlying120 (by kernel_rfl) (by omega) (by omega) rfl) rfl rfl rfl ?_; clear hf fa; intro fa hf
    refine sqn hf (d_rowset (u := (some (⟨b1, 0, none⟩ : Addr))) (j := (i).toNat) (by intros; rfl) (by exact onePF) rfl rfl (by first | rfl | (simp; done) | (simp; omega)) (by kernel_rfl) hR (by first | omega | (simp only [Sl.list_length, List.length_set, List.length_take, List.length_append, List.length_replicate, List.length_cons, List.length_nil, List.length_map, nums_len]; omega)) (by omega)) rfl rfl ?_; clear hf fa; rintro fa _ w2 ⟨hr1, hg1⟩ hf
    replace hp := blk_grown hp hg1 (fun e => Row.ne_type hR hp rfl (show some rb1 = some p by rw [e]))
    replace hk1 := blk_grown hk1 hg1 (fun e => Row.ne_type hR hk1 rfl (show some rb1 = some b1 by rw [e]))
    replace hRS := Row.grown hRS hg1 (fun e => Row.ne_row hRS hR rfl rb1 e rfl)
    replace hZ := Nat.le_trans hZ hg1.size
    replace hF := FRel.map hF (fun bf cs hbf => blk_grown hbf hg1 (fun e => Row.ne_type hR hbf rfl (show some rb1 = some bf by rw [e])))
    replace hPk1 := KT.map hPk1 (fun bf cs hbf => blk_grown hbf hg1 (fun e => Row.ne_type hR hbf rfl (show some rb1 = some bf by rw [e])))
    replace hPk2 := KT.map hPk2 (fun bf cs hbf => blk_grown hbf hg1 (fun e => Row.ne_type hR hbf rfl (show some rb1 = some bf by rw [e])))
    replace hPk3 := KT.map hPk3 (fun bf cs hbf => blk_grown hbf hg1 (fun e => Row.ne_type hR hbf rfl (show some rb1 = some bf by rw [e])))
    replace hb := hb.trans (grown_below hg1 hb.size (by first | omega | (have := Row.lt hR _ rfl; omega)))
    apply wpList_nil
    (try simp only [Exit.then, Exit.inBlock, ↓reduceIte, Nat.reduceEqDiff])
    refine hK5 _ _ ?_
    refine wp_seq_k (fun K6 hK6 => ?_)
    refine wp_region_lit ?_
    refine sqv hf (r_move rfl) rfl rfl rfl ?_; clear hf fa; intro fa hf
    refine sqv hf (r_nilCheck rfl) rfl rfl rfl ?_; clear hf fa; intro fa hf
    refine sqv hf (r_fa rfl Try.underlying122 (f := 1) (q := 1) rfl (by kernel_rfl) rfl) rfl rfl rfl ?_; clear hf fa; intro fa hf
    refine sqv hf (r_load (v := (.slice b Sl_.length d)) rfl Try.underlying33 rfl (cell_blk hp rfl)) rfl rfl rfl ?_; clear hf fa; intro fa hf
    refine sqv hf (r_move rfl) rfl rfl rfl ?_; clear hf fa; intro fa hf
    refine sqv hf (r_move rfl) rfl rfl rfl ?_; clear hf fa; intro fa hf
    obtain ⟨rb2, rfl, hbbrb2, hlbrb2⟩ := Row.some hRS (by first | omega | (simp only [Sl.list_length, List.length_set, List.length_take, List.length_append, List.length_replicate, List.length_cons, List.length_nil, List.length_map, nums_len]; omega))
    have hy2 := getD_at (l := Sl_) (j := (i).toNat) (0 : Int) (by first | omega | (simp only [Sl.list_length, List.length_set, List.length_take, List.length_append, List.length_replicate, List.length_cons, List.length_nil, List.length_map, nums_len]; omega))
    have hel2 := RdS.at (Row.rd (by intros; rfl) hRS) hy2
    obtain ⟨_, _, hab, hlr2, hel2⟩ := hel2
    cases hab
    refine sqv hf (r_ixa (sz := 1) (j := (i).toNat) rfl rfl Try.underlying33 (by kernel_rfl) (by omega) (by omega) rfl) rfl rfl rfl ?_; clear hf fa; intro fa hf
    refine sqn hf (d_rowset (u := m) (j := (i).toNat) (by intros; rfl) (by intro x u hu; simp only [vInt, List.mem_singleton] at hu; subst hu; rfl) rfl rfl (by first | rfl | (simp; done) | (simp; omega)) (by kernel_rfl) hRS (by first | omega | (simp only [Sl.list_length, List.length_set, List.length_take, List.length_append, List.length_replicate, List.length_cons, List.length_nil, List.length_map, nums_len]; omega)) (by omega)) rfl rfl ?_; clear hf fa; rintro fa _ w3 ⟨hr2, hg2⟩ hf
    replace hp := blk_grown hp hg2 (fun e => Row.ne_type hRS hp rfl (show some rb2 = some p by rw [e]))
    replace hk1 := blk_grown hk1 hg2 (fun e => Row.ne_type hRS hk1 rfl (show some rb2 = some b1 by rw [e]))
    replace hr1 := Row.grown hr1 hg2 (fun e => Row.ne_row hr1 hRS rfl rb2 e rfl)
    replace hZ := Nat.le_trans hZ hg2.size
    replace hF := FRel.map hF (fun bf cs hbf => blk_grown hbf hg2 (fun e => Row.ne_type hRS hbf rfl (show some rb2 = some bf by rw [e])))
    replace hPk1 := KT.map hPk1 (fun bf cs hbf => blk_grown hbf hg2 (fun e => Row.ne_type hRS hbf rfl (show some rb2 = some bf by rw [e])))
    replace hPk2 := KT.map hPk2 (fun bf cs hbf => blk_grown hbf hg2 (fun e => Row.ne_type hRS hbf rfl (show some rb2 = some bf by rw [e])))
    replace hPk3 := KT.map hPk3 (fun bf cs hbf => blk_grown hbf hg2 (fun e => Row.ne_type hRS hbf rfl (show some rb2 = some bf by rw [e])))
    replace hb := hb.trans (grown_below hg2 hb.size (by first | omega | (have := Row.lt hRS _ rfl; omega)))
    apply wpList_nil
    (try simp only [Exit.then, Exit.inBlock, ↓reduceIte, Nat.reduceEqDiff])
    refine hK6 _ _ ?_
    refine wp_seq_k (fun K7 hK7 => ?_)
    refine wp_region_lit ?_
    refine sqv hf (r_assign rfl) rfl rfl rfl ?_; clear hf fa; intro fa hf
    apply wpList_nil
    (try simp only [Exit.then, Exit.inBlock, ↓reduceIte, Nat.reduceEqDiff])
    refine hK7 _ _ ?_
    refine wp_ret ?_
    (try simp only [Exit.then, Exit.inBlock])
    refine ret1 hf rfl rfl ?_
    have hin : inR L i := by unfold inR; rw [← hF.1]; have h := hqt19_1; first | omega | (simp at h; omega)
    have h1 : reL L i x = L.set i.toNat (some x) := by unfold reL; rw [if_pos hin]
    have h2 : reS L Sl_ i m = Sl_.set i.toNat m := by unfold reS; rw [if_pos hin]
    rw [h1, h2, if_pos hin]
    have hp2 := hp
    have hzR := hr1
    have hzS := hr2
    exact ⟨rfl, ⟨_, _, c, d, ps.set i.toNat (some ⟨b1, 0, none⟩), by rw [List.length_set, List.length_set]; exact hp2, hzR.relen, hzS.relen, hBp, by rw [List.length_set]; exact hps, by rw [List.length_set, List.length_set]; exact hln, hF.setSome _ hk1⟩, hb, hPk1, hPk2, hPk3, hZ⟩

theorem freeK_F {w0 w : World} (hb : Below w0.heap.size w0 w) {p : Nat} {L : List (Option MFn)} {Sl_ : List Int} (hF : FSt w0.heap.size w p L Sl_) (i : Int) : Calls Try.prog 15 #[.pointer (some ⟨p, 0, none⟩), .int .i64 i] w fun e w' => ∃ z_, e = .returned z_ ∧ z_ = .int .i64 (if liveL L i = true then 0 else 47) ∧ FSt w0.heap.size w' p (frL L i) (frS L Sl_ i) ∧ Below w0.heap.size w0 w' ∧ Pk w w' := by
  obtain ⟨a, b, c, d, ps, h1, h2, h3, h4, h5, h6, h7⟩ := hF
  exact (freeK_raw p a b c d ps Sl_ w0 w hb h1 h2 h3 h4 h5 h6 L h7 i (h7.live i)).mono (fun e w' h => ⟨_, h.1, rfl, h.2⟩)

theorem swapK_F {w0 w : World} (hb : Below w0.heap.size w0 w) {p : Nat} {L : List (Option MFn)} {Sl_ : List Int} (hF : FSt w0.heap.size w p L Sl_) (i j : Int) : Calls Try.prog 14 #[.pointer (some ⟨p, 0, none⟩), .int .i64 i, .int .i64 j] w fun e w' => ∃ z_, e = .returned z_ ∧ z_ = .tuple #[.int .i64 (swR L Sl_ i j).1, .int .i64 (swR L Sl_ i j).2.1] ∧ FSt w0.heap.size w' p L (swR L Sl_ i j).2.2 ∧ Below w0.heap.size w0 w' ∧ Pk w w' := by
  obtain ⟨a, b, c, d, ps, h1, h2, h3, h4, h5, h6, h7⟩ := hF
  exact (swapK_raw p a b c d ps Sl_ w0 w hb h1 h2 h3 h4 h5 h6 L h7 i j h7.live).mono (fun e w' h => ⟨_, h.1, rfl, h.2⟩)

theorem addK_F {w0 w : World} (hb : Below w0.heap.size w0 w) {p : Nat} {L : List (Option MFn)} {Sl_ : List Int} (hF : FSt w0.heap.size w p L Sl_) (x : MFn) (hl : L.length + 1 ≤ 1000) : Calls Try.prog 12 #[.pointer (some ⟨p, 0, none⟩), fnV x] w fun e w' => ∃ z_, e = .returned z_ ∧ z_ = .int .i64 ((L.length : Nat) : Int) ∧ FSt w0.heap.size w' p (L ++ [some x]) (Sl_ ++ [((L.length : Nat) : Int)]) ∧ Below w0.heap.size w0 w' ∧ Pk w w' := by
  obtain ⟨a, b, c, d, ps, h1, h2, h3, h4, h5, h6, h7⟩ := hF
  exact (addK_raw p a b c d ps Sl_ w0 w hb h1 h2 h3 h4 h5 h6 L h7 x (by rw [h7.1]; exact hl)).mono (fun e w' h => ⟨_, h.1, rfl, h.2⟩)

theorem cutK_F {w0 w : World} (hb : Below w0.heap.size w0 w) {p : Nat} {L : List (Option MFn)} {Sl_ : List Int} (hF : FSt w0.heap.size w p L Sl_) (i : Int) : Calls Try.prog 70 #[.pointer (some ⟨p, 0, none⟩), .int .i64 i] w fun e w' => ∃ z_, e = .returned z_ ∧ z_ = .tuple #[] ∧ FSt w0.heap.size w' p (cutL L i) (cutL Sl_ i) ∧ Below w0.heap.size w0 w' ∧ Pk w w' := by
  obtain ⟨a, b, c, d, ps, h1, h2, h3, h4, h5, h6, h7⟩ := hF
  exact (cutK_raw p a b c d ps Sl_ w0 w hb h1 h2 h3 h4 h5 h6 L h7 i).mono (fun e w' h => ⟨_, h.1, rfl, h.2⟩)

theorem restK_F {w0 w : World} (hb : Below w0.heap.size w0 w) {p : Nat} {L : List (Option MFn)} {Sl_ : List Int} (hF : FSt w0.heap.size w p L Sl_) (i : Int) (x : MFn) (m : Int) : Calls Try.prog 71 #[.pointer (some ⟨p, 0, none⟩), .int .i64 i, fnV x, .int .i64 m] w fun e w' => ∃ z_, e = .returned z_ ∧ z_ = .int .i64 (if inR L i then 0 else 1) ∧ FSt w0.heap.size w' p (reL L i x) (reS L Sl_ i m) ∧ Below w0.heap.size w0 w' ∧ Pk w w' := by
  obtain ⟨a, b, c, d, ps, h1, h2, h3, h4, h5, h6, h7⟩ := hF
  exact (restK_raw p a b c d ps Sl_ w0 w hb h1 h2 h3 h4 h5 h6 L h7 i x m).mono (fun e w' h => ⟨_, h.1, rfl, h.2⟩)
end Go.Proofs.Ytmcmickgllffoaa
