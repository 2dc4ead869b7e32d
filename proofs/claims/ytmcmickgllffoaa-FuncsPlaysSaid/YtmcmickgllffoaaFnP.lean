/- What is proved here: the law FuncsPlays, walked. -/
import Derived.Test.YtmcmickgllffoaaFnO
import Derived.Test.YtmcmickgllffoaaFnF
namespace Go.Proofs.Ytmcmickgllffoaa
open Go.RowKit
set_option linter.unusedVariables false
set_option linter.unusedSimpArgs false
theorem do_to {w0 w : World} (hb : Below w0.heap.size w0 w) {p : Nat} {a : Option Addr} {R : List MRf} {c : Nat} (hSt : St29 w0.heap.size w p R) (hrr : Row 6 vMRf 132 w0.heap.size w (.slice a R.length c) R) (hlc : R.length + 1 ≤ 1000) (kd ia ib tt ow mk_ : Int) (hT : 0 ≤ tt ∧ tt < 256) : Calls Try.prog 36 #[.pointer (some ⟨p, 0, none⟩), .slice a R.length c, .agg #[.int .i64 kd, .int .i64 ia, .int .i64 ib, .int .u8 tt, .int .i64 ow, .int .u64 mk_]] w fun e w' => ∃ x, e = .returned x ∧ ∃ R2 va vc, x = .tuple #[.slice va R2.length vc, .bool true] ∧ Row 6 vMRf 132 w0.heap.size w' (.slice va R2.length vc) R2 ∧ St29 w0.heap.size w' p R2 ∧ R2.length ≤ R.length + 1 ∧ Below w0.heap.size w0 w' := by
  refine (do_any w0 w hb p a R c hSt hrr hlc kd ia ib tt ow mk_ hT).mono (fun e w' h => ?_)
  obtain ⟨v, R2, h1, h2, h3, h4, h5⟩ := h
  obtain ⟨va, vc, rfl, _, _⟩ := Row.slice h2
  exact ⟨_, h1, R2, va, vc, rfl, h2, h3, h4, h5⟩

set_option maxHeartbeats 1000000 in
set_option maxRecDepth 100000 in
theorem funcsPlays_any (a : Option Addr) (l : List MOp) (c : Nat) (w : World) (hl : RdS 6 vMOp w a l) (hlc : l.length ≤ 9223372036854775807) (hT : ∀ y ∈ l, 0 ≤ y.2.2.2.1 ∧ y.2.2.2.1 < 256) : Calls Try.prog 5 #[(.slice a l.length c)] w fun e w' => e = .returned (.bool true) ∧ Below w.heap.size w w' := by
  refine sx_enter (L := [(0, (.slice a l.length c))]) Try.func5 rfl rfl rfl rfl (fun fa hf => ?_)
  have hb : Below w.heap.size w w := Below.refl _ _
  refine wp_seq_k (fun K1 hK1 => ?_)
  refine wp_region_lit ?_
  refine sqv hf (r_assign rfl) rfl rfl rfl ?_; clear hf fa; intro fa hf
  apply wpList_nil
  (try simp only [Exit.then, Exit.inBlock, ↓reduceIte, Nat.reduceEqDiff])
  refine hK1 _ _ ?_
  refine wp_seq_k (fun K2 hK2 => ?_)
  refine wp_seq_k (fun K3 hK3 => ?_)
  refine wp_region_lit ?_
  refine sqdt hf (d_callB (vs := []) rfl Try.func10 (by kernel_rfl) (by kernel_rfl) (awake29_any _)) rfl rfl rfl ?_; clear hf fa; rintro fa _ w1 ⟨rfl, he1⟩ hf
  replace hb := hb.trans (Below.mono he1 hb.size)
  refine sqv hf (Runs.veq (v' := (.bool false)) (r_not rfl) rfl) rfl rfl rfl ?_; clear hf fa; intro fa hf
  apply wpList_nil
  (try simp only [Exit.then, Exit.inBlock, ↓reduceIte, Nat.reduceEqDiff])
  refine hK3 _ _ ?_
  refine wp_cond_false (hf.ev rfl) ?_
  refine wp_skip ?_
  (try simp only [Exit.then, Exit.inBlock, ↓reduceIte, Nat.reduceEqDiff])
  refine hK2 _ _ ?_
  refine wp_seq_k (fun K4 hK4 => ?_)
  refine wp_seq_k (fun K5 hK5 => ?_)
  refine wp_region_lit ?_
  refine sqv hf (r_move rfl) rfl rfl rfl ?_; clear hf fa; intro fa hf
  refine sqv hf (r_lensl rfl Try.underlying22) rfl rfl rfl ?_; clear hf fa; intro fa hf
  refine sqv hf (r_gt rfl rfl) rfl rfl rfl ?_; clear hf fa; intro fa hf
  apply wpList_nil
  (try simp only [Exit.then, Exit.inBlock, ↓reduceIte, Nat.reduceEqDiff])
  refine hK5 _ _ ?_
  refine wp_cond_split (t := (decide ((60 : Int) < ((l.length : Nat) : Int)))) (hf.ev rfl) (fun hqt12_1 => ?_) (fun hqt12_1 => ?_)
  · have hqt12_1b := hqt12_1
    try simp only [decide_eq_true_eq, Bool.and_eq_true, Bool.or_eq_true, Bool.not_eq_true', decide_eq_false_iff_not, ne_eq, Bool.not_eq_true] at hqt12_1
    refine wp_seq_k (fun K6 hK6 => ?_)
    refine wp_region_lit ?_
    refine sqv hf (r_assign rfl) rfl rfl rfl ?_; clear hf fa; intro fa hf
    apply wpList_nil
    (try simp only [Exit.then, Exit.inBlock, ↓reduceIte, Nat.reduceEqDiff])
    refine hK6 _ _ ?_
    refine wp_ret ?_
    (try simp only [Exit.then, Exit.inBlock])
    refine ret1 hf rfl rfl ?_
    exact ⟨rfl, hb⟩
  · have hqt12_1b := hqt12_1
    replace hqt12_1 := Bool.eq_false_iff.1 hqt12_1
    try simp only [ne_eq, decide_eq_true_eq, Bool.and_eq_true, Bool.or_eq_true, Bool.not_eq_true', decide_eq_false_iff_not] at hqt12_1
    refine wp_skip ?_
    (try simp only [Exit.then, Exit.inBlock, ↓reduceIte, Nat.reduceEqDiff])
    refine hK4 _ _ ?_
    refine wp_seq_k (fun K7 hK7 => ?_)
    refine wp_region_lit ?_
    refine sqdt hf (d_callX (vs := []) rfl Try.func11 (by kernel_rfl) (by kernel_rfl) (new_S _)) rfl rfl rfl ?_; clear hf fa; rintro fa _ w2 ⟨pf, rfl, hSt, he2⟩ hf
    replace hSt : St29 w.heap.size w2 pf [] := hSt.low hb.size
    replace hb := hb.trans (Below.mono he2 hb.size)
    refine sqv hf (r_assign rfl) rfl rfl rfl ?_; clear hf fa; intro fa hf
    apply wpList_nil
    (try simp only [Exit.then, Exit.inBlock, ↓reduceIte, Nat.reduceEqDiff])
    refine hK7 _ _ ?_
    refine wp_seq_k (fun K8 hK8 => ?_)
    refine wp_region_lit ?_
    refine sqv hf (r_assign rfl) rfl rfl rfl ?_; clear hf fa; intro fa hf
    apply wpList_nil
    (try simp only [Exit.then, Exit.inBlock, ↓reduceIte, Nat.reduceEqDiff])
    refine hK8 _ _ ?_
    refine wp_seq_k (fun K9 hK9 => ?_)
    refine wp_seq_k (fun K10 hK10 => ?_)
    refine wp_region_lit ?_
    refine sqv hf (r_assign rfl) rfl rfl rfl ?_; clear hf fa; intro fa hf
    apply wpList_nil
    (try simp only [Exit.then, Exit.inBlock, ↓reduceIte, Nat.reduceEqDiff])
    refine hK10 _ _ ?_
    refine wp_block ?_
    refine wp_loop_k (fun mq fa wr => ∃ (k : Nat) (R : List MRf) (rra : Option Addr) (rrc : Nat), mq = l.length - k ∧ Fr 86 fa [(0, (.slice a l.length c)), (3, (.pointer (some ⟨pf, 0, none⟩))), (5, (.int .i64 ((k : Nat) : Int))), (4, (.slice rra R.length rrc))] ∧ Below w.heap.size w wr ∧ Row 6 vMRf 132 (w.heap.size) wr (.slice rra (R.length) rrc) R ∧ (k ≤ l.length) ∧ (R.length ≤ k) ∧ (St29 w.heap.size wr pf R)) ?_ ?_
    · skip
      exact ⟨_, 0, [], none, 0, rfl, hf.sub ⟨rfl, rfl, (some_int (by first | rfl | omega)), (some_sl (by first | omega | (simp only [List.length_append, List.length_cons, List.length_nil]; omega) | (simp <;> omega)) rfl), trivial⟩, hb, Row.nil, by omega, Nat.le_refl _, hSt⟩
    · skip
      clear hf fa; intro mq1 fa w3 hI KL1 hKL1
      clear hb
      obtain ⟨k, R, rra, rrc, hmq1, hf, hb, hrr, hk, hRk, hSt⟩ := hI
      have hcrr := Row.caps hrr
      refine wp_seq_k (fun K11 hK11 => ?_)
      refine wp_seq_k (fun K12 hK12 => ?_)
      refine wp_region_lit ?_
      refine sqv hf (r_move rfl) rfl rfl rfl ?_; clear hf fa; intro fa hf
      refine sqv hf (r_move rfl) rfl rfl rfl ?_; clear hf fa; intro fa hf
      refine sqv hf (r_lensl rfl Try.underlying22) rfl rfl rfl ?_; clear hf fa; intro fa hf
      refine sqv hf (r_lt rfl rfl) rfl rfl rfl ?_; clear hf fa; intro fa hf
      apply wpList_nil
      (try simp only [Exit.then, Exit.inBlock, ↓reduceIte, Nat.reduceEqDiff])
      refine hK12 _ _ ?_
      refine wp_cond_split (t := (decide (((k : Nat) : Int) < ((l.length : Nat) : Int)))) (hf.ev rfl) (fun hqt17_1 => ?_) (fun hqt17_1 => ?_)
      · have hqt17_1b := hqt17_1
        try simp only [decide_eq_true_eq, Bool.and_eq_true, Bool.or_eq_true, Bool.not_eq_true', decide_eq_false_iff_not, ne_eq, Bool.not_eq_true] at hqt17_1
        refine wp_skip ?_
        (try simp only [Exit.then, Exit.inBlock, ↓reduceIte, Nat.reduceEqDiff])
        refine hK11 _ _ ?_
        refine wp_seq_k (fun K13 hK13 => ?_)
        refine wp_block ?_
        refine wp_seq_k (fun K14 hK14 => ?_)
        obtain ⟨y, hy⟩ : ∃ x, l[k]? = some x := ⟨_, List.getElem?_eq_getElem (by omega)⟩
        have hyT := hT y (List.mem_of_getElem? hy)
        refine wp_region_lit ?_
        refine sqv hf (r_move rfl) rfl rfl rfl ?_; clear hf fa; intro fa hf
        refine sqv hf (r_move rfl) rfl rfl rfl ?_; clear hf fa; intro fa hf
        refine sqv hf (r_move rfl) rfl rfl rfl ?_; clear hf fa; intro fa hf
        refine sqv hf (r_move rfl) rfl rfl rfl ?_; clear hf fa; intro fa hf
        have hy1 : (l)[k]? = some y := hy
        obtain ⟨ab1, aoff1, hat1, hlb1, hel1⟩ := RdS.at hl hy1
        refine sqv hf (r_ixa (sz := 6) (j := k) (evAt rfl hat1) rfl Try.underlying22 (by kernel_rfl) rfl (by omega) rfl) rfl rfl rfl ?_; clear hf fa; intro fa hf
        refine sqv hf (r_loadA (cs := [(.int .i64 y.1), (.int .i64 y.2.1), (.int .i64 y.2.2.1), (.int .u8 y.2.2.2.1), (.int .i64 y.2.2.2.2.1), (.int .u64 y.2.2.2.2.2.1)]) rfl Try.underlying28 rfl (by kernel_rfl) (cellsAt_below hel1 hb hlb1)) rfl rfl rfl ?_; clear hf fa; intro fa hf
        refine sqdt hf (d_callX (vs := [(.pointer (some ⟨pf, 0, none⟩)), (.slice rra R.length rrc), (.agg #[(.int .i64 y.1), (.int .i64 y.2.1), (.int .i64 y.2.2.1), (.int .u8 y.2.2.2.1), (.int .i64 y.2.2.2.2.1), (.int .u64 y.2.2.2.2.2.1)])]) rfl Try.func36 (by kernel_rfl) (by kernel_rfl) (do_to hb hSt hrr (by omega) y.1 y.2.1 y.2.2.1 y.2.2.2.1 y.2.2.2.2.1 y.2.2.2.2.2.1 hyT)) rfl rfl rfl ?_; clear hf fa; rintro fa _ w4 ⟨R2, va, vc, rfl, hrn, hSt2, hRl, hb2⟩ hf
        clear hrr hSt hb
        have hSt := hSt2
        have hb := hb2
        clear hSt2 hb2
        have hrc2 := Row.caps hrn
        have hR60 : R2.length ≤ 1000 := by omega
        refine sqv hf (r_move rfl) rfl rfl rfl ?_; clear hf fa; intro fa hf
        refine sqv hf (r_extract rfl (i := 0) rfl) rfl rfl rfl ?_; clear hf fa; intro fa hf
        refine sqv hf (r_extract rfl (i := 1) rfl) rfl rfl rfl ?_; clear hf fa; intro fa hf
        refine sqv hf (r_assign rfl) rfl rfl rfl ?_; clear hf fa; intro fa hf
        refine sqv hf (r_assign rfl) rfl rfl rfl ?_; clear hf fa; intro fa hf
        apply wpList_nil
        (try simp only [Exit.then, Exit.inBlock, ↓reduceIte, Nat.reduceEqDiff])
        refine hK14 _ _ ?_
        refine wp_seq_k (fun K15 hK15 => ?_)
        refine wp_region_lit ?_
        refine sqv hf (r_move rfl) rfl rfl rfl ?_; clear hf fa; intro fa hf
        refine sqv hf (r_assign rfl) rfl rfl rfl ?_; clear hf fa; intro fa hf
        apply wpList_nil
        (try simp only [Exit.then, Exit.inBlock, ↓reduceIte, Nat.reduceEqDiff])
        refine hK15 _ _ ?_
        refine wp_seq_k (fun K16 hK16 => ?_)
        refine wp_seq_k (fun K17 hK17 => ?_)
        refine wp_region_lit ?_
        refine sqv hf (r_move rfl) rfl rfl rfl ?_; clear hf fa; intro fa hf
        refine sqv hf (Runs.veq (v' := (.bool false)) (r_not rfl) rfl) rfl rfl rfl ?_; clear hf fa; intro fa hf
        refine sqv hf (r_move rfl) rfl rfl rfl ?_; clear hf fa; intro fa hf
        refine sqgd (act := true) (g := 2) (want := false) (ag := true) (c := false) hf (by rfl) (by rfl) rfl (fun _ =>  Runs.does (R := fun vq wq => vq = (.pointer (some ⟨pf, 0, none⟩)) ∧ w4 = wq) (r_move rfl) ⟨rfl, rfl⟩) (fun h => by cases h) rfl ?_; clear hf fa; rintro fa _ _ ⟨rfl, rfl⟩ hf
        change Fr _ _ ((34, (.pointer (some ⟨pf, 0, none⟩))) :: _) at hf
        refine sqgd (act := true) (g := 2) (want := false) (ag := true) (c := false) hf (by rfl) (by rfl) rfl (fun _ =>  (d_callB (vs := [(.pointer (some ⟨pf, 0, none⟩))]) rfl Try.func37 (by kernel_rfl) (by kernel_rfl) (len_S hSt)) ) (fun h => by cases h) rfl ?_; clear hf fa; rintro fa _ w5 ⟨rfl, he3⟩ hf
        replace hrn := Row.ext hrn he3
        replace hb := hb.trans (Below.mono he3 hb.size)
        replace hSt := hSt.ext he3
        change Fr _ _ ((35, (.int .i64 ((R2.length : Nat) : Int))) :: _) at hf
        refine sqgd (act := true) (g := 2) (want := false) (ag := true) (c := false) hf (by rfl) (by rfl) rfl (fun _ =>  Runs.does (R := fun vq wq => vq = (.slice va R2.length vc) ∧ w5 = wq) (r_move rfl) ⟨rfl, rfl⟩) (fun h => by cases h) rfl ?_; clear hf fa; rintro fa _ _ ⟨rfl, rfl⟩ hf
        change Fr _ _ ((36, (.slice va R2.length vc)) :: _) at hf
        refine sqgd (act := true) (g := 2) (want := false) (ag := true) (c := false) hf (by rfl) (by rfl) rfl (fun _ =>  Runs.does (R := fun vq wq => vq = (.int .i64 ((R2.length : Nat) : Int)) ∧ w5 = wq) (r_lensl rfl Try.underlying76) ⟨rfl, rfl⟩) (fun h => by cases h) rfl ?_; clear hf fa; rintro fa _ _ ⟨rfl, rfl⟩ hf
        change Fr _ _ ((37, (.int .i64 ((R2.length : Nat) : Int))) :: _) at hf
        refine sqgd (act := true) (g := 2) (want := false) (ag := true) (c := false) hf (by rfl) (by rfl) rfl (fun _ =>  Runs.does (R := fun vq wq => vq = (.bool false) ∧ w5 = wq) (Runs.veq (r_ne rfl rfl) (congrArg Value.bool (show _ = false from (by simp)))) ⟨rfl, rfl⟩) (fun h => by cases h) rfl ?_; clear hf fa; rintro fa _ _ ⟨rfl, rfl⟩ hf
        change Fr _ _ ((38, (.bool false)) :: _) at hf
        refine sqv hf (r_pick (b := false) rfl rfl rfl rfl) rfl rfl rfl ?_; clear hf fa; intro fa hf
        refine sqv hf (r_move rfl) rfl rfl rfl ?_; clear hf fa; intro fa hf
        refine sqgd (act := true) (g := 9) (want := false) (ag := true) (c := false) hf (by rfl) (by rfl) rfl (fun _ =>  Runs.does (R := fun vq wq => vq = (.pointer (some ⟨pf, 0, none⟩)) ∧ w5 = wq) (r_move rfl) ⟨rfl, rfl⟩) (fun h => by cases h) rfl ?_; clear hf fa; rintro fa _ _ ⟨rfl, rfl⟩ hf
        change Fr _ _ ((41, (.pointer (some ⟨pf, 0, none⟩))) :: _) at hf
        refine sqgd (act := true) (g := 9) (want := false) (ag := true) (c := false) hf (by rfl) (by rfl) rfl (fun _ =>  Runs.does (R := fun vq wq => vq = (.slice va R2.length vc) ∧ w5 = wq) (r_move rfl) ⟨rfl, rfl⟩) (fun h => by cases h) rfl ?_; clear hf fa; rintro fa _ _ ⟨rfl, rfl⟩ hf
        change Fr _ _ ((42, (.slice va R2.length vc)) :: _) at hf
        refine sqgd (act := true) (g := 9) (want := false) (ag := true) (c := false) hf (by rfl) (by rfl) rfl (fun _ =>  Runs.does (R := fun vq wq => vq = (.slice a l.length c) ∧ w5 = wq) (r_move rfl) ⟨rfl, rfl⟩) (fun h => by cases h) rfl ?_; clear hf fa; rintro fa _ _ ⟨rfl, rfl⟩ hf
        change Fr _ _ ((43, (.slice a l.length c)) :: _) at hf
        refine sqgd (act := true) (g := 9) (want := false) (ag := true) (c := false) hf (by rfl) (by rfl) rfl (fun _ =>  Runs.does (R := fun vq wq => vq = (.int .i64 ((k : Nat) : Int)) ∧ w5 = wq) (r_move rfl) ⟨rfl, rfl⟩) (fun h => by cases h) rfl ?_; clear hf fa; rintro fa _ _ ⟨rfl, rfl⟩ hf
        change Fr _ _ ((44, (.int .i64 ((k : Nat) : Int))) :: _) at hf
        refine sqgd (act := true) (g := 9) (want := false) (ag := true) (c := false) hf (by rfl) (by rfl) rfl (fun _ =>  Runs.does (R := fun vq wq => vq = (.pointer (some ⟨ab1, (aoff1 + k * 6), none⟩)) ∧ w5 = wq) (r_ixa (sz := 6) (j := k) (evAt rfl hat1) rfl Try.underlying22 (by kernel_rfl) rfl (by omega) rfl) ⟨rfl, rfl⟩) (fun h => by cases h) rfl ?_; clear hf fa; rintro fa _ _ ⟨rfl, rfl⟩ hf
        change Fr _ _ ((45, (.pointer (some ⟨ab1, (aoff1 + k * 6), none⟩))) :: _) at hf
        refine sqgd (act := true) (g := 9) (want := false) (ag := true) (c := false) hf (by rfl) (by rfl) rfl (fun _ =>  Runs.does (R := fun vq wq => vq = (.pointer (some ⟨ab1, ((aoff1 + k * 6) + 1), none⟩)) ∧ w5 = wq) (r_fa rfl Try.underlying28 (f := 1) (q := ((aoff1 + k * 6) + 1)) rfl (by kernel_rfl) rfl) ⟨rfl, rfl⟩) (fun h => by cases h) rfl ?_; clear hf fa; rintro fa _ _ ⟨rfl, rfl⟩ hf
        change Fr _ _ ((46, (.pointer (some ⟨ab1, ((aoff1 + k * 6) + 1), none⟩))) :: _) at hf
        refine sqgd (act := true) (g := 9) (want := false) (ag := true) (c := false) hf (by rfl) (by rfl) rfl (fun _ =>  Runs.does (R := fun vq wq => vq = (.int .i64 y.2.1) ∧ w5 = wq) (r_load (v := (.int .i64 y.2.1)) rfl Try.underlying3 rfl (cellsAt_cell (cellsAt_below hel1 hb hlb1) (i := 1) rfl rfl)) ⟨rfl, rfl⟩) (fun h => by cases h) rfl ?_; clear hf fa; rintro fa _ _ ⟨rfl, rfl⟩ hf
        change Fr _ _ ((47, (.int .i64 y.2.1)) :: _) at hf
        refine sqgd (act := true) (g := 9) (want := false) (ag := true) (c := false) hf (by rfl) (by rfl) rfl (fun _ =>  (d_callB (vs := [(.pointer (some ⟨pf, 0, none⟩)), (.slice va R2.length vc), (.int .i64 y.2.1)]) rfl Try.func38 (by kernel_rfl) (by kernel_rfl) (shows_S hSt (Row.rd (by intros; rfl) hrn) hR60 (Row.caps hrn).2 (fun h => Row.nocap hrn h) y.2.1)) ) (fun h => by cases h) rfl ?_; clear hf fa; rintro fa _ w6 ⟨rfl, he4⟩ hf
        replace hrn := Row.ext hrn he4
        replace hb := hb.trans (Below.mono he4 hb.size)
        replace hSt := hSt.ext he4
        change Fr _ _ ((48, (.bool true)) :: _) at hf
        refine sqgd (act := true) (g := 9) (want := false) (ag := true) (c := false) hf (by rfl) (by rfl) rfl (fun _ =>  Runs.does (R := fun vq wq => vq = (.bool false) ∧ w6 = wq) (Runs.veq (v' := (.bool false)) (r_not rfl) rfl) ⟨rfl, rfl⟩) (fun h => by cases h) rfl ?_; clear hf fa; rintro fa _ _ ⟨rfl, rfl⟩ hf
        change Fr _ _ ((49, (.bool false)) :: _) at hf
        refine sqv hf (r_pick (b := false) rfl rfl rfl rfl) rfl rfl rfl ?_; clear hf fa; intro fa hf
        refine sqv hf (r_move rfl) rfl rfl rfl ?_; clear hf fa; intro fa hf
        refine sqgd (act := true) (g := 20) (want := false) (ag := true) (c := false) hf (by rfl) (by rfl) rfl (fun _ =>  Runs.does (R := fun vq wq => vq = (.pointer (some ⟨pf, 0, none⟩)) ∧ w6 = wq) (r_move rfl) ⟨rfl, rfl⟩) (fun h => by cases h) rfl ?_; clear hf fa; rintro fa _ _ ⟨rfl, rfl⟩ hf
        change Fr _ _ ((52, (.pointer (some ⟨pf, 0, none⟩))) :: _) at hf
        refine sqgd (act := true) (g := 20) (want := false) (ag := true) (c := false) hf (by rfl) (by rfl) rfl (fun _ =>  Runs.does (R := fun vq wq => vq = (.slice va R2.length vc) ∧ w6 = wq) (r_move rfl) ⟨rfl, rfl⟩) (fun h => by cases h) rfl ?_; clear hf fa; rintro fa _ _ ⟨rfl, rfl⟩ hf
        change Fr _ _ ((53, (.slice va R2.length vc)) :: _) at hf
        refine sqgd (act := true) (g := 20) (want := false) (ag := true) (c := false) hf (by rfl) (by rfl) rfl (fun _ =>  Runs.does (R := fun vq wq => vq = (.slice a l.length c) ∧ w6 = wq) (r_move rfl) ⟨rfl, rfl⟩) (fun h => by cases h) rfl ?_; clear hf fa; rintro fa _ _ ⟨rfl, rfl⟩ hf
        change Fr _ _ ((54, (.slice a l.length c)) :: _) at hf
        refine sqgd (act := true) (g := 20) (want := false) (ag := true) (c := false) hf (by rfl) (by rfl) rfl (fun _ =>  Runs.does (R := fun vq wq => vq = (.int .i64 ((k : Nat) : Int)) ∧ w6 = wq) (r_move rfl) ⟨rfl, rfl⟩) (fun h => by cases h) rfl ?_; clear hf fa; rintro fa _ _ ⟨rfl, rfl⟩ hf
        change Fr _ _ ((55, (.int .i64 ((k : Nat) : Int))) :: _) at hf
        refine sqgd (act := true) (g := 20) (want := false) (ag := true) (c := false) hf (by rfl) (by rfl) rfl (fun _ =>  Runs.does (R := fun vq wq => vq = (.pointer (some ⟨ab1, (aoff1 + k * 6), none⟩)) ∧ w6 = wq) (r_ixa (sz := 6) (j := k) (evAt rfl hat1) rfl Try.underlying22 (by kernel_rfl) rfl (by omega) rfl) ⟨rfl, rfl⟩) (fun h => by cases h) rfl ?_; clear hf fa; rintro fa _ _ ⟨rfl, rfl⟩ hf
        change Fr _ _ ((56, (.pointer (some ⟨ab1, (aoff1 + k * 6), none⟩))) :: _) at hf
        refine sqgd (act := true) (g := 20) (want := false) (ag := true) (c := false) hf (by rfl) (by rfl) rfl (fun _ =>  Runs.does (R := fun vq wq => vq = (.pointer (some ⟨ab1, ((aoff1 + k * 6) + 2), none⟩)) ∧ w6 = wq) (r_fa rfl Try.underlying28 (f := 2) (q := ((aoff1 + k * 6) + 2)) rfl (by kernel_rfl) rfl) ⟨rfl, rfl⟩) (fun h => by cases h) rfl ?_; clear hf fa; rintro fa _ _ ⟨rfl, rfl⟩ hf
        change Fr _ _ ((57, (.pointer (some ⟨ab1, ((aoff1 + k * 6) + 2), none⟩))) :: _) at hf
        refine sqgd (act := true) (g := 20) (want := false) (ag := true) (c := false) hf (by rfl) (by rfl) rfl (fun _ =>  Runs.does (R := fun vq wq => vq = (.int .i64 y.2.2.1) ∧ w6 = wq) (r_load (v := (.int .i64 y.2.2.1)) rfl Try.underlying3 rfl (cellsAt_cell (cellsAt_below hel1 hb hlb1) (i := 2) rfl rfl)) ⟨rfl, rfl⟩) (fun h => by cases h) rfl ?_; clear hf fa; rintro fa _ _ ⟨rfl, rfl⟩ hf
        change Fr _ _ ((58, (.int .i64 y.2.2.1)) :: _) at hf
        refine sqgd (act := true) (g := 20) (want := false) (ag := true) (c := false) hf (by rfl) (by rfl) rfl (fun _ =>  (d_callB (vs := [(.pointer (some ⟨pf, 0, none⟩)), (.slice va R2.length vc), (.int .i64 y.2.2.1)]) rfl Try.func38 (by kernel_rfl) (by kernel_rfl) (shows_S hSt (Row.rd (by intros; rfl) hrn) hR60 (Row.caps hrn).2 (fun h => Row.nocap hrn h) y.2.2.1)) ) (fun h => by cases h) rfl ?_; clear hf fa; rintro fa _ w7 ⟨rfl, he5⟩ hf
        replace hrn := Row.ext hrn he5
        replace hb := hb.trans (Below.mono he5 hb.size)
        replace hSt := hSt.ext he5
        change Fr _ _ ((59, (.bool true)) :: _) at hf
        refine sqgd (act := true) (g := 20) (want := false) (ag := true) (c := false) hf (by rfl) (by rfl) rfl (fun _ =>  Runs.does (R := fun vq wq => vq = (.bool false) ∧ w7 = wq) (Runs.veq (v' := (.bool false)) (r_not rfl) rfl) ⟨rfl, rfl⟩) (fun h => by cases h) rfl ?_; clear hf fa; rintro fa _ _ ⟨rfl, rfl⟩ hf
        change Fr _ _ ((60, (.bool false)) :: _) at hf
        refine sqv hf (r_pick (b := false) rfl rfl rfl rfl) rfl rfl rfl ?_; clear hf fa; intro fa hf
        apply wpList_nil
        (try simp only [Exit.then, Exit.inBlock, ↓reduceIte, Nat.reduceEqDiff])
        refine hK17 _ _ ?_
        refine wp_cond_false (hf.ev rfl) ?_
        refine wp_skip ?_
        (try simp only [Exit.then, Exit.inBlock, ↓reduceIte, Nat.reduceEqDiff])
        refine hK16 _ _ ?_
        refine wp_seq_k (fun K18 hK18 => ?_)
        refine wp_region_un (fun wq => Below w7.heap.size w7 wq) (fun w w' => Below w.heap.size w w')
          (fun V => [(fun x _ => x = (.pointer (some ⟨pf, 0, none⟩))), (fun x wq => ∃ a c, x = .slice a (((rwF R2 (0 : Int) true R2.length)).length) c ∧ Row 1 (vInt .i64) 3 w7.heap.size wq x (rwF R2 (0 : Int) true R2.length)), (fun x _ => x = (.slice va R2.length vc)), (fun x wq => ∃ a c, x = .slice a (((rwF R2 (0 : Int) true R2.length)).length) c ∧ Row 1 (vInt .i64) 3 w7.heap.size wq x (rwF R2 (0 : Int) true R2.length)), (fun x _ => x = (.bool true)), (fun x _ => x = (.bool false)), (fun x _ => x = (.bool false)), (fun x _ => x = (.pointer (some ⟨pf, 0, none⟩))), (fun x _ => x = (.slice a l.length c)), (fun x _ => x = (.int .i64 ((k : Nat) : Int))), (fun x _ => x = (.pointer (some ⟨ab1, (aoff1 + k * 6), none⟩))), (fun x _ => x = (.pointer (some ⟨ab1, ((aoff1 + k * 6) + 4), none⟩))), (fun x _ => x = (.int .i64 y.2.2.2.2.1)), (fun x wq => ∃ a c, x = .slice a (((rwF R2 y.2.2.2.2.1 false R2.length)).length) c ∧ Row 1 (vInt .i64) 3 w7.heap.size wq x (rwF R2 y.2.2.2.2.1 false R2.length)), (fun x _ => x = (.slice va R2.length vc)), (fun x _ => x = (.slice a l.length c)), (fun x _ => x = (.int .i64 ((k : Nat) : Int))), (fun x _ => x = (.pointer (some ⟨ab1, (aoff1 + k * 6), none⟩))), (fun x _ => x = (.pointer (some ⟨ab1, ((aoff1 + k * 6) + 4), none⟩))), (fun x _ => x = (.int .i64 y.2.2.2.2.1)), (fun x wq => ∃ a c, x = .slice a (((rwF R2 y.2.2.2.2.1 false R2.length)).length) c ∧ Row 1 (vInt .i64) 3 w7.heap.size wq x (rwF R2 y.2.2.2.2.1 false R2.length)), (fun x _ => x = (.bool true)), (fun x _ => x = (.bool false)), (fun x _ => x = (.bool false))])
          []
          [[], [0], [], [1, 2], [1, 3], [4], [4, 5], [6], [6], [6], [6, 8, 9], [6, 10], [6, 11], [6, 7, 12], [6], [6], [6], [6, 15, 16], [6, 17], [6, 18], [6, 13, 14, 19], [6, 13, 20], [6, 21], [6, 22]]
          hf (by kernel_rfl) (by kernel_rfl) (fun _ => rfl) ((Below.refl _ _).drew) (fun a b h1 h2 => h1.trans (h2.mono h1.size)) (fun _ _ h => h.size) (fun V => ⟨kept_eq, keptE, kept_eq, keptE, kept_eq, kept_eq, kept_eq, kept_eq, kept_eq, kept_eq, kept_eq, kept_eq, kept_eq, keptE, kept_eq, kept_eq, kept_eq, kept_eq, kept_eq, kept_eq, keptE, kept_eq, kept_eq, kept_eq, trivial⟩) (fun _ _ _ _ _ => rfl) ?_ ?_
        · skip
          intro V
          refine ⟨fun wu0 hC hd => ?_, ?_⟩
          · clear hd
            replace hb := hb.trans (hC.mono hb.size)
            replace hrn := Row.ext hrn hC
            exact Runs.does (r_move rfl) ⟨Below.refl _ _, rfl, nofr rfl⟩
          refine ⟨fun wu1 hC hd => ?_, ?_⟩
          · obtain ⟨h0, _⟩ := hd
            skip
            replace h0 : V 0 = (.pointer (some ⟨pf, 0, none⟩)) := h0
            replace hb := hb.trans (hC.mono hb.size)
            replace hrn := Row.ext hrn hC
            refine Does.mono (d_callX (vs := [(.pointer (some ⟨pf, 0, none⟩))]) (show [some (V 0)] = [some (.pointer (some ⟨pf, 0, none⟩))] from by rw [h0]) Try.func40 (by kernel_rfl) (by kernel_rfl) (swapped_S (hSt.ext hC))) ?_
            rintro _ w' ⟨hF2, hF3⟩
            obtain ⟨ra, rc, rfl, _, _⟩ := Row.slice hF2
            exact ⟨hF3, ⟨ra, rc, rfl, hF2.rebase hC.size⟩, nofr rfl⟩
          refine ⟨fun wu2 hC hd => ?_, ?_⟩
          · clear hd
            replace hb := hb.trans (hC.mono hb.size)
            replace hrn := Row.ext hrn hC
            exact Runs.does (r_move rfl) ⟨Below.refl _ _, rfl, nofr rfl⟩
          refine ⟨fun wu3 hC hd => ?_, ?_⟩
          · obtain ⟨h1, h2, _⟩ := hd
            skip
            skip
            obtain ⟨ea1, ec1, h1, hr1⟩ := h1
            rw [h1] at hr1
            replace h2 : V 2 = (.slice va R2.length vc) := h2
            replace hb := hb.trans (hC.mono hb.size)
            replace hrn := Row.ext hrn hC
            refine Does.mono (d_callX (vs := [(.slice va R2.length vc), (.int .i64 (0 : Int)), (.bool true)]) (show [some (V 2), some (.int .i64 (0 : Int)), some (.bool true)] = [some (.slice va R2.length vc), some (.int .i64 (0 : Int)), some (.bool true)] from by rw [h2]) Try.func41 (by kernel_rfl) (by kernel_rfl) (which_true va R2 vc _ (Row.rd (by intros; rfl) hrn) hR60 (Row.caps hrn).2 (fun h => Row.nocap hrn h) (0 : Int))) ?_
            rintro _ w' ⟨hF2, hF3⟩
            obtain ⟨ra, rc, rfl, _, _⟩ := Row.slice hF2
            exact ⟨hF3, ⟨ra, rc, rfl, hF2.rebase hC.size⟩, nofr rfl⟩
          refine ⟨fun wu4 hC hd => ?_, ?_⟩
          · obtain ⟨h1, h3, _⟩ := hd
            skip
            skip
            obtain ⟨ea1, ec1, h1, hr1⟩ := h1
            rw [h1] at hr1
            obtain ⟨ea2, ec2, h3, hr2⟩ := h3
            rw [h3] at hr2
            replace hb := hb.trans (hC.mono hb.size)
            replace hrn := Row.ext hrn hC
            refine Does.mono (d_callB (vs := [(.slice ea1 (((rwF R2 (0 : Int) true R2.length)).length) ec1), (.slice ea2 (((rwF R2 (0 : Int) true R2.length)).length) ec2)]) (show [some (V 1), some (V 3)] = [some (.slice ea1 (((rwF R2 (0 : Int) true R2.length)).length) ec1), some (.slice ea2 (((rwF R2 (0 : Int) true R2.length)).length) ec2)] from by rw [h1, h3]) Try.func39 (by kernel_rfl) (by kernel_rfl) (same_any _ _ (rwF R2 (0 : Int) true R2.length) _ _ _ (Row.rd (by intros; rfl) hr1) (Row.rd (by intros; rfl) hr2) (by have : (rwF R2 (0 : Int) true R2.length).length ≤ R2.length := rwF_len _ _ _ _; omega))) (fun _ _ h => ⟨h.2, h.1, nofr rfl⟩)
          refine ⟨fun wu5 hC hd => ?_, ?_⟩
          · obtain ⟨h4, _⟩ := hd
            skip
            replace h4 : V 4 = (.bool true) := h4
            replace hb := hb.trans (hC.mono hb.size)
            replace hrn := Row.ext hrn hC
            exact Runs.does (Runs.veq (v' := (.bool false)) (r_not (congrArg some h4)) rfl) ⟨Below.refl _ _, rfl, nofr rfl⟩
          refine ⟨fun wu6 hC hd => ?_, ?_⟩
          · obtain ⟨h4, h5, _⟩ := hd
            skip
            skip
            replace h4 : V 4 = (.bool true) := h4
            replace h5 : V 5 = (.bool false) := h5
            replace hb := hb.trans (hC.mono hb.size)
            replace hrn := Row.ext hrn hC
            exact Runs.does (r_move (congrArg some h5)) ⟨Below.refl _ _, rfl, nofr rfl⟩
          refine ⟨fun wu7 hC hd => ?_, ?_⟩
          · obtain ⟨h6, _⟩ := hd
            skip
            replace h6 : V 6 = (.bool false) := h6
            replace hb := hb.trans (hC.mono hb.size)
            replace hrn := Row.ext hrn hC
            refine ⟨true, false, congrArg some h6, fun hact => ?_, fun hact => ?_⟩
            · exact Runs.does (r_move rfl) ⟨Below.refl _ _, rfl, nofr rfl⟩
            · exfalso; simp at hact
          refine ⟨fun wu8 hC hd => ?_, ?_⟩
          · obtain ⟨h6, _⟩ := hd
            skip
            replace h6 : V 6 = (.bool false) := h6
            replace hb := hb.trans (hC.mono hb.size)
            replace hrn := Row.ext hrn hC
            refine ⟨true, false, congrArg some h6, fun hact => ?_, fun hact => ?_⟩
            · exact Runs.does (r_move rfl) ⟨Below.refl _ _, rfl, nofr rfl⟩
            · exfalso; simp at hact
          refine ⟨fun wu9 hC hd => ?_, ?_⟩
          · obtain ⟨h6, _⟩ := hd
            skip
            replace h6 : V 6 = (.bool false) := h6
            replace hb := hb.trans (hC.mono hb.size)
            replace hrn := Row.ext hrn hC
            refine ⟨true, false, congrArg some h6, fun hact => ?_, fun hact => ?_⟩
            · exact Runs.does (r_move rfl) ⟨Below.refl _ _, rfl, nofr rfl⟩
            · exfalso; simp at hact
          refine ⟨fun wu10 hC hd => ?_, ?_⟩
          · obtain ⟨h6, h8, h9, _⟩ := hd
            skip
            skip
            skip
            replace h6 : V 6 = (.bool false) := h6
            replace h8 : V 8 = (.slice a l.length c) := h8
            replace h9 : V 9 = (.int .i64 ((k : Nat) : Int)) := h9
            replace hb := hb.trans (hC.mono hb.size)
            replace hrn := Row.ext hrn hC
            refine ⟨true, false, congrArg some h6, fun hact => ?_, fun hact => ?_⟩
            · exact Runs.does (r_ixa (sz := 6) (j := k) (evAt (congrArg some h8) hat1) (congrArg some h9) Try.underlying22 (by kernel_rfl) rfl (by omega) rfl) ⟨Below.refl _ _, rfl, nofr rfl⟩
            · exfalso; simp at hact
          refine ⟨fun wu11 hC hd => ?_, ?_⟩
          · obtain ⟨h6, h10, _⟩ := hd
            skip
            skip
            replace h6 : V 6 = (.bool false) := h6
            replace h10 : V 10 = (.pointer (some ⟨ab1, (aoff1 + k * 6), none⟩)) := h10
            replace hb := hb.trans (hC.mono hb.size)
            replace hrn := Row.ext hrn hC
            refine ⟨true, false, congrArg some h6, fun hact => ?_, fun hact => ?_⟩
            · exact Runs.does (r_fa (congrArg some h10) Try.underlying28 (f := 4) (q := ((aoff1 + k * 6) + 4)) rfl (by kernel_rfl) rfl) ⟨Below.refl _ _, rfl, nofr rfl⟩
            · exfalso; simp at hact
          refine ⟨fun wu12 hC hd => ?_, ?_⟩
          · obtain ⟨h6, h11, _⟩ := hd
            skip
            skip
            replace h6 : V 6 = (.bool false) := h6
            replace h11 : V 11 = (.pointer (some ⟨ab1, ((aoff1 + k * 6) + 4), none⟩)) := h11
            replace hb := hb.trans (hC.mono hb.size)
            replace hrn := Row.ext hrn hC
            refine ⟨true, false, congrArg some h6, fun hact => ?_, fun hact => ?_⟩
            · exact Runs.does (r_load (v := (.int .i64 y.2.2.2.2.1)) (congrArg some h11) Try.underlying3 rfl (cellsAt_cell (cellsAt_below hel1 hb hlb1) (i := 4) rfl rfl)) ⟨Below.refl _ _, rfl, nofr rfl⟩
            · exfalso; simp at hact
          refine ⟨fun wu13 hC hd => ?_, ?_⟩
          · obtain ⟨h6, h7, h12, _⟩ := hd
            skip
            skip
            skip
            replace h6 : V 6 = (.bool false) := h6
            replace h7 : V 7 = (.pointer (some ⟨pf, 0, none⟩)) := h7
            replace h12 : V 12 = (.int .i64 y.2.2.2.2.1) := h12
            replace hb := hb.trans (hC.mono hb.size)
            replace hrn := Row.ext hrn hC
            refine ⟨true, false, congrArg some h6, fun hact => ?_, fun hact => ?_⟩
            · refine Does.mono (d_callX (vs := [(.pointer (some ⟨pf, 0, none⟩)), (.int .i64 y.2.2.2.2.1)]) (show [some (V 7), some (V 12)] = [some (.pointer (some ⟨pf, 0, none⟩)), some (.int .i64 y.2.2.2.2.1)] from by rw [h7, h12]) Try.func42 (by kernel_rfl) (by kernel_rfl) (owned_S (hSt.ext hC) y.2.2.2.2.1)) ?_
              rintro _ w' ⟨hF2, hF3⟩
              obtain ⟨ra, rc, rfl, _, _⟩ := Row.slice hF2
              exact ⟨hF3, ⟨ra, rc, rfl, hF2.rebase hC.size⟩, nofr rfl⟩
            · exfalso; simp at hact
          refine ⟨fun wu14 hC hd => ?_, ?_⟩
          · obtain ⟨h6, _⟩ := hd
            skip
            replace h6 : V 6 = (.bool false) := h6
            replace hb := hb.trans (hC.mono hb.size)
            replace hrn := Row.ext hrn hC
            refine ⟨true, false, congrArg some h6, fun hact => ?_, fun hact => ?_⟩
            · exact Runs.does (r_move rfl) ⟨Below.refl _ _, rfl, nofr rfl⟩
            · exfalso; simp at hact
          refine ⟨fun wu15 hC hd => ?_, ?_⟩
          · obtain ⟨h6, _⟩ := hd
            skip
            replace h6 : V 6 = (.bool false) := h6
            replace hb := hb.trans (hC.mono hb.size)
            replace hrn := Row.ext hrn hC
            refine ⟨true, false, congrArg some h6, fun hact => ?_, fun hact => ?_⟩
            · exact Runs.does (r_move rfl) ⟨Below.refl _ _, rfl, nofr rfl⟩
            · exfalso; simp at hact
          refine ⟨fun wu16 hC hd => ?_, ?_⟩
          · obtain ⟨h6, _⟩ := hd
            skip
            replace h6 : V 6 = (.bool false) := h6
            replace hb := hb.trans (hC.mono hb.size)
            replace hrn := Row.ext hrn hC
            refine ⟨true, false, congrArg some h6, fun hact => ?_, fun hact => ?_⟩
            · exact Runs.does (r_move rfl) ⟨Below.refl _ _, rfl, nofr rfl⟩
            · exfalso; simp at hact
          refine ⟨fun wu17 hC hd => ?_, ?_⟩
          · obtain ⟨h6, h15, h16, _⟩ := hd
            skip
            skip
            skip
            replace h6 : V 6 = (.bool false) := h6
            replace h15 : V 15 = (.slice a l.length c) := h15
            replace h16 : V 16 = (.int .i64 ((k : Nat) : Int)) := h16
            replace hb := hb.trans (hC.mono hb.size)
            replace hrn := Row.ext hrn hC
            refine ⟨true, false, congrArg some h6, fun hact => ?_, fun hact => ?_⟩
            · exact Runs.does (r_ixa (sz := 6) (j := k) (evAt (congrArg some h15) hat1) (congrArg some h16) Try.underlying22 (by kernel_rfl) rfl (by omega) rfl) ⟨Below.refl _ _, rfl, nofr rfl⟩
            · exfalso; simp at hact
          refine ⟨fun wu18 hC hd => ?_, ?_⟩
          · obtain ⟨h6, h17, _⟩ := hd
            skip
            skip
            replace h6 : V 6 = (.bool false) := h6
            replace h17 : V 17 = (.pointer (some ⟨ab1, (aoff1 + k * 6), none⟩)) := h17
            replace hb := hb.trans (hC.mono hb.size)
            replace hrn := Row.ext hrn hC
            refine ⟨true, false, congrArg some h6, fun hact => ?_, fun hact => ?_⟩
            · exact Runs.does (r_fa (congrArg some h17) Try.underlying28 (f := 4) (q := ((aoff1 + k * 6) + 4)) rfl (by kernel_rfl) rfl) ⟨Below.refl _ _, rfl, nofr rfl⟩
            · exfalso; simp at hact
          refine ⟨fun wu19 hC hd => ?_, ?_⟩
          · obtain ⟨h6, h18, _⟩ := hd
            skip
            skip
            replace h6 : V 6 = (.bool false) := h6
            replace h18 : V 18 = (.pointer (some ⟨ab1, ((aoff1 + k * 6) + 4), none⟩)) := h18
            replace hb := hb.trans (hC.mono hb.size)
            replace hrn := Row.ext hrn hC
            refine ⟨true, false, congrArg some h6, fun hact => ?_, fun hact => ?_⟩
            · exact Runs.does (r_load (v := (.int .i64 y.2.2.2.2.1)) (congrArg some h18) Try.underlying3 rfl (cellsAt_cell (cellsAt_below hel1 hb hlb1) (i := 4) rfl rfl)) ⟨Below.refl _ _, rfl, nofr rfl⟩
            · exfalso; simp at hact
          refine ⟨fun wu20 hC hd => ?_, ?_⟩
          · obtain ⟨h6, h13, h14, h19, _⟩ := hd
            skip
            skip
            skip
            skip
            replace h6 : V 6 = (.bool false) := h6
            obtain ⟨ea3, ec3, h13, hr3⟩ := h13
            rw [h13] at hr3
            replace h14 : V 14 = (.slice va R2.length vc) := h14
            replace h19 : V 19 = (.int .i64 y.2.2.2.2.1) := h19
            replace hb := hb.trans (hC.mono hb.size)
            replace hrn := Row.ext hrn hC
            refine ⟨true, false, congrArg some h6, fun hact => ?_, fun hact => ?_⟩
            · refine Does.mono (d_callX (vs := [(.slice va R2.length vc), (.int .i64 y.2.2.2.2.1), (.bool false)]) (show [some (V 14), some (V 19), some (.bool false)] = [some (.slice va R2.length vc), some (.int .i64 y.2.2.2.2.1), some (.bool false)] from by rw [h14, h19]) Try.func41 (by kernel_rfl) (by kernel_rfl) (which_false va R2 vc _ (Row.rd (by intros; rfl) hrn) hR60 (Row.caps hrn).2 (fun h => Row.nocap hrn h) y.2.2.2.2.1)) ?_
              rintro _ w' ⟨hF2, hF3⟩
              obtain ⟨ra, rc, rfl, _, _⟩ := Row.slice hF2
              exact ⟨hF3, ⟨ra, rc, rfl, hF2.rebase hC.size⟩, nofr rfl⟩
            · exfalso; simp at hact
          refine ⟨fun wu21 hC hd => ?_, ?_⟩
          · obtain ⟨h6, h13, h20, _⟩ := hd
            skip
            skip
            skip
            replace h6 : V 6 = (.bool false) := h6
            obtain ⟨ea3, ec3, h13, hr3⟩ := h13
            rw [h13] at hr3
            obtain ⟨ea4, ec4, h20, hr4⟩ := h20
            rw [h20] at hr4
            replace hb := hb.trans (hC.mono hb.size)
            replace hrn := Row.ext hrn hC
            refine ⟨true, false, congrArg some h6, fun hact => ?_, fun hact => ?_⟩
            · refine Does.mono (d_callB (vs := [(.slice ea3 (((rwF R2 y.2.2.2.2.1 false R2.length)).length) ec3), (.slice ea4 (((rwF R2 y.2.2.2.2.1 false R2.length)).length) ec4)]) (show [some (V 13), some (V 20)] = [some (.slice ea3 (((rwF R2 y.2.2.2.2.1 false R2.length)).length) ec3), some (.slice ea4 (((rwF R2 y.2.2.2.2.1 false R2.length)).length) ec4)] from by rw [h13, h20]) Try.func39 (by kernel_rfl) (by kernel_rfl) (same_any _ _ (rwF R2 y.2.2.2.2.1 false R2.length) _ _ _ (Row.rd (by intros; rfl) hr3) (Row.rd (by intros; rfl) hr4) (by have : (rwF R2 y.2.2.2.2.1 false R2.length).length ≤ R2.length := rwF_len _ _ _ _; omega))) (fun _ _ h => ⟨h.2, h.1, nofr rfl⟩)
            · exfalso; simp at hact
          refine ⟨fun wu22 hC hd => ?_, ?_⟩
          · obtain ⟨h6, h21, _⟩ := hd
            skip
            skip
            replace h6 : V 6 = (.bool false) := h6
            replace h21 : V 21 = (.bool true) := h21
            replace hb := hb.trans (hC.mono hb.size)
            replace hrn := Row.ext hrn hC
            refine ⟨true, false, congrArg some h6, fun hact => ?_, fun hact => ?_⟩
            · exact Runs.does (Runs.veq (v' := (.bool false)) (r_not (congrArg some h21)) rfl) ⟨Below.refl _ _, rfl, nofr rfl⟩
            · exfalso; simp at hact
          refine ⟨fun wu23 hC hd => ?_, ?_⟩
          · obtain ⟨h6, h22, _⟩ := hd
            skip
            skip
            replace h6 : V 6 = (.bool false) := h6
            replace h22 : V 22 = (.bool false) := h22
            replace hb := hb.trans (hC.mono hb.size)
            replace hrn := Row.ext hrn hC
            exact Runs.does (r_pick (b := false) (congrArg some h6) rfl (congrArg some h22) rfl) ⟨Below.refl _ _, rfl, nofr rfl⟩
          trivial
        · skip
          clear hf fa; intro V w8 fa he6 hp hnb hf
          have hv0 : V 0 = (.pointer (some ⟨pf, 0, none⟩)) := postsHold_at hp 0 rfl
          have hv1 := postsHold_at hp 1 rfl
          obtain ⟨ea1, ec1, hv1, hr1⟩ := hv1
          rw [hv1] at hr1
          have hv2 : V 2 = (.slice va R2.length vc) := postsHold_at hp 2 rfl
          have hv3 := postsHold_at hp 3 rfl
          obtain ⟨ea2, ec2, hv3, hr2⟩ := hv3
          rw [hv3] at hr2
          have hv4 : V 4 = (.bool true) := postsHold_at hp 4 rfl
          have hv5 : V 5 = (.bool false) := postsHold_at hp 5 rfl
          have hv6 : V 6 = (.bool false) := postsHold_at hp 6 rfl
          have hv7 : V 7 = (.pointer (some ⟨pf, 0, none⟩)) := postsHold_at hp 7 rfl
          have hv8 : V 8 = (.slice a l.length c) := postsHold_at hp 8 rfl
          have hv9 : V 9 = (.int .i64 ((k : Nat) : Int)) := postsHold_at hp 9 rfl
          have hv10 : V 10 = (.pointer (some ⟨ab1, (aoff1 + k * 6), none⟩)) := postsHold_at hp 10 rfl
          have hv11 : V 11 = (.pointer (some ⟨ab1, ((aoff1 + k * 6) + 4), none⟩)) := postsHold_at hp 11 rfl
          have hv12 : V 12 = (.int .i64 y.2.2.2.2.1) := postsHold_at hp 12 rfl
          have hv13 := postsHold_at hp 13 rfl
          obtain ⟨ea3, ec3, hv13, hr3⟩ := hv13
          rw [hv13] at hr3
          have hv14 : V 14 = (.slice va R2.length vc) := postsHold_at hp 14 rfl
          have hv15 : V 15 = (.slice a l.length c) := postsHold_at hp 15 rfl
          have hv16 : V 16 = (.int .i64 ((k : Nat) : Int)) := postsHold_at hp 16 rfl
          have hv17 : V 17 = (.pointer (some ⟨ab1, (aoff1 + k * 6), none⟩)) := postsHold_at hp 17 rfl
          have hv18 : V 18 = (.pointer (some ⟨ab1, ((aoff1 + k * 6) + 4), none⟩)) := postsHold_at hp 18 rfl
          have hv19 : V 19 = (.int .i64 y.2.2.2.2.1) := postsHold_at hp 19 rfl
          have hv20 := postsHold_at hp 20 rfl
          obtain ⟨ea4, ec4, hv20, hr4⟩ := hv20
          rw [hv20] at hr4
          have hv21 : V 21 = (.bool true) := postsHold_at hp 21 rfl
          have hv22 : V 22 = (.bool false) := postsHold_at hp 22 rfl
          have hv23 : V 23 = (.bool false) := postsHold_at hp 23 rfl
          simp only [List.take_succ_cons, List.take_zero, insAll, ins, hv0, hv1, hv2, hv3, hv4, hv5, hv6, hv7, hv8, hv9, hv10, hv11, hv12, hv13, hv14, hv15, hv16, hv17, hv18, hv19, hv20, hv21, hv22, hv23] at hf
          clear hp hnb hv0 hv1 hv2 hv3 hv4 hv5 hv6 hv7 hv8 hv9 hv10 hv11 hv12 hv13 hv14 hv15 hv16 hv17 hv18 hv19 hv20 hv21 hv22 hv23
          replace hrn := Row.ext hrn he6
          replace hb := hb.trans (Below.mono he6 hb.size)
          replace hSt := hSt.ext he6
          (try simp only [Exit.then, Exit.inBlock, ↓reduceIte, Nat.reduceEqDiff])
          refine hK18 _ _ ?_
          refine wp_cond_false (hf.ev rfl) ?_
          refine wp_skip ?_
          (try simp only [Exit.then, Exit.inBlock, ↓reduceIte, Nat.reduceEqDiff])
          refine hK13 _ _ ?_
          refine wp_region_lit ?_
          refine sqv hf (r_move rfl) rfl rfl rfl ?_; clear hf fa; intro fa hf
          refine sqv hf (r_add (C := (((k : Nat) : Int) + (1 : Int))) rfl rfl (by rw [IntKind.wrap_i64]; omega)) rfl rfl rfl ?_; clear hf fa; intro fa hf
          refine sqv hf (r_assign rfl) rfl rfl rfl ?_; clear hf fa; intro fa hf
          apply wpList_nil
          (try simp only [Exit.then, Exit.inBlock, ↓reduceIte, Nat.reduceEqDiff])
          refine hKL1 _ _ _ (by omega) ⟨(k + 1), R2, va, vc, rfl, hf.sub ⟨rfl, rfl, (some_int (by first | rfl | omega)), rfl, trivial⟩, hb, (Row.relen hrn), by omega, by omega, hSt⟩
      · have hqt17_1b := hqt17_1
        replace hqt17_1 := Bool.eq_false_iff.1 hqt17_1
        try simp only [ne_eq, decide_eq_true_eq, Bool.and_eq_true, Bool.or_eq_true, Bool.not_eq_true', decide_eq_false_iff_not] at hqt17_1
        refine wp_exit ?_
        (try simp only [Exit.then, Exit.inBlock, ↓reduceIte, Nat.reduceEqDiff])
        refine hK9 _ _ ?_
        refine wp_seq_k (fun K19 hK19 => ?_)
        refine wp_region_lit ?_
        refine sqv hf (r_assign rfl) rfl rfl rfl ?_; clear hf fa; intro fa hf
        apply wpList_nil
        (try simp only [Exit.then, Exit.inBlock, ↓reduceIte, Nat.reduceEqDiff])
        refine hK19 _ _ ?_
        refine wp_ret ?_
        (try simp only [Exit.then, Exit.inBlock])
        refine ret1 hf rfl rfl ?_
        exact ⟨rfl, hb⟩
end Go.Proofs.Ytmcmickgllffoaa
