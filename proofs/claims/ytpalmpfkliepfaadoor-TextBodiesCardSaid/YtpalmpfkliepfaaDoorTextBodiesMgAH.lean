/- What is proved here: the law TextBodies is true. What is proved here: the statement TextBodies, for every input. -/
import Derived.Test.YtpalmpfkliepfaaDoorTextBodiesMgAG
import Derived.Test.YtpalmpfkliepfaaDoorRows
import Derived.Test.YtpalmpfkliepfaaDoorCards
import Derived.Test.YtpalmpfkliepfaaDoorTie
import Derived.Test.YtpalmpfkliepfaaDoorTextBodiesMgAA
import Derived.ProofKit
import Derived.OpenShut
import Derived.ShutString
import Derived.ChangeOld
import Derived.Below
import Derived.LaidMore
import Derived.Lay
import Derived.SevenTiedAt
import Derived.Stop.Joined
namespace Go.Proofs.YtpalmpfkliepfaaDoor
open Go.RowKit Ut
set_option linter.unusedVariables false
set_option linter.unusedSimpArgs false
attribute [local irreducible] infP ofP chkP rchkP

theorem rshape_c (l : List MIn) (a : Option Addr) (c : Nat) (w : World) (hr : RdS 4 vMIn w a l) (hlc : l.length ≤ c) (hlm : l.length ≤ 100000) : Calls Tryd.prog 14 #[.slice a l.length c] w fun e w' => e = .returned (.int .i64 (Fl.shapeP (Fl.opl l))) ∧ Below w.heap.size w w' := by
  have h := Fl.rshape_any l a c w hr hlc hlm
  rw [Fl.rshape_eq] at h
  exact h
theorem readbody_at {M : List ByteArray} {n e0 : Int} (hp : rbP M = (n, e0)) (a : Option Addr) (c : Nat) (w : World) (hl : RdS 1 vStr w a M) (hc : M.length ≤ c) (hm : M.length ≤ 60) (hsz : ∀ y ∈ M, y.size ≤ 5000) : Calls Tryd.prog 17 #[.slice a M.length c] w fun e w' => ∃ v, e = .returned v ∧ ∃ (X : List MIn) (aX : Option Addr) (cX : Nat), v = (.tuple #[.slice aX X.length cX, .int .i64 n, .int .i64 e0]) ∧ Row 4 vMIn 25 w.heap.size w' (.slice aX X.length cX) X ∧ IRel w.heap.size w' X ∧ (e0 = 0 → X.map keyI = M.map keyS) ∧ Below w.heap.size w w' := by
  have h := readbody_any M a c w hl hc hm hsz
  rw [hp] at h
  exact h

set_option maxHeartbeats 1000000 in
set_option maxRecDepth 100000 in
theorem textBodies_any (l : List MIn) (a : Option Addr) (c at0 : Nat) (w : World) (hl : RdS 4 vMIn w a l) (hlc : l.length ≤ c) (hG : ∀ d ∈ l, InG w d) (hm50 : ∀ d ∈ l, d.2.2.2.1.len ≤ 140737488351232) (hcm : c ≤ maxLen) (hat : at0 < 256) : Calls Tryd.prog 5 #[(.slice a l.length c), (.int .u8 ((at0 : Nat) : Int))] w fun e w' => e = .returned (.bool true) ∧ Below w.heap.size w w' := by
  refine sx_enter (L := [(0, (.slice a l.length c)), (1, (.int .u8 ((at0 : Nat) : Int)))]) Tryd.func5 rfl rfl rfl rfl (fun fa hf => ?_)
  have hb : Below w.heap.size w w := Below.refl _ _
  refine wp_seq_k (fun K1 hK1 => ?_)
  refine wp_region_lit ?_
  refine sqv hf (r_assign rfl) rfl rfl rfl ?_; clear hf fa; intro fa hf
  apply wpList_nil
  (try simp only [Exit.then, Exit.inBlock, ↓reduceIte, Nat.reduceEqDiff])
  refine hK1 _ _ ?_
  refine wp_seq_k (fun K2 hK2 => ?_)
  refine wp_seq_k (fun K3 hK3 => ?_)
  refine wp_region_lit ?_
  refine sqdt hf (d_callB (vs := []) rfl Tryd.func6 (by kernel_rfl) (by kernel_rfl) (awake46_any _)) rfl rfl rfl ?_; clear hf fa; rintro fa _ w1 ⟨rfl, he1⟩ hf
  replace hb := hb.trans (Below.mono he1 hb.size)
  refine sqv hf (Runs.veq (v' := (.bool false)) (r_not rfl) rfl) rfl rfl rfl ?_; clear hf fa; intro fa hf
  apply wpList_nil
  (try simp only [Exit.then, Exit.inBlock, ↓reduceIte, Nat.reduceEqDiff])
  refine hK3 _ _ ?_
  refine wp_cond_false (hf.ev rfl) ?_
  refine wp_skip ?_
  (try simp only [Exit.then, Exit.inBlock, ↓reduceIte, Nat.reduceEqDiff])
  refine hK2 _ _ ?_
  refine wp_seq_k (fun K4 hK4 => ?_)
  refine wp_seq_k (fun K5 hK5 => ?_)
  by_cases hsp1 : 60 < l.length
  · have hsp1b : decide (60 < l.length) = true := decide_eq_true hsp1
    refine wp_region_lit ?_
    refine sqv hf (r_move rfl) rfl rfl rfl ?_; clear hf fa; intro fa hf
    refine sqv hf (r_lensl rfl Tryd.underlying37) rfl rfl rfl ?_; clear hf fa; intro fa hf
    refine sqv hf (Runs.veq (r_gt rfl rfl) (congrArg Value.bool (show _ = true from (decide_eq_true (by have h := hsp1; omega))))) rfl rfl rfl ?_; clear hf fa; intro fa hf
    refine sqv hf (r_move rfl) rfl rfl rfl ?_; clear hf fa; intro fa hf
    refine sqgF (act := false) (ag := true) (c := true) (v := .bool false) hf rfl rfl rfl (fun hact => by cases hact) rfl rfl ?_; clear hf fa; intro fa hf
    refine sqgF (act := false) (ag := true) (c := true) (v := .bool false) hf rfl rfl rfl (fun hact => by cases hact) rfl rfl ?_; clear hf fa; intro fa hf
    refine sqgF (act := false) (ag := true) (c := true) (v := .bool false) hf rfl rfl rfl (fun hact => by cases hact) rfl rfl ?_; clear hf fa; intro fa hf
    refine sqv hf (r_pick (b := true) rfl rfl rfl rfl) rfl rfl rfl ?_; clear hf fa; intro fa hf
    apply wpList_nil
    (try simp only [Exit.then, Exit.inBlock, ↓reduceIte, Nat.reduceEqDiff])
    refine hK5 _ _ ?_
    refine wp_cond_true (hf.ev rfl) ?_
    refine wp_seq_k (fun K6 hK6 => ?_)
    refine wp_region_lit ?_
    refine sqv hf (r_assign rfl) rfl rfl rfl ?_; clear hf fa; intro fa hf
    apply wpList_nil
    (try simp only [Exit.then, Exit.inBlock, ↓reduceIte, Nat.reduceEqDiff])
    refine hK6 _ _ ?_
    refine wp_ret ?_
    (try simp only [Exit.then, Exit.inBlock])
    refine ret1 hf rfl rfl ?_
    exact ⟨rfl, hb⟩
  · have hsp1b : decide (60 < l.length) = false := decide_eq_false hsp1
    refine wp_region_lit ?_
    refine sqv hf (r_move rfl) rfl rfl rfl ?_; clear hf fa; intro fa hf
    refine sqv hf (r_lensl rfl Tryd.underlying37) rfl rfl rfl ?_; clear hf fa; intro fa hf
    refine sqv hf (Runs.veq (r_gt rfl rfl) (congrArg Value.bool (show _ = false from (decide_eq_false (by have h := hsp1; omega))))) rfl rfl rfl ?_; clear hf fa; intro fa hf
    refine sqv hf (r_move rfl) rfl rfl rfl ?_; clear hf fa; intro fa hf
    refine sqgd (act := true) (g := 3) (want := false) (ag := true) (c := false) hf (by rfl) (by rfl) rfl (fun _ =>  Runs.does (R := fun vq wq => vq = (.slice a l.length c) ∧ w1 = wq) (r_move rfl) ⟨rfl, rfl⟩) (fun h => by cases h) rfl ?_; clear hf fa; rintro fa _ _ ⟨rfl, rfl⟩ hf
    change Fr _ _ ((29, (.slice a l.length c)) :: _) at hf
    refine sqgd (act := true) (g := 3) (want := false) (ag := true) (c := false) hf (by rfl) (by rfl) rfl (fun _ =>  Runs.does (R := fun vq wq => vq = (.agg #[(.slice none 0 0), (.slice a l.length c)]) ∧ w1 = wq) (r_build (vs := [(1, (.slice a l.length c))]) (cs := #[(.slice none 0 0), (.slice a l.length c)]) rfl (fun _ => by kernel_rfl)) ⟨rfl, rfl⟩) (fun h => by cases h) rfl ?_; clear hf fa; rintro fa _ _ ⟨rfl, rfl⟩ hf
    change Fr _ _ ((30, (.agg #[(.slice none 0 0), (.slice a l.length c)])) :: _) at hf
    refine sqgd (act := true) (g := 3) (want := false) (ag := true) (c := false) hf (by rfl) (by rfl) rfl (fun _ =>  (d_callB (vs := [(.agg #[(.slice none 0 0), (.slice a l.length c)])]) rfl Tryd.func13 (by kernel_rfl) (by kernel_rfl) (much_any l a c _ (RdS.ext hl hb) hlc (by omega) hm50)) ) (fun h => by cases h) rfl ?_; clear hf fa; rintro fa _ w2 ⟨rfl, he2⟩ hf
    replace hb := hb.trans (Below.mono he2 hb.size)
    change Fr _ _ ((31, (.bool (muchP l))) :: _) at hf
    refine sqv hf (r_pick (b := false) rfl rfl rfl rfl) rfl rfl rfl ?_; clear hf fa; intro fa hf
    apply wpList_nil
    (try simp only [Exit.then, Exit.inBlock, ↓reduceIte, Nat.reduceEqDiff])
    refine hK5 _ _ ?_
    refine wp_cond_split (t := (muchP l)) (hf.ev rfl) (fun hqt32_2 => ?_) (fun hqt32_2 => ?_)
    · have hqt32_2b := hqt32_2
      try simp only [decide_eq_true_eq, Bool.and_eq_true, Bool.or_eq_true, Bool.not_eq_true', decide_eq_false_iff_not, ne_eq, Bool.not_eq_true] at hqt32_2
      refine wp_seq_k (fun K7 hK7 => ?_)
      refine wp_region_lit ?_
      refine sqv hf (r_assign rfl) rfl rfl rfl ?_; clear hf fa; intro fa hf
      apply wpList_nil
      (try simp only [Exit.then, Exit.inBlock, ↓reduceIte, Nat.reduceEqDiff])
      refine hK7 _ _ ?_
      refine wp_ret ?_
      (try simp only [Exit.then, Exit.inBlock])
      refine ret1 hf rfl rfl ?_
      exact ⟨rfl, hb⟩
    · have hqt32_2b := hqt32_2
      replace hqt32_2 := Bool.eq_false_iff.1 hqt32_2
      try simp only [ne_eq, decide_eq_true_eq, Bool.and_eq_true, Bool.or_eq_true, Bool.not_eq_true', decide_eq_false_iff_not] at hqt32_2
      refine wp_skip ?_
      (try simp only [Exit.then, Exit.inBlock, ↓reduceIte, Nat.reduceEqDiff])
      refine hK4 _ _ ?_
      refine wp_seq_k (fun K8 hK8 => ?_)
      have hn := muchP_no (l := l) (by have h := hqt32_2; simpa using h)
      have hl60 : l.length ≤ 60 := by have h := hsp1; omega
      refine wp_region_lit ?_
      refine sqv hf (r_move rfl) rfl rfl rfl ?_; clear hf fa; intro fa hf
      refine sqdt hf (d_callB (vs := [(.slice a l.length c)]) rfl Tryd.func14 (by kernel_rfl) (by kernel_rfl) (rshape_c l a c _ (RdS.ext hl hb) hlc (by omega))) rfl rfl rfl ?_; clear hf fa; rintro fa _ w3 ⟨rfl, he3⟩ hf
      replace hb := hb.trans (Below.mono he3 hb.size)
      refine sqv hf (r_assign rfl) rfl rfl rfl ?_; clear hf fa; intro fa hf
      apply wpList_nil
      (try simp only [Exit.then, Exit.inBlock, ↓reduceIte, Nat.reduceEqDiff])
      refine hK8 _ _ ?_
      refine wp_seq_k (fun K9 hK9 => ?_)
      refine wp_seq_k (fun K10 hK10 => ?_)
      refine wp_region_lit ?_
      refine sqv hf (r_assign rfl) rfl rfl rfl ?_; clear hf fa; intro fa hf
      apply wpList_nil
      (try simp only [Exit.then, Exit.inBlock, ↓reduceIte, Nat.reduceEqDiff])
      refine hK10 _ _ ?_
      refine wp_block ?_
      refine wp_loop_k (fun mq fa wr => ∃ (k : Nat) (c0 : Int), mq = l.length - k ∧ Fr 165 fa [(0, (.slice a l.length c)), (1, (.int .u8 ((at0 : Nat) : Int))), (4, (.bool false)), (5, (.int .i64 c0)), (6, (.int .i64 ((k : Nat) : Int)))] ∧ Below w.heap.size w wr ∧ (k ≤ l.length) ∧ (boE l = if c0 = 0 then firstR (l.drop k) else c0)) ?_ ?_
      · skip
        exact ⟨_, 0, (Fl.shapeP (Fl.opl l)), rfl, hf.sub ⟨rfl, rfl, rfl, (some_int (by first | rfl | omega)), (some_int (by first | rfl | omega)), trivial⟩, hb, by omega, (code_start l)⟩
      · skip
        clear hf fa; intro mq1 fa w4 hI KL1 hKL1
        clear hb
        obtain ⟨k, c0, hmq1, hf, hb, hk, Hs⟩ := hI
        refine wp_seq_k (fun K11 hK11 => ?_)
        refine wp_seq_k (fun K12 hK12 => ?_)
        refine wp_region_lit ?_
        refine sqv hf (r_move rfl) rfl rfl rfl ?_; clear hf fa; intro fa hf
        refine sqv hf (r_move rfl) rfl rfl rfl ?_; clear hf fa; intro fa hf
        refine sqv hf (r_lensl rfl Tryd.underlying37) rfl rfl rfl ?_; clear hf fa; intro fa hf
        refine sqv hf (r_lt rfl rfl) rfl rfl rfl ?_; clear hf fa; intro fa hf
        refine sqv hf (r_move rfl) rfl rfl rfl ?_; clear hf fa; intro fa hf
        refine sqgT (act := (decide (((k : Nat) : Int) < ((l.length : Nat) : Int)))) (ag := true) (c := (decide (((k : Nat) : Int) < ((l.length : Nat) : Int)))) (v := (.int .i64 c0)) hf rfl rfl rfl (fun hact => (r_move rfl)) rfl rfl ?_; clear hf fa; intro fa hf
        refine sqgT (act := (decide (((k : Nat) : Int) < ((l.length : Nat) : Int)))) (ag := true) (c := (decide (((k : Nat) : Int) < ((l.length : Nat) : Int)))) (v := (.bool (decide (c0 = (0 : Int))))) hf rfl rfl rfl (fun hact => (r_eq (gb_ev hact rfl) rfl)) rfl rfl ?_; clear hf fa; intro fa hf
        refine sqv hf (r_pickA (b := (decide (((k : Nat) : Int) < ((l.length : Nat) : Int)))) (e := (decide (c0 = (0 : Int)))) rfl rfl rfl) rfl rfl rfl ?_; clear hf fa; intro fa hf
        apply wpList_nil
        (try simp only [Exit.then, Exit.inBlock, ↓reduceIte, Nat.reduceEqDiff])
        refine hK12 _ _ ?_
        refine wp_cond_split (t := ((decide (((k : Nat) : Int) < ((l.length : Nat) : Int))) && (decide (c0 = (0 : Int))))) (hf.ev rfl) (fun hqt42_1 => ?_) (fun hqt42_1 => ?_)
        · have hqt42_1b := hqt42_1
          try simp only [decide_eq_true_eq, Bool.and_eq_true, Bool.or_eq_true, Bool.not_eq_true', decide_eq_false_iff_not, ne_eq, Bool.not_eq_true] at hqt42_1
          refine wp_skip ?_
          (try simp only [Exit.then, Exit.inBlock, ↓reduceIte, Nat.reduceEqDiff])
          refine hK11 _ _ ?_
          refine wp_seq_k (fun K13 hK13 => ?_)
          refine wp_block ?_
          obtain ⟨d, hd⟩ : ∃ d, l[k]? = some d := ⟨_, List.getElem?_eq_getElem (by omega)⟩
          have hdm := List.mem_of_getElem? hd
          have hdn := hn d hdm
          refine wp_region_lit ?_
          refine sqv hf (r_move rfl) rfl rfl rfl ?_; clear hf fa; intro fa hf
          refine sqv hf (r_move rfl) rfl rfl rfl ?_; clear hf fa; intro fa hf
          have hy1 : (l)[k]? = some d := hd
          obtain ⟨ab1, aoff1, hat1, hlb1, hel1⟩ := RdS.at hl hy1
          refine sqv hf (r_ixa (sz := 4) (j := k) (evAt rfl hat1) rfl Tryd.underlying37 (by kernel_rfl) rfl (by omega) rfl) rfl rfl rfl ?_; clear hf fa; intro fa hf
          refine sqv hf (r_loadA (cs := [(.int .u8 d.1), (.int .u64 d.2.1), (.int .u64 d.2.2.1), (.slice d.2.2.2.1.at' d.2.2.2.1.len d.2.2.2.1.cap)]) rfl Tryd.underlying25 rfl (by kernel_rfl) (cellsAt_below hel1 hb hlb1)) rfl rfl rfl ?_; clear hf fa; intro fa hf
          refine sqdt hf (d_callB (vs := [(.agg #[(.int .u8 d.1), (.int .u64 d.2.1), (.int .u64 d.2.2.1), (.slice d.2.2.2.1.at' d.2.2.2.1.len d.2.2.2.1.cap)])]) rfl Tryd.func10 (by kernel_rfl) (by kernel_rfl) (rrightI d _ ((hG d hdm).ext hb) (by omega))) rfl rfl rfl ?_; clear hf fa; rintro fa _ w5 ⟨rfl, he4⟩ hf
          replace hb := hb.trans (Below.mono he4 hb.size)
          refine sqv hf (r_assign rfl) rfl rfl rfl ?_; clear hf fa; intro fa hf
          apply wpList_nil
          (try simp only [Exit.then, Exit.inBlock, ↓reduceIte, Nat.reduceEqDiff])
          refine hK13 _ _ ?_
          refine wp_region_lit ?_
          refine sqv hf (r_move rfl) rfl rfl rfl ?_; clear hf fa; intro fa hf
          refine sqv hf (r_add (C := (((k : Nat) : Int) + (1 : Int))) rfl rfl (by rw [IntKind.wrap_i64]; omega)) rfl rfl rfl ?_; clear hf fa; intro fa hf
          refine sqv hf (r_assign rfl) rfl rfl rfl ?_; clear hf fa; intro fa hf
          apply wpList_nil
          (try simp only [Exit.then, Exit.inBlock, ↓reduceIte, Nat.reduceEqDiff])
          refine hKL1 _ _ _ (by omega) ⟨(k + 1), (rightI d), rfl, hf.sub ⟨rfl, rfl, rfl, (some_int (by first | rfl | omega)), (some_int (by first | rfl | omega)), trivial⟩, hb, by omega, (code_step hd (by rw [Hs, if_pos hqt42_1.2]))⟩
        · have hqt42_1b := hqt42_1
          replace hqt42_1 := Bool.eq_false_iff.1 hqt42_1
          try simp only [ne_eq, decide_eq_true_eq, Bool.and_eq_true, Bool.or_eq_true, Bool.not_eq_true', decide_eq_false_iff_not] at hqt42_1
          refine wp_exit ?_
          (try simp only [Exit.then, Exit.inBlock, ↓reduceIte, Nat.reduceEqDiff])
          refine hK9 _ _ ?_
          refine wp_seq_k (fun K14 hK14 => ?_)
          have hE : boE l = c0 := by
            by_cases h0 : c0 = 0
            · rw [Hs, if_pos h0, List.drop_eq_nil_of_le (by rcases Nat.lt_or_ge k l.length with h | h; exact absurd ⟨by omega, h0⟩ hqt42_1; exact h), h0]; rfl
            · rw [Hs, if_neg h0]
          refine wp_region_lit ?_
          refine sqv hf (r_move rfl) rfl rfl rfl ?_; clear hf fa; intro fa hf
          refine sqdt hf (d_callX (vs := [(.slice a l.length c)]) rfl Tryd.func15 (by kernel_rfl) (by kernel_rfl) (body_any l a c _ (RdS.ext hl hb) hlc (fun d hd => (hG d hd).ext hb) hn hl60)) rfl rfl rfl ?_; clear hf fa; rintro fa _ w6 ⟨aB, cB, rfl, hr1, he5⟩ hf
          replace hr1 := Row.rebase hr1 hb.size
          replace hb := hb.trans (Below.mono he5 hb.size)
          have hchr1 := Row.caps hr1
          refine sqv hf (r_move rfl) rfl rfl rfl ?_; clear hf fa; intro fa hf
          refine sqv hf (r_extract rfl (i := 0) rfl) rfl rfl rfl ?_; clear hf fa; intro fa hf
          refine sqv hf (r_extract rfl (i := 1) rfl) rfl rfl rfl ?_; clear hf fa; intro fa hf
          refine sqv hf (r_assign rfl) rfl rfl rfl ?_; clear hf fa; intro fa hf
          refine sqv hf (r_assign rfl) rfl rfl rfl ?_; clear hf fa; intro fa hf
          apply wpList_nil
          (try simp only [Exit.then, Exit.inBlock, ↓reduceIte, Nat.reduceEqDiff])
          refine hK14 _ _ ?_
          refine wp_seq_k (fun K15 hK15 => ?_)
          refine wp_seq_k (fun K16 hK16 => ?_)
          refine wp_region_lit ?_
          refine sqv hf (r_move rfl) rfl rfl rfl ?_; clear hf fa; intro fa hf
          refine sqv hf (r_ne rfl rfl) rfl rfl rfl ?_; clear hf fa; intro fa hf
          apply wpList_nil
          (try simp only [Exit.then, Exit.inBlock, ↓reduceIte, Nat.reduceEqDiff])
          refine hK16 _ _ ?_
          refine wp_cond_split (t := (decide (c0 ≠ (0 : Int)))) (hf.ev rfl) (fun hqt56_1 => ?_) (fun hqt56_1 => ?_)
          · have hqt56_1b := hqt56_1
            try simp only [decide_eq_true_eq, Bool.and_eq_true, Bool.or_eq_true, Bool.not_eq_true', decide_eq_false_iff_not, ne_eq, Bool.not_eq_true] at hqt56_1
            refine wp_seq_k (fun K17 hK17 => ?_)
            have hbn : boL l = [] := by unfold boL; rw [if_neg (by rw [hE]; exact hqt56_1)]
            refine wp_region_lit ?_
            refine sqv hf (r_move rfl) rfl rfl rfl ?_; clear hf fa; intro fa hf
            refine sqv hf (r_lensl rfl Tryd.underlying43) rfl rfl rfl ?_; clear hf fa; intro fa hf
            refine sqv hf (Runs.veq (r_eq rfl rfl) (congrArg Value.bool (show _ = true from (by rw [hbn]; rfl)))) rfl rfl rfl ?_; clear hf fa; intro fa hf
            refine sqv hf (r_move rfl) rfl rfl rfl ?_; clear hf fa; intro fa hf
            refine sqgd (act := true) (g := 3) (want := true) (ag := true) (c := true) hf (by rfl) (by rfl) rfl (fun _ =>  Runs.does (R := fun vq wq => vq = (.int .i64 ((boE l))) ∧ w6 = wq) (r_move rfl) ⟨rfl, rfl⟩) (fun h => by cases h) rfl ?_; clear hf fa; rintro fa _ _ ⟨rfl, rfl⟩ hf
            change Fr _ _ ((61, (.int .i64 ((boE l)))) :: _) at hf
            refine sqgd (act := true) (g := 3) (want := true) (ag := true) (c := true) hf (by rfl) (by rfl) rfl (fun _ =>  Runs.does (R := fun vq wq => vq = (.int .i64 c0) ∧ w6 = wq) (r_move rfl) ⟨rfl, rfl⟩) (fun h => by cases h) rfl ?_; clear hf fa; rintro fa _ _ ⟨rfl, rfl⟩ hf
            change Fr _ _ ((62, (.int .i64 c0)) :: _) at hf
            refine sqgd (act := true) (g := 3) (want := true) (ag := true) (c := true) hf (by rfl) (by rfl) rfl (fun _ =>  Runs.does (R := fun vq wq => vq = (.bool true) ∧ w6 = wq) (Runs.veq (r_eq rfl rfl) (congrArg Value.bool (show _ = true from (by rw [hE]; simp)))) ⟨rfl, rfl⟩) (fun h => by cases h) rfl ?_; clear hf fa; rintro fa _ _ ⟨rfl, rfl⟩ hf
            change Fr _ _ ((63, (.bool true)) :: _) at hf
            refine sqv hf (r_pick (b := true) rfl rfl rfl rfl) rfl rfl rfl ?_; clear hf fa; intro fa hf
            refine sqv hf (r_assign rfl) rfl rfl rfl ?_; clear hf fa; intro fa hf
            apply wpList_nil
            (try simp only [Exit.then, Exit.inBlock, ↓reduceIte, Nat.reduceEqDiff])
            refine hK17 _ _ ?_
            refine wp_ret ?_
            (try simp only [Exit.then, Exit.inBlock])
            refine ret1 hf rfl rfl ?_
            exact ⟨rfl, hb⟩
          · have hqt56_1b := hqt56_1
            replace hqt56_1 := Bool.eq_false_iff.1 hqt56_1
            try simp only [ne_eq, decide_eq_true_eq, Bool.and_eq_true, Bool.or_eq_true, Bool.not_eq_true', decide_eq_false_iff_not] at hqt56_1
            refine wp_skip ?_
            (try simp only [Exit.then, Exit.inBlock, ↓reduceIte, Nat.reduceEqDiff])
            refine hK15 _ _ ?_
            refine wp_seq_k (fun K18 hK18 => ?_)
            refine wp_seq_k (fun K19 hK19 => ?_)
            have hz : boE l = 0 := by rw [hE]; have h := hqt56_1; omega
            obtain ⟨hs, hfr, hbo⟩ := boE_zero hz
            have hlp := bo_pos hz
            obtain ⟨kb, hkb⟩ : ∃ kb, kb = at0 % l.length := ⟨_, rfl⟩
            have hkl : kb < l.length := by rw [hkb]; exact Nat.mod_lt _ hlp
            obtain ⟨hp1, hky, hp2, hp3, hbl⟩ := reads_body hG hz kb hkl
            have hsz : ∀ y ∈ boL l, y.size ≤ 5000 := by
              intro y hy
              rw [hbo] at hy
              unfold bodyP at hy
              obtain ⟨k, hk, rfl⟩ := List.mem_map.1 hy
              have hk := List.mem_range.1 hk
              obtain ⟨d, hd⟩ : ∃ d, l[k]? = some d := ⟨_, List.getElem?_eq_getElem hk⟩
              have hdm := List.mem_of_getElem? hd
              have h1 := lineI_len (hG d hdm)
              have h2 := hn d hdm
              have h3 := dep_bd hs hk
              have h4 := rptS_len ((Fl.depthsP (Fl.opl l)).getD k 0)
              rw [Fl.depths_eq (Fl.opl l) hs k (by rw [Fl.opl_length]; exact hk)] at h4
              unfold lnB
              rw [Fl.depths_eq (Fl.opl l) hs k (by rw [Fl.opl_length]; exact hk), List.getD_eq_getElem?_getD, hd]
              show (rptS (Fl.depthP (Fl.opl l) k) ++ lineI d).size ≤ 5000
              rw [ByteArray.size_append]
              omega
            have hsz2 : ∀ y ∈ (boL l).set kb (⟨#[32, 32, 119, 104, 97, 116]⟩ : ByteArray), y.size ≤ 5000 := by
              intro y hy
              rcases List.mem_or_eq_of_mem_set hy with h | h
              · exact hsz y h
              · rw [h]; decide
            have hsz3 : ∀ y ∈ (boL l).take (l.length - 1), y.size ≤ 5000 := fun y hy => hsz y (List.mem_of_mem_take hy)
            refine wp_region_lit ?_
            refine sqv hf (r_move rfl) rfl rfl rfl ?_; clear hf fa; intro fa hf
            refine sqv hf (Runs.veq (r_ne rfl rfl) (congrArg Value.bool (show _ = false from (by rw [hz]; rfl)))) rfl rfl rfl ?_; clear hf fa; intro fa hf
            refine sqv hf (r_move rfl) rfl rfl rfl ?_; clear hf fa; intro fa hf
            refine sqgd (act := true) (g := 2) (want := false) (ag := true) (c := false) hf (by rfl) (by rfl) rfl (fun _ =>  Runs.does (R := fun vq wq => vq = (.slice aB (((boL l).length)) cB) ∧ w6 = wq) (r_move rfl) ⟨rfl, rfl⟩) (fun h => by cases h) rfl ?_; clear hf fa; rintro fa _ _ ⟨rfl, rfl⟩ hf
            change Fr _ _ ((68, (.slice aB (((boL l).length)) cB)) :: _) at hf
            refine sqgd (act := true) (g := 2) (want := false) (ag := true) (c := false) hf (by rfl) (by rfl) rfl (fun _ =>  Runs.does (R := fun vq wq => vq = (.int .i64 ((((boL l).length) : Nat) : Int)) ∧ w6 = wq) (r_lensl rfl Tryd.underlying43) ⟨rfl, rfl⟩) (fun h => by cases h) rfl ?_; clear hf fa; rintro fa _ _ ⟨rfl, rfl⟩ hf
            change Fr _ _ ((69, (.int .i64 ((((boL l).length) : Nat) : Int))) :: _) at hf
            refine sqgd (act := true) (g := 2) (want := false) (ag := true) (c := false) hf (by rfl) (by rfl) rfl (fun _ =>  Runs.does (R := fun vq wq => vq = (.slice a l.length c) ∧ w6 = wq) (r_move rfl) ⟨rfl, rfl⟩) (fun h => by cases h) rfl ?_; clear hf fa; rintro fa _ _ ⟨rfl, rfl⟩ hf
            change Fr _ _ ((70, (.slice a l.length c)) :: _) at hf
            refine sqgd (act := true) (g := 2) (want := false) (ag := true) (c := false) hf (by rfl) (by rfl) rfl (fun _ =>  Runs.does (R := fun vq wq => vq = (.int .i64 ((l.length : Nat) : Int)) ∧ w6 = wq) (r_lensl rfl Tryd.underlying37) ⟨rfl, rfl⟩) (fun h => by cases h) rfl ?_; clear hf fa; rintro fa _ _ ⟨rfl, rfl⟩ hf
            change Fr _ _ ((71, (.int .i64 ((l.length : Nat) : Int))) :: _) at hf
            refine sqgd (act := true) (g := 2) (want := false) (ag := true) (c := false) hf (by rfl) (by rfl) rfl (fun _ =>  Runs.does (R := fun vq wq => vq = (.bool false) ∧ w6 = wq) (Runs.veq (r_ne rfl rfl) (congrArg Value.bool (show _ = false from (by rw [hbl]; simp)))) ⟨rfl, rfl⟩) (fun h => by cases h) rfl ?_; clear hf fa; rintro fa _ _ ⟨rfl, rfl⟩ hf
            change Fr _ _ ((72, (.bool false)) :: _) at hf
            refine sqv hf (r_pick (b := false) rfl rfl rfl rfl) rfl rfl rfl ?_; clear hf fa; intro fa hf
            apply wpList_nil
            (try simp only [Exit.then, Exit.inBlock, ↓reduceIte, Nat.reduceEqDiff])
            refine hK19 _ _ ?_
            refine wp_cond_false (hf.ev rfl) ?_
            refine wp_skip ?_
            (try simp only [Exit.then, Exit.inBlock, ↓reduceIte, Nat.reduceEqDiff])
            refine hK18 _ _ ?_
            refine wp_seq_k (fun K20 hK20 => ?_)
            refine wp_seq_k (fun K21 hK21 => ?_)
            refine wp_region_lit ?_
            obtain ⟨rb1, rfl, hbbrb1, hlbrb1⟩ := Row.some hr1 (by omega)
            refine sqv hf (r_assign rfl) rfl rfl rfl ?_; clear hf fa; intro fa hf
            apply wpList_nil
            (try simp only [Exit.then, Exit.inBlock, ↓reduceIte, Nat.reduceEqDiff])
            refine hK21 _ _ ?_
            refine wp_block ?_
            refine wp_loop_k (fun mq fa wr => ∃ (k : Nat), mq = l.length - k ∧ Fr 165 fa [(0, (.slice a l.length c)), (1, (.int .u8 ((at0 : Nat) : Int))), (4, (.bool false)), (7, (.slice (some ⟨rb1, 0, none⟩) (((boL l).length)) cB)), (9, (.int .i64 ((k : Nat) : Int)))] ∧ Below w.heap.size w wr ∧ Row 1 vStr 9 (w.heap.size) wr (.slice (some ⟨rb1, 0, none⟩) ((((boL l).length))) cB) (boL l) ∧ (k ≤ l.length)) ?_ ?_
            · skip
              exact ⟨_, 0, rfl, hf.sub ⟨rfl, rfl, rfl, rfl, (some_int (by first | rfl | omega)), trivial⟩, hb, hr1, by omega⟩
            · skip
              clear hf fa; intro mq2 fa w7 hI KL2 hKL2
              clear hb
              clear hr1
              obtain ⟨k, hmq2, hf, hb, haB, hk⟩ := hI
              have hcaB := Row.caps haB
              refine wp_seq_k (fun K22 hK22 => ?_)
              refine wp_seq_k (fun K23 hK23 => ?_)
              refine wp_region_lit ?_
              refine sqv hf (r_move rfl) rfl rfl rfl ?_; clear hf fa; intro fa hf
              refine sqv hf (r_move rfl) rfl rfl rfl ?_; clear hf fa; intro fa hf
              refine sqv hf (r_lensl rfl Tryd.underlying37) rfl rfl rfl ?_; clear hf fa; intro fa hf
              refine sqv hf (r_lt rfl rfl) rfl rfl rfl ?_; clear hf fa; intro fa hf
              apply wpList_nil
              (try simp only [Exit.then, Exit.inBlock, ↓reduceIte, Nat.reduceEqDiff])
              refine hK23 _ _ ?_
              refine wp_cond_split (t := (decide (((k : Nat) : Int) < ((l.length : Nat) : Int)))) (hf.ev rfl) (fun hqt77_1 => ?_) (fun hqt77_1 => ?_)
              · have hqt77_1b := hqt77_1
                try simp only [decide_eq_true_eq, Bool.and_eq_true, Bool.or_eq_true, Bool.not_eq_true', decide_eq_false_iff_not, ne_eq, Bool.not_eq_true] at hqt77_1
                refine wp_skip ?_
                (try simp only [Exit.then, Exit.inBlock, ↓reduceIte, Nat.reduceEqDiff])
                refine hK22 _ _ ?_
                refine wp_seq_k (fun K24 hK24 => ?_)
                refine wp_block ?_
                refine wp_seq_k (fun K25 hK25 => ?_)
                obtain ⟨d, hd⟩ : ∃ d, l[k]? = some d := ⟨_, List.getElem?_eq_getElem (by omega)⟩
                have hdm := List.mem_of_getElem? hd
                have hdn := hn d hdm
                have hdb := dep_bd hs (show k < l.length by omega)
                have hll := lineI_len (hG d hdm)
                refine wp_region_lit ?_
                refine sqv hf (r_move rfl) rfl rfl rfl ?_; clear hf fa; intro fa hf
                refine sqv hf (r_move rfl) rfl rfl rfl ?_; clear hf fa; intro fa hf
                have hy2 : (l)[k]? = some d := hd
                obtain ⟨ab2, aoff2, hat2, hlb2, hel2⟩ := RdS.at hl hy2
                refine sqv hf (r_ixa (sz := 4) (j := k) (evAt rfl hat2) rfl Tryd.underlying37 (by kernel_rfl) rfl (by omega) rfl) rfl rfl rfl ?_; clear hf fa; intro fa hf
                refine sqv hf (r_loadA (cs := [(.int .u8 d.1), (.int .u64 d.2.1), (.int .u64 d.2.2.1), (.slice d.2.2.2.1.at' d.2.2.2.1.len d.2.2.2.1.cap)]) rfl Tryd.underlying25 rfl (by kernel_rfl) (cellsAt_below hel2 hb hlb2)) rfl rfl rfl ?_; clear hf fa; intro fa hf
                refine sqdt hf (d_callB (vs := [(.agg #[(.int .u8 d.1), (.int .u64 d.2.1), (.int .u64 d.2.2.1), (.slice d.2.2.2.1.at' d.2.2.2.1.len d.2.2.2.1.cap)])]) rfl Tryd.func8 (by kernel_rfl) (by kernel_rfl) (rlineI_any d _ ((hG d hdm).ext hb) (by omega))) rfl rfl rfl ?_; clear hf fa; rintro fa _ w8 ⟨rfl, he6⟩ hf
                replace haB := Row.ext haB he6
                replace hb := hb.trans (Below.mono he6 hb.size)
                refine sqv hf (r_assign rfl) rfl rfl rfl ?_; clear hf fa; intro fa hf
                apply wpList_nil
                (try simp only [Exit.then, Exit.inBlock, ↓reduceIte, Nat.reduceEqDiff])
                refine hK25 _ _ ?_
                refine wp_seq_k (fun K26 hK26 => ?_)
                refine wp_seq_k (fun K27 hK27 => ?_)
                refine wp_region_lit ?_
                refine sqv hf (r_move rfl) rfl rfl rfl ?_; clear hf fa; intro fa hf
                refine sqv hf (r_move rfl) rfl rfl rfl ?_; clear hf fa; intro fa hf
                refine sqdt hf (d_callB (vs := [(.slice a l.length c), (.int .i64 ((k : Nat) : Int))]) rfl Tryd.func16 (by kernel_rfl) (by kernel_rfl) (Fl.depth_any l a c k _ (RdS.ext hl hb) hlc (by omega) (by omega))) rfl rfl rfl ?_; clear hf fa; rintro fa _ w9 ⟨rfl, he7⟩ hf
                replace haB := Row.ext haB he7
                replace hb := hb.trans (Below.mono he7 hb.size)
                refine sqv hf (r_assign rfl) rfl rfl rfl ?_; clear hf fa; intro fa hf
                apply wpList_nil
                (try simp only [Exit.then, Exit.inBlock, ↓reduceIte, Nat.reduceEqDiff])
                refine hK27 _ _ ?_
                refine wp_block ?_
                refine wp_loop_k (fun mq fa wr => ∃ (jj : Nat), mq = 60 - jj ∧ Fr 165 fa [(0, (.slice a l.length c)), (1, (.int .u8 ((at0 : Nat) : Int))), (4, (.bool false)), (7, (.slice (some ⟨rb1, 0, none⟩) ((((boL l).length))) cB)), (9, (.int .i64 ((k : Nat) : Int))), (10, (.string (rptS ((jj : Nat) : Int) ++ lineI d))), (11, (.int .i64 (((Fl.depthP (Fl.opl l) k) - ((jj : Nat) : Int)))))] ∧ Below w.heap.size w wr ∧ Row 1 vStr 9 (w.heap.size) wr (.slice (some ⟨rb1, 0, none⟩) (((((boL l).length)))) cB) (boL l) ∧ (jj = 0 ∨ ((jj : Nat) : Int) ≤ (Fl.depthP (Fl.opl l) k))) ?_ ?_
                · skip
                  exact ⟨_, 0, rfl, hf.sub ⟨rfl, rfl, rfl, rfl, rfl, (some_str (by first | exact (rpt_zero _).symm | exact rpt_next _ _ | rfl)), (some_int (by first | rfl | omega)), trivial⟩, hb, haB, .inl rfl⟩
                · skip
                  clear hf fa; intro mq3 fa w10 hI KL3 hKL3
                  clear hb
                  clear haB
                  obtain ⟨jj, hmq3, hf, hb, haB, hj⟩ := hI
                  have hcaB := Row.caps haB
                  have hrs := rptS_len ((jj : Nat) : Int)
                  have hws : (rptS ((jj : Nat) : Int) ++ lineI d).size ≤ 2000 := by rw [ByteArray.size_append]; omega
                  refine wp_seq_k (fun K28 hK28 => ?_)
                  refine wp_seq_k (fun K29 hK29 => ?_)
                  refine wp_region_lit ?_
                  refine sqv hf (r_move rfl) rfl rfl rfl ?_; clear hf fa; intro fa hf
                  refine sqv hf (r_gt rfl rfl) rfl rfl rfl ?_; clear hf fa; intro fa hf
                  apply wpList_nil
                  (try simp only [Exit.then, Exit.inBlock, ↓reduceIte, Nat.reduceEqDiff])
                  refine hK29 _ _ ?_
                  refine wp_cond_split (t := (decide ((0 : Int) < (((Fl.depthP (Fl.opl l) k) - ((jj : Nat) : Int)))))) (hf.ev rfl) (fun hqt89_1 => ?_) (fun hqt89_1 => ?_)
                  · have hqt89_1b := hqt89_1
                    try simp only [decide_eq_true_eq, Bool.and_eq_true, Bool.or_eq_true, Bool.not_eq_true', decide_eq_false_iff_not, ne_eq, Bool.not_eq_true] at hqt89_1
                    refine wp_skip ?_
                    (try simp only [Exit.then, Exit.inBlock, ↓reduceIte, Nat.reduceEqDiff])
                    refine hK28 _ _ ?_
                    refine wp_seq_k (fun K30 hK30 => ?_)
                    refine wp_block ?_
                    refine wp_region_lit ?_
                    refine sqv hf (r_move rfl) rfl rfl rfl ?_; clear hf fa; intro fa hf
                    refine sqv hf (r_sadd rfl rfl (by have : ((⟨#[32, 32]⟩) : ByteArray).size = 2 := rfl; omega)) rfl rfl rfl ?_; clear hf fa; intro fa hf
                    refine sqv hf (r_assign rfl) rfl rfl rfl ?_; clear hf fa; intro fa hf
                    apply wpList_nil
                    (try simp only [Exit.then, Exit.inBlock, ↓reduceIte, Nat.reduceEqDiff])
                    refine hK30 _ _ ?_
                    refine wp_region_lit ?_
                    refine sqv hf (r_move rfl) rfl rfl rfl ?_; clear hf fa; intro fa hf
                    refine sqv hf (r_sub (C := ((((Fl.depthP (Fl.opl l) k) - ((jj : Nat) : Int))) - (1 : Int))) rfl rfl (by rw [IntKind.wrap_i64]; omega)) rfl rfl rfl ?_; clear hf fa; intro fa hf
                    refine sqv hf (r_assign rfl) rfl rfl rfl ?_; clear hf fa; intro fa hf
                    apply wpList_nil
                    (try simp only [Exit.then, Exit.inBlock, ↓reduceIte, Nat.reduceEqDiff])
                    refine hKL3 _ _ _ (by omega) ⟨(jj + 1), rfl, hf.sub ⟨rfl, rfl, rfl, (some_sl (by first | omega | rfl | (simp only [List.length_append, List.length_cons, List.length_nil]; omega) | (simp <;> omega)) rfl), rfl, (some_str (by first | exact (rpt_zero _).symm | exact rpt_next _ _ | rfl)), (some_int (by first | rfl | omega)), trivial⟩, hb, haB, by omega⟩
                  · have hqt89_1b := hqt89_1
                    replace hqt89_1 := Bool.eq_false_iff.1 hqt89_1
                    try simp only [ne_eq, decide_eq_true_eq, Bool.and_eq_true, Bool.or_eq_true, Bool.not_eq_true', decide_eq_false_iff_not] at hqt89_1
                    refine wp_exit ?_
                    (try simp only [Exit.then, Exit.inBlock, ↓reduceIte, Nat.reduceEqDiff])
                    refine hK26 _ _ ?_
                    refine wp_seq_k (fun K31 hK31 => ?_)
                    have hln := ln_is hs hd hj (by have h := hqt89_1; exact h)
                    refine wp_region_lit ?_
                    refine sqv hf (r_move rfl) rfl rfl rfl ?_; clear hf fa; intro fa hf
                    refine sqv hf (r_move rfl) rfl rfl rfl ?_; clear hf fa; intro fa hf
                    have hy3 : ((boL l))[k]? = some (lnB l k) := (by rw [hbo]; exact body_at l (by omega))
                    have hel3 := RdS.at (Row.rd (by intros; rfl) haB) hy3
                    obtain ⟨_, _, hab, hlr1, hel3⟩ := hel3
                    cases hab
                    refine sqv hf (r_ixa (sz := 1) (j := k) rfl rfl Tryd.underlying43 (by kernel_rfl) rfl (by omega) rfl) rfl rfl rfl ?_; clear hf fa; intro fa hf
                    refine sqv hf (r_load (v := (.string (lnB l k))) rfl Tryd.underlying9 rfl (cellsAt_cell hel3 (i := 0) rfl rfl)) rfl rfl rfl ?_; clear hf fa; intro fa hf
                    refine sqv hf (r_move rfl) rfl rfl rfl ?_; clear hf fa; intro fa hf
                    refine sqv hf (Runs.veq (r_sne rfl rfl) (congrArg Value.bool (show _ = false from (by rw [hln]; simp)))) rfl rfl rfl ?_; clear hf fa; intro fa hf
                    apply wpList_nil
                    (try simp only [Exit.then, Exit.inBlock, ↓reduceIte, Nat.reduceEqDiff])
                    refine hK31 _ _ ?_
                    refine wp_cond_false (hf.ev rfl) ?_
                    refine wp_skip ?_
                    (try simp only [Exit.then, Exit.inBlock, ↓reduceIte, Nat.reduceEqDiff])
                    refine hK24 _ _ ?_
                    refine wp_region_lit ?_
                    refine sqv hf (r_move rfl) rfl rfl rfl ?_; clear hf fa; intro fa hf
                    refine sqv hf (r_add (C := (((k : Nat) : Int) + (1 : Int))) rfl rfl (by rw [IntKind.wrap_i64]; omega)) rfl rfl rfl ?_; clear hf fa; intro fa hf
                    refine sqv hf (r_assign rfl) rfl rfl rfl ?_; clear hf fa; intro fa hf
                    apply wpList_nil
                    (try simp only [Exit.then, Exit.inBlock, ↓reduceIte, Nat.reduceEqDiff])
                    refine hKL2 _ _ _ (by omega) ⟨(k + 1), rfl, hf.sub ⟨rfl, rfl, rfl, (some_sl (by first | omega | rfl | (simp only [List.length_append, List.length_cons, List.length_nil]; omega) | (simp <;> omega)) rfl), (some_int (by first | rfl | omega)), trivial⟩, hb, haB, by omega⟩
              · have hqt77_1b := hqt77_1
                replace hqt77_1 := Bool.eq_false_iff.1 hqt77_1
                try simp only [ne_eq, decide_eq_true_eq, Bool.and_eq_true, Bool.or_eq_true, Bool.not_eq_true', decide_eq_false_iff_not] at hqt77_1
                refine wp_exit ?_
                (try simp only [Exit.then, Exit.inBlock, ↓reduceIte, Nat.reduceEqDiff])
                refine hK20 _ _ ?_
                refine wp_seq_k (fun K32 hK32 => ?_)
                refine wp_region_lit ?_
                refine sqv hf (r_move rfl) rfl rfl rfl ?_; clear hf fa; intro fa hf
                have hrb1 := readbody_at (M := (boL l)) hp1 (some ⟨rb1, 0, none⟩) cB _ (Row.rd (by intros; rfl) haB) (by have := Row.caps haB; omega) (by rw [hbl]; exact hl60) hsz
                
                refine sqdt hf (d_callX (vs := [(.slice (some ⟨rb1, 0, none⟩) ((((boL l).length))) cB)]) rfl Tryd.func17 (by kernel_rfl) (by kernel_rfl) hrb1) rfl rfl rfl ?_; clear hf fa; rintro fa _ w11 ⟨X1, aX1, cX1, rfl, hr2, hi1, hkk1, he8⟩ hf
                replace hr2 := Row.rebase hr2 hb.size
                replace haB := Row.ext haB he8
                replace hb := hb.trans (Below.mono he8 hb.size)
                have hcaX1 := Row.caps hr2
                refine sqv hf (r_move rfl) rfl rfl rfl ?_; clear hf fa; intro fa hf
                refine sqv hf (r_extract rfl (i := 0) rfl) rfl rfl rfl ?_; clear hf fa; intro fa hf
                refine sqv hf (r_extract rfl (i := 1) rfl) rfl rfl rfl ?_; clear hf fa; intro fa hf
                refine sqv hf (r_extract rfl (i := 2) rfl) rfl rfl rfl ?_; clear hf fa; intro fa hf
                refine sqv hf (r_assign rfl) rfl rfl rfl ?_; clear hf fa; intro fa hf
                refine sqv hf (r_assign rfl) rfl rfl rfl ?_; clear hf fa; intro fa hf
                refine sqv hf (r_assign rfl) rfl rfl rfl ?_; clear hf fa; intro fa hf
                apply wpList_nil
                (try simp only [Exit.then, Exit.inBlock, ↓reduceIte, Nat.reduceEqDiff])
                refine hK32 _ _ ?_
                refine wp_seq_k (fun K33 hK33 => ?_)
                refine wp_seq_k (fun K34 hK34 => ?_)
                refine wp_region_lit ?_
                refine sqv hf (r_move rfl) rfl rfl rfl ?_; clear hf fa; intro fa hf
                refine sqv hf (Runs.veq (Runs.veq (r_ne rfl rfl) (congrArg Value.bool (show _ = false from by decide))) (congrArg Value.bool (show _ = false from (by simp)))) rfl rfl rfl ?_; clear hf fa; intro fa hf
                refine sqv hf (r_move rfl) rfl rfl rfl ?_; clear hf fa; intro fa hf
                refine sqgd (act := true) (g := 2) (want := false) (ag := true) (c := false) hf (by rfl) (by rfl) rfl (fun _ =>  Runs.does (R := fun vq wq => vq = (.int .i64 ((l.length : Nat) : Int)) ∧ w11 = wq) (r_move rfl) ⟨rfl, rfl⟩) (fun h => by cases h) rfl ?_; clear hf fa; rintro fa _ _ ⟨rfl, rfl⟩ hf
                change Fr _ _ ((109, (.int .i64 ((l.length : Nat) : Int))) :: _) at hf
                refine sqgd (act := true) (g := 2) (want := false) (ag := true) (c := false) hf (by rfl) (by rfl) rfl (fun _ =>  Runs.does (R := fun vq wq => vq = (.slice (some ⟨rb1, 0, none⟩) ((((boL l).length))) cB) ∧ w11 = wq) (r_move rfl) ⟨rfl, rfl⟩) (fun h => by cases h) rfl ?_; clear hf fa; rintro fa _ _ ⟨rfl, rfl⟩ hf
                change Fr _ _ ((110, (.slice (some ⟨rb1, 0, none⟩) ((((boL l).length))) cB)) :: _) at hf
                refine sqgd (act := true) (g := 2) (want := false) (ag := true) (c := false) hf (by rfl) (by rfl) rfl (fun _ =>  Runs.does (R := fun vq wq => vq = (.int .i64 (((((boL l).length)) : Nat) : Int)) ∧ w11 = wq) (r_lensl rfl Tryd.underlying43) ⟨rfl, rfl⟩) (fun h => by cases h) rfl ?_; clear hf fa; rintro fa _ _ ⟨rfl, rfl⟩ hf
                change Fr _ _ ((111, (.int .i64 (((((boL l).length)) : Nat) : Int))) :: _) at hf
                refine sqgd (act := true) (g := 2) (want := false) (ag := true) (c := false) hf (by rfl) (by rfl) rfl (fun _ =>  Runs.does (R := fun vq wq => vq = (.bool false) ∧ w11 = wq) (Runs.veq (r_ne rfl rfl) (congrArg Value.bool (show _ = false from (by rw [hbl]; simp)))) ⟨rfl, rfl⟩) (fun h => by cases h) rfl ?_; clear hf fa; rintro fa _ _ ⟨rfl, rfl⟩ hf
                change Fr _ _ ((112, (.bool false)) :: _) at hf
                refine sqv hf (r_pick (b := false) rfl rfl rfl rfl) rfl rfl rfl ?_; clear hf fa; intro fa hf
                refine sqv hf (r_move rfl) rfl rfl rfl ?_; clear hf fa; intro fa hf
                refine sqgd (act := true) (g := 8) (want := false) (ag := true) (c := false) hf (by rfl) (by rfl) rfl (fun _ =>  Runs.does (R := fun vq wq => vq = (.slice aX1 X1.length cX1) ∧ w11 = wq) (r_move rfl) ⟨rfl, rfl⟩) (fun h => by cases h) rfl ?_; clear hf fa; rintro fa _ _ ⟨rfl, rfl⟩ hf
                change Fr _ _ ((115, (.slice aX1 X1.length cX1)) :: _) at hf
                refine sqgd (act := true) (g := 8) (want := false) (ag := true) (c := false) hf (by rfl) (by rfl) rfl (fun _ =>  Runs.does (R := fun vq wq => vq = (.slice a l.length c) ∧ w11 = wq) (r_move rfl) ⟨rfl, rfl⟩) (fun h => by cases h) rfl ?_; clear hf fa; rintro fa _ _ ⟨rfl, rfl⟩ hf
                change Fr _ _ ((116, (.slice a l.length c)) :: _) at hf
                refine sqgd (act := true) (g := 8) (want := false) (ag := true) (c := false) hf (by rfl) (by rfl) rfl (fun _ =>  (d_callB (vs := [(.slice aX1 X1.length cX1), (.slice a l.length c)]) rfl Tryd.func18 (by kernel_rfl) (by kernel_rfl) (sameall_any X1 l _ _ _ _ _ _ (Row.rd (by intros; rfl) hr2) (RdS.ext hl hb) hi1 (fun d hd => (hG d hd).ext hb) (fun d hd => by have := hn d hd; omega) (by have := Row.caps hr2; omega) hlc hl60 (by rw [hkk1 rfl, hky]))) ) (fun h => by cases h) rfl ?_; clear hf fa; rintro fa _ w12 ⟨rfl, he9⟩ hf
                replace haB := Row.ext haB he9
                replace hr2 := Row.ext hr2 he9
                replace hb := hb.trans (Below.mono he9 hb.size)
                change Fr _ _ ((117, (.bool true)) :: _) at hf
                refine sqgd (act := true) (g := 8) (want := false) (ag := true) (c := false) hf (by rfl) (by rfl) rfl (fun _ =>  Runs.does (R := fun vq wq => vq = (.bool false) ∧ w12 = wq) (Runs.veq (v' := (.bool false)) (r_not rfl) rfl) ⟨rfl, rfl⟩) (fun h => by cases h) rfl ?_; clear hf fa; rintro fa _ _ ⟨rfl, rfl⟩ hf
                change Fr _ _ ((118, (.bool false)) :: _) at hf
                refine sqv hf (r_pick (b := false) rfl rfl rfl rfl) rfl rfl rfl ?_; clear hf fa; intro fa hf
                apply wpList_nil
                (try simp only [Exit.then, Exit.inBlock, ↓reduceIte, Nat.reduceEqDiff])
                refine hK34 _ _ ?_
                refine wp_cond_false (hf.ev rfl) ?_
                refine wp_skip ?_
                (try simp only [Exit.then, Exit.inBlock, ↓reduceIte, Nat.reduceEqDiff])
                refine hK33 _ _ ?_
                refine wp_seq_k (fun K35 hK35 => ?_)
                refine wp_region_lit ?_
                refine sqdt hf (d_bslice0 (sz := 1) Tryd.underlying43 (by kernel_rfl)) rfl rfl rfl ?_; clear hf fa; rintro fa _ w13 ⟨b1, rfl, hle1, hk1, he10⟩ hf
                have hBb1 : w.heap.size ≤ b1 := Nat.le_trans hb.size hle1
                have : rb1 < b1 := Nat.lt_of_lt_of_le (Row.lt haB _ rfl).2 hle1
                replace haB := Row.ext haB he10
                replace hr2 := Row.ext hr2 he10
                replace hb := hb.trans (Below.mono he10 hb.size)
                refine sqv hf (r_move rfl) rfl rfl rfl ?_; clear hf fa; intro fa hf
                have hr3 := Row.of_new (k := 1) (V := vStr) (l := []) hk1 (Nat.le_refl _) rfl rfl (Nat.le_of_ble_eq_true rfl)
                refine sqdt hf (d_append (V := vStr) (k := 1) (e := 9) (bytes := 16) (z := (.string ⟨#[]⟩)) (news := (boL l)) (base := b1) (by intros; rfl) (by intro x u hu; simp only [vStr, List.mem_singleton] at hu; subst hu; rfl) rfl rfl Tryd.underlying43 (by kernel_rfl) rfl rfl rfl hr3 (Row.rd (by intros; rfl) haB) (Row.caps haB).1 (fun h => Row.nocap haB h) (by first | omega | (simp only [List.length_cons, List.length_nil, List.length_append, nums_len]; omega)) (by first | (have := hb.size; have : rb1 < w13.heap.size := (Row.lt haB _ rfl).2; have : b1 < w13.heap.size := (Row.lt hr3 _ rfl).2; omega) | (have := Row.base_le hr3 (by first | omega | (simp only [Sl.list_length, List.length_set, List.length_take, List.length_append, List.length_replicate, List.length_cons, List.length_nil, List.length_map, nums_len]; omega)); omega))) rfl rfl rfl ?_; clear hf fa; rintro fa v w14 ⟨hr4, hg1⟩ hf; obtain ⟨ra1, rc1, rfl, hcrc1, hmrc1⟩ := Row.slice hr4
                replace haB := Row.grown' haB hg1 (fun q h1 h2 => by cases h1; exact Row.ne_base hr3 (show rb1 < b1 by omega) h2)
                replace hr2 := Row.grown' hr2 hg1 (Row.ne_row hr2 hr3 rfl)
                replace hb := hb.trans (row_below hr3 hg1 hb.size (by have := hb.size; omega))
                simp only [List.nil_append] at hr4
                refine sqv hf (r_assign rfl) rfl rfl rfl ?_; clear hf fa; intro fa hf
                apply wpList_nil
                (try simp only [Exit.then, Exit.inBlock, ↓reduceIte, Nat.reduceEqDiff])
                refine hK35 _ _ ?_
                refine wp_seq_k (fun K36 hK36 => ?_)
                have hln2 : (([] : List ByteArray) ++ boL l).length = l.length := hbl
                refine wp_region_lit ?_
                refine sqv hf (r_move rfl) rfl rfl rfl ?_; clear hf fa; intro fa hf
                refine sqv hf (r_conv (C := ((at0 : Nat) : Int)) rfl Tryd.underlying5 Tryd.underlying3 (by rw [IntKind.wrap_i64]; omega)) rfl rfl rfl ?_; clear hf fa; intro fa hf
                refine sqv hf (r_move rfl) rfl rfl rfl ?_; clear hf fa; intro fa hf
                refine sqv hf (r_lensl rfl Tryd.underlying43) rfl rfl rfl ?_; clear hf fa; intro fa hf
                refine sqv hf (r_rem (A := ((at0 : Nat) : Int)) (B := (((boL l).length : Nat) : Int)) (C := ((kb : Nat) : Int)) rfl rfl (by omega) (by rw [hbl, hkb, Int.tmod_eq_emod_of_nonneg (by omega)]; rfl)) rfl rfl rfl ?_; clear hf fa; intro fa hf
                refine sqv hf (r_assign rfl) rfl rfl rfl ?_; clear hf fa; intro fa hf
                apply wpList_nil
                (try simp only [Exit.then, Exit.inBlock, ↓reduceIte, Nat.reduceEqDiff])
                refine hK36 _ _ ?_
                refine wp_seq_k (fun K37 hK37 => ?_)
                refine wp_region_lit ?_
                refine sqv hf (r_move rfl) rfl rfl rfl ?_; clear hf fa; intro fa hf
                refine sqv hf (r_move rfl) rfl rfl rfl ?_; clear hf fa; intro fa hf
                obtain ⟨rb2, rfl, hbbrb2, hlbrb2⟩ := Row.some hr4 (by first | omega | (simp only [Sl.list_length, List.length_set, List.length_take, List.length_append, List.length_replicate, List.length_cons, List.length_nil, List.length_map, nums_len]; omega))
                have hy4 := getD_at (l := (boL l)) (j := kb) (⟨#[]⟩ : ByteArray) (by first | omega | (simp only [Sl.list_length, List.length_set, List.length_take, List.length_append, List.length_replicate, List.length_cons, List.length_nil, List.length_map, nums_len]; omega))
                have hel4 := RdS.at (Row.rd (by intros; rfl) hr4) hy4
                obtain ⟨_, _, hab, hlr2, hel4⟩ := hel4
                cases hab
                refine sqv hf (r_ixa (sz := 1) (j := kb) rfl rfl Tryd.underlying43 (by kernel_rfl) rfl (by omega) rfl) rfl rfl rfl ?_; clear hf fa; intro fa hf
                refine sqn hf (d_rowset (u := (⟨#[32, 32, 119, 104, 97, 116]⟩ : ByteArray)) (j := kb) (by intros; rfl) (by intro x u hu; simp only [vStr, List.mem_singleton] at hu; subst hu; rfl) rfl rfl (by first | rfl | (simp; done) | (simp; omega)) (by kernel_rfl) hr4 (by first | omega | (simp only [Sl.list_length, List.length_set, List.length_take, List.length_append, List.length_replicate, List.length_cons, List.length_nil, List.length_map, nums_len]; omega)) (by omega)) rfl rfl ?_; clear hf fa; rintro fa _ w15 ⟨hr5, hg2⟩ hf
                replace haB := Row.grown haB hg2 (fun e => by have e : rb1 = rb2 := Option.some.inj e; omega)
                replace hr2 := Row.grown hr2 hg2 (fun e => Row.ne_row hr2 hr4 rfl rb2 e rfl)
                replace hb := hb.trans (grown_below hg2 hb.size (by first | omega | (have := Row.lt hr4 _ rfl; omega) | exact (Row.lt hr4 _ rfl).1))
                apply wpList_nil
                (try simp only [Exit.then, Exit.inBlock, ↓reduceIte, Nat.reduceEqDiff])
                refine hK37 _ _ ?_
                refine wp_seq_k (fun K38 hK38 => ?_)
                refine wp_region_lit ?_
                refine sqv hf (r_move rfl) rfl rfl rfl ?_; clear hf fa; intro fa hf
                have hrb2 := readbody_at (M := (((boL l)).set kb (⟨#[32, 32, 119, 104, 97, 116]⟩ : ByteArray))) hp2 (some ⟨rb2, 0, none⟩) rc1 _ (Row.rd (by intros; rfl) hr5) (by have := Row.caps hr5; omega) (by rw [List.length_set, hbl]; exact hl60) hsz2
                rw [List.length_set] at hrb2
                refine sqdt hf (d_callX (vs := [(.slice (some ⟨rb2, 0, none⟩) (((boL l)).length) rc1)]) rfl Tryd.func17 (by kernel_rfl) (by kernel_rfl) hrb2) rfl rfl rfl ?_; clear hf fa; rintro fa _ w16 ⟨X2, aX2, cX2, rfl, hr6, hi2, hkk2, he11⟩ hf
                replace hr6 := Row.rebase hr6 hb.size
                replace haB := Row.ext haB he11
                replace hr2 := Row.ext hr2 he11
                replace hr5 := Row.ext hr5 he11
                replace hb := hb.trans (Below.mono he11 hb.size)
                have hcaX2 := Row.caps hr6
                refine sqv hf (r_move rfl) rfl rfl rfl ?_; clear hf fa; intro fa hf
                refine sqv hf (r_extract rfl (i := 0) rfl) rfl rfl rfl ?_; clear hf fa; intro fa hf
                refine sqv hf (r_extract rfl (i := 1) rfl) rfl rfl rfl ?_; clear hf fa; intro fa hf
                refine sqv hf (r_extract rfl (i := 2) rfl) rfl rfl rfl ?_; clear hf fa; intro fa hf
                refine sqv hf (r_assign rfl) rfl rfl rfl ?_; clear hf fa; intro fa hf
                refine sqv hf (r_assign rfl) rfl rfl rfl ?_; clear hf fa; intro fa hf
                refine sqv hf (r_assign rfl) rfl rfl rfl ?_; clear hf fa; intro fa hf
                apply wpList_nil
                (try simp only [Exit.then, Exit.inBlock, ↓reduceIte, Nat.reduceEqDiff])
                refine hK38 _ _ ?_
                refine wp_seq_k (fun K39 hK39 => ?_)
                have hp3x : rbP ((boL l).take ((boL l).length - 1)) = (((l.length - 1 : Nat) : Int), 30) := by rw [hbl]; exact hp3
                have hsz3x : ∀ y ∈ (boL l).take ((boL l).length - 1), y.size ≤ 5000 := by rw [hbl]; exact hsz3
                refine wp_region_lit ?_
                refine sqv hf (r_move rfl) rfl rfl rfl ?_; clear hf fa; intro fa hf
                refine sqv hf (r_move rfl) rfl rfl rfl ?_; clear hf fa; intro fa hf
                refine sqv hf (r_lensl rfl Tryd.underlying43) rfl rfl rfl ?_; clear hf fa; intro fa hf
                refine sqv hf (r_sub (C := ((((((boL l).length)) : Nat) : Int) - (1 : Int))) rfl rfl (by rw [IntKind.wrap_i64]; omega)) rfl rfl rfl ?_; clear hf fa; intro fa hf
                refine sqv hf (r_slto (m := (((((boL l).length))) - 1)) rfl rfl Tryd.underlying43 (by kernel_rfl) (by omega) (by omega)) rfl rfl rfl ?_; clear hf fa; intro fa hf
                have hr7 := Row.cutA (m := (((((boL l).length))) - 1)) (by intros; rfl) haB (Row.caps haB).1 (by (try simp only [Sl.list_length]); omega)
                have hrb3 := readbody_at (M := (((boL l)).take (((((boL l).length))) - 1))) hp3x (some ⟨rb1, 0, none⟩) cB _ (Row.rd (by intros; rfl) hr7) (by have := Row.caps hr7; omega) (by rw [List.length_take]; omega) hsz3x
                rw [List.length_take, Nat.min_eq_left (by omega)] at hrb3
                refine sqdt hf (d_callX (vs := [(.slice (some ⟨rb1, 0, none⟩) ((((((boL l).length))) - 1)) cB)]) rfl Tryd.func17 (by kernel_rfl) (by kernel_rfl) hrb3) rfl rfl rfl ?_; clear hf fa; rintro fa _ w17 ⟨X3, aX3, cX3, rfl, hr8, hi3, hkk3, he12⟩ hf
                replace hr8 := Row.rebase hr8 hb.size
                replace hr7 := Row.ext hr7 he12
                replace hr2 := Row.ext hr2 he12
                replace hr5 := Row.ext hr5 he12
                replace hr6 := Row.ext hr6 he12
                replace hb := hb.trans (Below.mono he12 hb.size)
                have hcaX3 := Row.caps hr8
                refine sqv hf (r_move rfl) rfl rfl rfl ?_; clear hf fa; intro fa hf
                refine sqv hf (r_extract rfl (i := 0) rfl) rfl rfl rfl ?_; clear hf fa; intro fa hf
                refine sqv hf (r_extract rfl (i := 1) rfl) rfl rfl rfl ?_; clear hf fa; intro fa hf
                refine sqv hf (r_extract rfl (i := 2) rfl) rfl rfl rfl ?_; clear hf fa; intro fa hf
                refine sqv hf (r_assign rfl) rfl rfl rfl ?_; clear hf fa; intro fa hf
                refine sqv hf (r_assign rfl) rfl rfl rfl ?_; clear hf fa; intro fa hf
                refine sqv hf (r_assign rfl) rfl rfl rfl ?_; clear hf fa; intro fa hf
                apply wpList_nil
                (try simp only [Exit.then, Exit.inBlock, ↓reduceIte, Nat.reduceEqDiff])
                refine hK39 _ _ ?_
                refine wp_seq_k (fun K40 hK40 => ?_)
                refine wp_region_lit ?_
                refine sqv hf (r_move rfl) rfl rfl rfl ?_; clear hf fa; intro fa hf
                refine sqv hf (r_move rfl) rfl rfl rfl ?_; clear hf fa; intro fa hf
                refine sqv hf (Runs.veq (r_eq rfl rfl) (congrArg Value.bool (show _ = true from (by simp)))) rfl rfl rfl ?_; clear hf fa; intro fa hf
                refine sqv hf (r_move rfl) rfl rfl rfl ?_; clear hf fa; intro fa hf
                refine sqgd (act := true) (g := 3) (want := true) (ag := true) (c := true) hf (by rfl) (by rfl) rfl (fun _ =>  Runs.does (R := fun vq wq => vq = (.int .i64 (49 : Int)) ∧ w17 = wq) (r_move rfl) ⟨rfl, rfl⟩) (fun h => by cases h) rfl ?_; clear hf fa; rintro fa _ _ ⟨rfl, rfl⟩ hf
                change Fr _ _ ((151, (.int .i64 (49 : Int))) :: _) at hf
                refine sqgd (act := true) (g := 3) (want := true) (ag := true) (c := true) hf (by rfl) (by rfl) rfl (fun _ =>  Runs.does (R := fun vq wq => vq = (.bool true) ∧ w17 = wq) (Runs.veq (Runs.veq (r_eq rfl rfl) (congrArg Value.bool (show _ = true from by decide))) (congrArg Value.bool (show _ = true from (by simp)))) ⟨rfl, rfl⟩) (fun h => by cases h) rfl ?_; clear hf fa; rintro fa _ _ ⟨rfl, rfl⟩ hf
                change Fr _ _ ((152, (.bool true)) :: _) at hf
                refine sqv hf (r_pick (b := true) rfl rfl rfl rfl) rfl rfl rfl ?_; clear hf fa; intro fa hf
                refine sqv hf (r_move rfl) rfl rfl rfl ?_; clear hf fa; intro fa hf
                refine sqgd (act := true) (g := 7) (want := true) (ag := true) (c := true) hf (by rfl) (by rfl) rfl (fun _ =>  Runs.does (R := fun vq wq => vq = (.int .i64 (((l.length - 1) : Nat) : Int)) ∧ w17 = wq) (r_move rfl) ⟨rfl, rfl⟩) (fun h => by cases h) rfl ?_; clear hf fa; rintro fa _ _ ⟨rfl, rfl⟩ hf
                change Fr _ _ ((155, (.int .i64 (((l.length - 1) : Nat) : Int))) :: _) at hf
                refine sqgd (act := true) (g := 7) (want := true) (ag := true) (c := true) hf (by rfl) (by rfl) rfl (fun _ =>  Runs.does (R := fun vq wq => vq = (.slice (some ⟨rb1, 0, none⟩) ((((boL l).length))) cB) ∧ w17 = wq) (r_move rfl) ⟨rfl, rfl⟩) (fun h => by cases h) rfl ?_; clear hf fa; rintro fa _ _ ⟨rfl, rfl⟩ hf
                change Fr _ _ ((156, (.slice (some ⟨rb1, 0, none⟩) ((((boL l).length))) cB)) :: _) at hf
                refine sqgd (act := true) (g := 7) (want := true) (ag := true) (c := true) hf (by rfl) (by rfl) rfl (fun _ =>  Runs.does (R := fun vq wq => vq = (.int .i64 (((((boL l).length)) : Nat) : Int)) ∧ w17 = wq) (r_lensl rfl Tryd.underlying43) ⟨rfl, rfl⟩) (fun h => by cases h) rfl ?_; clear hf fa; rintro fa _ _ ⟨rfl, rfl⟩ hf
                change Fr _ _ ((157, (.int .i64 (((((boL l).length)) : Nat) : Int))) :: _) at hf
                refine sqgd (act := true) (g := 7) (want := true) (ag := true) (c := true) hf (by rfl) (by rfl) rfl (fun _ =>  Runs.does (R := fun vq wq => vq = (.int .i64 ((((((boL l).length)) : Nat) : Int) - (1 : Int))) ∧ w17 = wq) (r_sub (C := ((((((boL l).length)) : Nat) : Int) - (1 : Int))) rfl rfl (by rw [IntKind.wrap_i64]; omega)) ⟨rfl, rfl⟩) (fun h => by cases h) rfl ?_; clear hf fa; rintro fa _ _ ⟨rfl, rfl⟩ hf
                change Fr _ _ ((158, (.int .i64 ((((((boL l).length)) : Nat) : Int) - (1 : Int)))) :: _) at hf
                refine sqgd (act := true) (g := 7) (want := true) (ag := true) (c := true) hf (by rfl) (by rfl) rfl (fun _ =>  Runs.does (R := fun vq wq => vq = (.bool true) ∧ w17 = wq) (Runs.veq (r_eq rfl rfl) (congrArg Value.bool (show _ = true from (by rw [hbl]; simp; omega)))) ⟨rfl, rfl⟩) (fun h => by cases h) rfl ?_; clear hf fa; rintro fa _ _ ⟨rfl, rfl⟩ hf
                change Fr _ _ ((159, (.bool true)) :: _) at hf
                refine sqv hf (r_pick (b := true) rfl rfl rfl rfl) rfl rfl rfl ?_; clear hf fa; intro fa hf
                refine sqv hf (r_move rfl) rfl rfl rfl ?_; clear hf fa; intro fa hf
                refine sqgd (act := true) (g := 14) (want := true) (ag := true) (c := true) hf (by rfl) (by rfl) rfl (fun _ =>  Runs.does (R := fun vq wq => vq = (.int .i64 (30 : Int)) ∧ w17 = wq) (r_move rfl) ⟨rfl, rfl⟩) (fun h => by cases h) rfl ?_; clear hf fa; rintro fa _ _ ⟨rfl, rfl⟩ hf
                change Fr _ _ ((162, (.int .i64 (30 : Int))) :: _) at hf
                refine sqgd (act := true) (g := 14) (want := true) (ag := true) (c := true) hf (by rfl) (by rfl) rfl (fun _ =>  Runs.does (R := fun vq wq => vq = (.bool true) ∧ w17 = wq) (Runs.veq (Runs.veq (r_eq rfl rfl) (congrArg Value.bool (show _ = true from by decide))) (congrArg Value.bool (show _ = true from (by simp)))) ⟨rfl, rfl⟩) (fun h => by cases h) rfl ?_; clear hf fa; rintro fa _ _ ⟨rfl, rfl⟩ hf
                change Fr _ _ ((163, (.bool true)) :: _) at hf
                refine sqv hf (r_pick (b := true) rfl rfl rfl rfl) rfl rfl rfl ?_; clear hf fa; intro fa hf
                refine sqv hf (r_assign rfl) rfl rfl rfl ?_; clear hf fa; intro fa hf
                apply wpList_nil
                (try simp only [Exit.then, Exit.inBlock, ↓reduceIte, Nat.reduceEqDiff])
                refine hK40 _ _ ?_
                refine wp_ret ?_
                (try simp only [Exit.then, Exit.inBlock])
                refine ret1 hf rfl rfl ?_
                exact ⟨rfl, hb⟩
end Go.Proofs.YtpalmpfkliepfaaDoor

namespace Go.Proofs.YtpalmpfkliepfaaDoor.textBodies
open Go.ChangeShapes Go.WideShapes Go.ChangeAt Go.RowKit
open Go.ChangeMaps (open_string shut_string)
set_option linter.unusedVariables false
set_option linter.unusedSimpArgs false

theorem own : ownKnob Tryd.prog.godebug = none := by kernel_rfl
theorem laidOut : laidOutB Tryd.prog = true := by kernel_rfl
theorem inG_of {W : World} {d : MIn} (g : fMIn W d) : InG W d ∧ d.2.2.2.1.len ≤ 140737488351232 := by
  obtain ⟨o, A, B, L, u⟩ := d
  obtain ⟨g1, g2, g3, g4, _⟩ := g
  have hr : ∀ y ∈ L.list, 0 ≤ y ∧ y < (4294967296 : Int) := fun y hy => by
    obtain ⟨j, hj, rfl⟩ : ∃ j, j < L.len ∧ L.el j = y := by
      unfold Sl.list at hy
      obtain ⟨j, hj, e⟩ := List.mem_map.1 hy
      exact ⟨j, List.mem_range.1 hj, e⟩
    have hf := (g4.2.2.2.2 j hj).1
    simp [fInt, Lit.wf, IntKind.min, IntKind.max, IntKind.signed, IntKind.bits] at hf
    omega
  simp [fInt, Lit.wf, IntKind.min, IntKind.max, IntKind.signed, IntKind.bits] at g1 g2 g3
  exact ⟨⟨by show 0 ≤ o ∧ o < 256; omega, by show 0 ≤ A ∧ A < 18446744073709551616; omega, by show 0 ≤ B ∧ B < 18446744073709551616; omega, RdS.of_arg g4.2, hr, g4.2.1⟩, by show L.len ≤ 140737488351232; have h : L.len * 4 ≤ 140737488351232 := g4.1; omega⟩
theorem rdL : ReadsW Tryd.prog 37 vSl (fSlW 4 48 vMIn fMIn) := readsW_slice Tryd.underlying37 (by kernel_rfl) (by kernel_rfl) (by decide) rdMIn
theorem walk (d : Sl MIn) (n : Int) (W : World) (g : fSlW 4 48 vMIn fMIn W d) (hn : (Lit.int .u8 n).wf = true) : Calls Tryd.prog 5 #[.slice d.at' d.len d.cap, .int .u8 n] W fun e w' => e = .returned (.bool true) ∧ Below W.heap.size W w' := by
  simp [Lit.wf, IntKind.min, IntKind.max, IntKind.signed, IntKind.bits] at hn
  obtain ⟨m, rfl⟩ : ∃ m : Nat, n = (m : Int) := ⟨n.toNat, by omega⟩
  have hm : ∀ y ∈ d.list, fMIn W y := fun y hy => by
    obtain ⟨j, hj, rfl⟩ : ∃ j, j < d.len ∧ d.el j = y := by
      unfold Sl.list at hy
      obtain ⟨j, hj, e⟩ := List.mem_map.1 hy
      exact ⟨j, List.mem_range.1 hj, e⟩
    exact (g.2.2.2.2 j hj).1
  have h := textBodies_any d.list d.at' d.cap m W (RdS.of_arg g.2) (by rw [Sl.list_length]; exact g.2.1) (fun y hy => (inG_of (hm y hy)).1) (fun y hy => (inG_of (hm y hy)).2) g.2.2.1 (by omega)
  rw [Sl.list_length] at h
  exact h

set_option maxRecDepth 100000 in
theorem lifted (os : Os) (started : os.Started) (H : Type) (enc : TypeId × Value → H) :
    ReturnsInHanded {} Tryd.checked os 5 .any (fun w args => (Rows.textBodiesSpec.pre enc Tryd.prog Tryd.f5 Rows.textBodiesRow.domain false w args ∧ laidMetH Tryd.prog Rows.textBodiesRow.laid w) ∧ sizedMet enc Tryd.prog Tryd.f5 (OpenSpec.ofChange Rows.textBodiesSpec) false w args)
      (Rows.textBodiesSpec.post enc Tryd.prog Tryd.f5 false true false false) := by
  refine returnsInHanded_of_change_and (C := Tryd.checked) (X := fun w _ => laidMetH Tryd.prog Rows.textBodiesRow.laid w) (fun _ _ _ hh h => h.of_heap hh) own started (by kernel_rfl) Tryd.func5
    (ChangeSpec.witness_shaped (enc := enc) (C := Tryd.checked) (os := os) (X := fun w _ => laidMetH Tryd.prog Rows.textBodiesRow.laid w) false (World.laidAll Tryd.prog os Rows.textBodiesRow.laid) #[.slice none 0 0, .int .u8 0] 8 (World.laidAll_os _ _ _)
      (World.shaped_of_ZipB (by kernel_rfl) (by kernel_rfl)) (by kernel_rfl) (by kernel_rfl) (by kernel_rfl)
      (by rw [MakeChecks.laidMetH_plain _ _ _ (by kernel_rfl)]; exact laidMet_laidAll _ (by kernel_rfl) (by kernel_rfl))) ?_
  intro W base args ds gs before hval0 hW hcnd hsz hL _
  have hval : ∀ (j : Nat) t v, Tryd.f5.params[j]? = some t → args[j]? = some v → Value.okWide Tryd.prog W .any base t v := hval0
  have hW' := hW
  obtain ⟨p, q, hA0, hV, rfl, hfz, hnd⟩ := hW
  have hA : DataW.TrodAll enc Tryd.prog W 0 (fun _ => true) true Tryd.f5.params.toList args.toList ds p := hA0
  rw [Tryd.params5] at hA hval
  obtain ⟨v0, vs0, x0, ds0, p0, q0, hargs, rfl, rfl, h0, r0⟩ := trodAll_cons hA
  obtain ⟨v1, vs1, x1, ds1, p1, q1, rfl, rfl, rfl, h1, r1⟩ := trodAll_cons r0
  obtain ⟨rfl, rfl, rfl⟩ := trodAll_nil r1
  obtain rfl : args = #[v0, v1] := by cases args; simp_all
  obtain ⟨rfl, rfl⟩ := trodVars_none hV
  have k0 := h0
  have lt0 : ∀ x ∈ p0, x.block < W.heap.size := by obtain ⟨m, hm⟩ := k0; exact DataW.trod_lt m _ _ _ hm
  obtain ⟨at0, len0, cap0, rfl⟩ := okWide_slice Tryd.underlying37 (hval 0 37 v0 rfl rfl)
  obtain ⟨d0, e0, g0⟩ := (rdL).arg h0 (weights_at hsz (j := 0) (t := 37) (by kernel_rfl) rfl)
  simp [Value.cells, vSl] at e0
  obtain ⟨rfl, rfl, rfl⟩ := e0
  have k1 := h1
  have lt1 : ∀ x ∈ p1, x.block < W.heap.size := by obtain ⟨m, hm⟩ := k1; exact DataW.trod_lt m _ _ _ hm
  obtain ⟨a1, rfl, _, _, w1⟩ := open_int Tryd.underlying5 (hval 1 5 v1 rfl rfl) h1
  clear hA0 hval0
  refine (walk d0 a1 W g0 w1).mono fun e W' ⟨he, bel⟩ => ?_
  subst he
  exact ⟨_, rfl, _, _, _, [], _, [], hW', trodAll_mk1 (shut_bool Tryd.underlying4 _), (trodAll_cons_mk (Below.trod laidOut (by kernel_rfl) (of_decide_eq_true (by kernel_rfl)) k0 bel lt0) (trodAll_cons_mk (Below.trod laidOut (by kernel_rfl) (of_decide_eq_true (by kernel_rfl)) k1 bel lt1) trodAll_mk0)), rfl, bel.frame _, fun h => by cases h⟩

theorem over : Rows.TextBodiesSaid :=
  OpenClaim.holds_of_wide 5 Tryd.f5 rfl rfl rfl rfl rfl rfl rfl ⟨rfl, rfl, rfl, rfl, rfl⟩ rfl rfl rfl rfl rfl (by kernel_rfl) Tryd.func5 (by kernel_rfl)
    (of_decide_eq_true (by kernel_rfl)) (by unfold Func.isWrapper; first | (rw [if_pos (by decide +kernel)]; kernel_rfl) | (rw [if_neg (by decide +kernel)]; exact ⟨rfl, rfl⟩))
    (fun os started H enc _ => lifted os started H enc)

/-- The statement: the tied card. -/
theorem proved : Rows.TextBodiesCardSaid :=
  Claim7.holds_tied_plain_at .later [] [.data, .pinned] true (true, "1452cfc0cc647c3d0a7f82359f3ea450cdc05db002e7940a6a6c43ff579af210") false
    over (fun _ h => by cases h) (by kernel_rfl) (fun _ h => by cases h) textBodies_row_tie rfl ⟨rfl, rfl⟩ (by kernel_rfl) rfl
    (fun f fn hf hfn => by
      obtain rfl : f = 5 := Option.some.inj ((show Tryd.prog.funcNamed "creel/creellaw46.TextBodies" = some 5 by kernel_rfl).symm.trans hf) |>.symm
      obtain rfl : fn = Tryd.f5 := (Option.some.inj (Tryd.func5.symm.trans hfn)).symm
      exact ⟨by kernel_rfl, fun j t ht => by
        rw [Tryd.params5] at ht
        have hm : t ∈ [37, 5] := by simpa using Array.mem_of_getElem? ht
        have hall : ([37, 5].all fun u => !Tryd.prog.wantsStandIn u) = true := by kernel_rfl
        exact (show Tryd.prog.wantsStandIn t = false by simpa using List.all_eq_true.1 hall t hm)⟩)
    (by kernel_rfl)
#print axioms proved
end Go.Proofs.YtpalmpfkliepfaaDoor.textBodies
