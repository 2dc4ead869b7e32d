/- What is proved here: Rank. -/
import Derived.Test.YtbllifhcfgjdlaaGgQ
namespace Go.Proofs.Ytbllifhcfgjdlaa
open Go.RowKit
set_option linter.unusedVariables false
set_option linter.unusedSimpArgs false
set_option maxHeartbeats 1000000 in
set_option maxRecDepth 100000 in
theorem rank_any (qq : Nat) (hqq : qq < 18446744073709551616) (a : Option Addr) (c : Nat) (l : List Nat) (w : World) (hl : RdS 1 vFlt w a l) (hlen : l.length ≤ 100) (hW : allW l) : Calls Try.prog 15 #[(.float .f64 qq), (.slice a l.length c)] w fun e w' => ∃ v, e = .returned v ∧ ((∃ r, v = .float .f64 r ∧ RankF l qq r) ∧ Below w.heap.size w w') := by
  refine sx_enter (L := [(0, (.float .f64 qq)), (1, (.slice a l.length c))]) Try.func15 rfl rfl rfl rfl (fun fa hf => ?_)
  have hb : Below w.heap.size w w := Below.refl _ _
  refine wp_seq_k (fun K1 hK1 => ?_)
  refine wp_region_lit ?_
  refine sqv hf (r_assign rfl) rfl rfl rfl ?_; clear hf fa; intro fa hf
  apply wpList_nil
  (try simp only [Exit.then, Exit.inBlock, ↓reduceIte, Nat.reduceEqDiff])
  refine hK1 _ _ ?_
  refine wp_seq_k (fun K2 hK2 => ?_)
  refine wp_seq_k (fun K3 hK3 => ?_)
  by_cases hsp1 : l.length = 0
  · have hsp1b : decide (l.length = 0) = true := decide_eq_true hsp1
    by_cases hsp2 : goodQ qq = true
    · have hsp2b : decide (goodQ qq = true) = true := decide_eq_true hsp2
      refine wp_region_lit ?_
      refine sqv hf (r_move rfl) rfl rfl rfl ?_; clear hf fa; intro fa hf
      refine sqv hf (r_lensl rfl Try.underlying30) rfl rfl rfl ?_; clear hf fa; intro fa hf
      refine sqv hf (Runs.veq (r_eq rfl rfl) (congrArg Value.bool (show _ = true from (decide_eq_true (by omega))))) rfl rfl rfl ?_; clear hf fa; intro fa hf
      refine sqv hf (r_move rfl) rfl rfl rfl ?_; clear hf fa; intro fa hf
      refine sqgF (act := false) (ag := true) (c := true) (v := .bool false) hf rfl rfl rfl (fun hact => by cases hact) rfl rfl ?_; clear hf fa; intro fa hf
      refine sqgF (act := false) (ag := true) (c := true) (v := .bool false) hf rfl rfl rfl (fun hact => by cases hact) rfl rfl ?_; clear hf fa; intro fa hf
      refine sqgF (act := false) (ag := true) (c := true) (v := .bool false) hf rfl rfl rfl (fun hact => by cases hact) rfl rfl ?_; clear hf fa; intro fa hf
      refine sqgT (act := false) (ag := false) (c := false) (v := .bool false) hf rfl rfl rfl (fun hact => by cases hact) rfl rfl ?_; clear hf fa; intro fa hf
      refine sqgT (act := false) (ag := false) (c := false) (v := .bool false) hf rfl rfl rfl (fun hact => by cases hact) rfl rfl ?_; clear hf fa; intro fa hf
      refine sqgF (act := false) (ag := true) (c := true) (v := .bool false) hf rfl rfl rfl (fun hact => by cases hact) rfl rfl ?_; clear hf fa; intro fa hf
      refine sqgF (act := false) (ag := true) (c := true) (v := .bool false) hf rfl rfl rfl (fun hact => by cases hact) rfl rfl ?_; clear hf fa; intro fa hf
      refine sqv hf (r_pick (b := true) rfl rfl rfl rfl) rfl rfl rfl ?_; clear hf fa; intro fa hf
      apply wpList_nil
      (try simp only [Exit.then, Exit.inBlock, ↓reduceIte, Nat.reduceEqDiff])
      refine hK3 _ _ ?_
      refine wp_cond_true (hf.ev rfl) ?_
      refine wp_seq_k (fun K4 hK4 => ?_)
      refine wp_region_lit ?_
      refine sqdt hf (d_callX (vs := []) rfl Try.func31 (by kernel_rfl) (by kernel_rfl) (none_any _)) rfl rfl rfl ?_; clear hf fa; rintro fa _ w1 ⟨⟨fk1, rfl, hfk1⟩, he1⟩ hf
      replace hb := hb.trans (Below.mono he1 hb.size)
      refine sqv hf (r_assign rfl) rfl rfl rfl ?_; clear hf fa; intro fa hf
      apply wpList_nil
      (try simp only [Exit.then, Exit.inBlock, ↓reduceIte, Nat.reduceEqDiff])
      refine hK4 _ _ ?_
      refine wp_ret ?_
      (try simp only [Exit.then, Exit.inBlock])
      refine ret1 hf rfl rfl ?_
      exact ⟨_, rfl, ⟨_, rfl, hfk1.1, by rw [if_pos (by first | exact .inl (by omega) | exact .inr (Bool.eq_false_iff.2 (by assumption)))]; exact zero_zero hfk1⟩, hb⟩
    · have hsp2b : decide (goodQ qq = true) = false := decide_eq_false hsp2
      refine wp_region_lit ?_
      refine sqv hf (r_move rfl) rfl rfl rfl ?_; clear hf fa; intro fa hf
      refine sqv hf (r_lensl rfl Try.underlying30) rfl rfl rfl ?_; clear hf fa; intro fa hf
      refine sqv hf (Runs.veq (r_eq rfl rfl) (congrArg Value.bool (show _ = true from (decide_eq_true (by omega))))) rfl rfl rfl ?_; clear hf fa; intro fa hf
      refine sqv hf (r_move rfl) rfl rfl rfl ?_; clear hf fa; intro fa hf
      refine sqgF (act := false) (ag := true) (c := true) (v := .bool false) hf rfl rfl rfl (fun hact => by cases hact) rfl rfl ?_; clear hf fa; intro fa hf
      refine sqgF (act := false) (ag := true) (c := true) (v := .bool false) hf rfl rfl rfl (fun hact => by cases hact) rfl rfl ?_; clear hf fa; intro fa hf
      refine sqgF (act := false) (ag := true) (c := true) (v := .bool false) hf rfl rfl rfl (fun hact => by cases hact) rfl rfl ?_; clear hf fa; intro fa hf
      refine sqgT (act := false) (ag := false) (c := false) (v := .bool false) hf rfl rfl rfl (fun hact => by cases hact) rfl rfl ?_; clear hf fa; intro fa hf
      refine sqgT (act := false) (ag := false) (c := false) (v := .bool false) hf rfl rfl rfl (fun hact => by cases hact) rfl rfl ?_; clear hf fa; intro fa hf
      refine sqgF (act := false) (ag := true) (c := true) (v := .bool false) hf rfl rfl rfl (fun hact => by cases hact) rfl rfl ?_; clear hf fa; intro fa hf
      refine sqgF (act := false) (ag := true) (c := true) (v := .bool false) hf rfl rfl rfl (fun hact => by cases hact) rfl rfl ?_; clear hf fa; intro fa hf
      refine sqv hf (r_pick (b := true) rfl rfl rfl rfl) rfl rfl rfl ?_; clear hf fa; intro fa hf
      apply wpList_nil
      (try simp only [Exit.then, Exit.inBlock, ↓reduceIte, Nat.reduceEqDiff])
      refine hK3 _ _ ?_
      refine wp_cond_true (hf.ev rfl) ?_
      refine wp_seq_k (fun K5 hK5 => ?_)
      refine wp_region_lit ?_
      refine sqdt hf (d_callX (vs := []) rfl Try.func31 (by kernel_rfl) (by kernel_rfl) (none_any _)) rfl rfl rfl ?_; clear hf fa; rintro fa _ w2 ⟨⟨fk2, rfl, hfk2⟩, he2⟩ hf
      replace hb := hb.trans (Below.mono he2 hb.size)
      refine sqv hf (r_assign rfl) rfl rfl rfl ?_; clear hf fa; intro fa hf
      apply wpList_nil
      (try simp only [Exit.then, Exit.inBlock, ↓reduceIte, Nat.reduceEqDiff])
      refine hK5 _ _ ?_
      refine wp_ret ?_
      (try simp only [Exit.then, Exit.inBlock])
      refine ret1 hf rfl rfl ?_
      exact ⟨_, rfl, ⟨_, rfl, hfk2.1, by rw [if_pos (by first | exact .inl (by omega) | exact .inr (Bool.eq_false_iff.2 (by assumption)))]; exact zero_zero hfk2⟩, hb⟩
  · have hsp1b : decide (l.length = 0) = false := decide_eq_false hsp1
    by_cases hsp3 : goodQ qq = true
    · have hsp3b : decide (goodQ qq = true) = true := decide_eq_true hsp3
      refine wp_region_lit ?_
      refine sqv hf (r_move rfl) rfl rfl rfl ?_; clear hf fa; intro fa hf
      refine sqv hf (r_lensl rfl Try.underlying30) rfl rfl rfl ?_; clear hf fa; intro fa hf
      refine sqv hf (Runs.veq (r_eq rfl rfl) (congrArg Value.bool (show _ = false from (decide_eq_false (by omega))))) rfl rfl rfl ?_; clear hf fa; intro fa hf
      refine sqv hf (r_move rfl) rfl rfl rfl ?_; clear hf fa; intro fa hf
      refine sqgd (act := true) (g := 3) (want := false) (ag := true) (c := false) hf (by rfl) (by rfl) rfl (fun _ =>  Runs.does (R := fun vq wq => vq = (.float .f64 qq) ∧ w = wq) (r_move rfl) ⟨rfl, rfl⟩) (fun h => by cases h) rfl ?_; clear hf fa; rintro fa _ _ ⟨rfl, rfl⟩ hf
      change Fr _ _ ((10, (.float .f64 qq)) :: _) at hf
      refine sqgd (act := true) (g := 3) (want := false) (ag := true) (c := false) hf (by rfl) (by rfl) rfl (fun _ =>  Runs.does (R := fun vq wq => vq = (.bool (ford qq 0 == some .gt || ford qq 0 == some .eq)) ∧ w = wq) (r_fgeq rfl rfl) ⟨rfl, rfl⟩) (fun h => by cases h) rfl ?_; clear hf fa; rintro fa _ _ ⟨rfl, rfl⟩ hf
      change Fr _ _ ((11, (.bool (ford qq 0 == some .gt || ford qq 0 == some .eq))) :: _) at hf
      refine sqgd (act := true) (g := 3) (want := false) (ag := true) (c := false) hf (by rfl) (by rfl) rfl (fun _ =>  Runs.does (R := fun vq wq => vq = (.bool (ford qq 0 == some .gt || ford qq 0 == some .eq)) ∧ w = wq) (r_move rfl) ⟨rfl, rfl⟩) (fun h => by cases h) rfl ?_; clear hf fa; rintro fa _ _ ⟨rfl, rfl⟩ hf
      change Fr _ _ ((12, (.bool (ford qq 0 == some .gt || ford qq 0 == some .eq))) :: _) at hf
      refine sqgT (act := (ford qq 0 == some .gt || ford qq 0 == some .eq)) (ag := true) (c := (ford qq 0 == some .gt || ford qq 0 == some .eq)) (v := (.float .f64 qq)) hf rfl rfl rfl (fun hact => (r_move rfl)) rfl rfl ?_; clear hf fa; intro fa hf
      refine sqgT (act := (ford qq 0 == some .gt || ford qq 0 == some .eq)) (ag := true) (c := (ford qq 0 == some .gt || ford qq 0 == some .eq)) (v := (.bool (ford qq 4607182418800017408 == some .lt || ford qq 4607182418800017408 == some .eq))) hf rfl rfl rfl (fun hact => (r_fleq (gb_ev hact rfl) rfl)) rfl rfl ?_; clear hf fa; intro fa hf
      refine sqgd (act := true) (g := 3) (want := false) (ag := true) (c := false) hf (by rfl) (by rfl) rfl (fun _ =>  Runs.does (R := fun vq wq => vq = (.bool true) ∧ w = wq) (Runs.veq (r_pickA (b := (ford qq 0 == some .gt || ford qq 0 == some .eq)) (e := (ford qq 4607182418800017408 == some .lt || ford qq 4607182418800017408 == some .eq)) rfl rfl rfl) (congrArg Value.bool (show _ = true from (show goodQ qq = true from hsp3)))) ⟨rfl, rfl⟩) (fun h => by cases h) rfl ?_; clear hf fa; rintro fa _ _ ⟨rfl, rfl⟩ hf
      change Fr _ _ ((15, (.bool true)) :: _) at hf
      refine sqgd (act := true) (g := 3) (want := false) (ag := true) (c := false) hf (by rfl) (by rfl) rfl (fun _ =>  Runs.does (R := fun vq wq => vq = (.bool false) ∧ w = wq) (Runs.veq (v' := (.bool false)) (r_not rfl) rfl) ⟨rfl, rfl⟩) (fun h => by cases h) rfl ?_; clear hf fa; rintro fa _ _ ⟨rfl, rfl⟩ hf
      change Fr _ _ ((16, (.bool false)) :: _) at hf
      refine sqv hf (r_pick (b := false) rfl rfl rfl rfl) rfl rfl rfl ?_; clear hf fa; intro fa hf
      apply wpList_nil
      (try simp only [Exit.then, Exit.inBlock, ↓reduceIte, Nat.reduceEqDiff])
      refine hK3 _ _ ?_
      refine wp_cond_false (hf.ev rfl) ?_
      refine wp_skip ?_
      (try simp only [Exit.then, Exit.inBlock, ↓reduceIte, Nat.reduceEqDiff])
      refine hK2 _ _ ?_
      refine wp_seq_k (fun K6 hK6 => ?_)
      refine wp_region_lit ?_
      refine sqv hf (r_move rfl) rfl rfl rfl ?_; clear hf fa; intro fa hf
      refine sqdt hf (d_callX (vs := [(.slice a l.length c)]) rfl Try.func32 (by kernel_rfl) (by kernel_rfl) (clone_gen a c l _ (RdS.ext hl hb) (by omega) hlen)) rfl rfl rfl ?_; clear hf fa; rintro fa v w3 ⟨hr1, he3⟩ hf; obtain ⟨ra1, rc1, rfl, hcrc1, hmrc1⟩ := Row.slice hr1
      replace hb := hb.trans (Below.mono he3 hb.size)
      refine sqv hf (r_assign rfl) rfl rfl rfl ?_; clear hf fa; intro fa hf
      apply wpList_nil
      (try simp only [Exit.then, Exit.inBlock, ↓reduceIte, Nat.reduceEqDiff])
      refine hK6 _ _ ?_
      refine wp_seq_k (fun K7 hK7 => ?_)
      obtain ⟨rb1, rfl, hbbrb1, hlbrb1⟩ := Row.some hr1 (by omega)
      refine wp_region_lit ?_
      refine sqv hf (r_move rfl) rfl rfl rfl ?_; clear hf fa; intro fa hf
      refine sqdt hf (d_callX (R := fun vz wz => vz = .tuple #[] ∧ ∃ l' : List Nat, Row 1 vFlt 22 w.heap.size wz (.slice (some ⟨rb1, 0, none⟩) l.length rc1) l' ∧ (l'.Perm l ∧ Srt l' 0 l.length) ∧ Below w.heap.size w wz) (vs := [(.slice (some ⟨rb1, 0, none⟩) l.length rc1), (.func (.func 9) #[] #[])]) rfl Try.func33 (by kernel_rfl) (by kernel_rfl) (Calls.mono (sortst_any rb1 _ l hlen w _ hb hr1 hW) (fun e w2 h => ⟨_, h.1, rfl, h.2⟩))) rfl rfl rfl ?_; clear hf fa; rintro fa _ w4 ⟨rfl, l9, hr2, hl9, hb1⟩ hf
      clear hb hr1
      have hb := hb1
      clear hb1
      have hl9n := hl9.1.length_eq
      apply wpList_nil
      (try simp only [Exit.then, Exit.inBlock, ↓reduceIte, Nat.reduceEqDiff])
      refine hK7 _ _ ?_
      refine wp_seq_k (fun K8 hK8 => ?_)
      obtain ⟨t9, k9, hmul, hk9, hk9l⟩ := unit_mul (x := qq) (N := l.length - 1) (goodQ_unit (by assumption)).1 (goodQ_unit (by assumption)).2 (by omega)
      refine wp_region_lit ?_
      refine sqv hf (r_move rfl) rfl rfl rfl ?_; clear hf fa; intro fa hf
      refine sqv hf (r_move rfl) rfl rfl rfl ?_; clear hf fa; intro fa hf
      refine sqv hf (r_move rfl) rfl rfl rfl ?_; clear hf fa; intro fa hf
      refine sqv hf (r_lensl rfl Try.underlying30) rfl rfl rfl ?_; clear hf fa; intro fa hf
      refine sqv hf (r_sub (C := (((l.length - 1) : Nat) : Int)) rfl rfl (by rw [IntKind.wrap_i64]; omega)) rfl rfl rfl ?_; clear hf fa; intro fa hf
      refine sqv hf (r_fofint rfl Try.underlying3 Try.underlying22) rfl rfl rfl ?_; clear hf fa; intro fa hf
      refine sqv hf (r_farith (r := t9) rfl rfl (fun _ => rfl) hmul) rfl rfl rfl ?_; clear hf fa; intro fa hf
      refine sqv hf (r_ftoint (n := ((k9 : Nat) : Int)) rfl Try.underlying22 Try.underlying3 hk9) rfl rfl rfl ?_; clear hf fa; intro fa hf
      have hy1 := getD_at (l := l9) (j := k9) 0 (by first | omega | (simp only [Sl.list_length, List.length_set, List.length_take, List.length_append, List.length_replicate, List.length_cons, List.length_nil, List.length_map, nums_len]; omega))
      have hel1 := RdS.at (Row.rd (by intros; rfl) hr2) hy1
      obtain ⟨_, _, hab, hlr1, hel1⟩ := hel1
      cases hab
      refine sqv hf (r_ixa (sz := 1) (j := k9) rfl rfl Try.underlying30 (by kernel_rfl) rfl (by omega) rfl) rfl rfl rfl ?_; clear hf fa; intro fa hf
      refine sqv hf (r_load (v := (.float .f64 (l9.getD k9 0))) rfl Try.underlying22 rfl (cellsAt_cell hel1 (i := 0) rfl rfl)) rfl rfl rfl ?_; clear hf fa; intro fa hf
      refine sqv hf (r_assign rfl) rfl rfl rfl ?_; clear hf fa; intro fa hf
      apply wpList_nil
      (try simp only [Exit.then, Exit.inBlock, ↓reduceIte, Nat.reduceEqDiff])
      refine hK8 _ _ ?_
      refine wp_ret ?_
      (try simp only [Exit.then, Exit.inBlock])
      refine ret1 hf rfl rfl ?_
      exact ⟨_, rfl, ⟨_, rfl, allW_getD (fun x hx => hW x (hl9.1.mem_iff.1 hx)) _, by rw [if_neg (fun hh => hh.elim (fun hh => absurd hh (by assumption)) (fun hh => by have hq9 : goodQ qq = true := (by assumption); rw [hh] at hq9; cases hq9))]; exact ⟨l9, k9, t9, hl9.1, srtL_of (by rw [hl9n]; exact hl9.2), hmul, hk9, by omega, rfl⟩⟩, hb⟩
    · have hsp3b : decide (goodQ qq = true) = false := decide_eq_false hsp3
      refine wp_region_lit ?_
      refine sqv hf (r_move rfl) rfl rfl rfl ?_; clear hf fa; intro fa hf
      refine sqv hf (r_lensl rfl Try.underlying30) rfl rfl rfl ?_; clear hf fa; intro fa hf
      refine sqv hf (Runs.veq (r_eq rfl rfl) (congrArg Value.bool (show _ = false from (decide_eq_false (by omega))))) rfl rfl rfl ?_; clear hf fa; intro fa hf
      refine sqv hf (r_move rfl) rfl rfl rfl ?_; clear hf fa; intro fa hf
      refine sqgd (act := true) (g := 3) (want := false) (ag := true) (c := false) hf (by rfl) (by rfl) rfl (fun _ =>  Runs.does (R := fun vq wq => vq = (.float .f64 qq) ∧ w = wq) (r_move rfl) ⟨rfl, rfl⟩) (fun h => by cases h) rfl ?_; clear hf fa; rintro fa _ _ ⟨rfl, rfl⟩ hf
      change Fr _ _ ((10, (.float .f64 qq)) :: _) at hf
      refine sqgd (act := true) (g := 3) (want := false) (ag := true) (c := false) hf (by rfl) (by rfl) rfl (fun _ =>  Runs.does (R := fun vq wq => vq = (.bool (ford qq 0 == some .gt || ford qq 0 == some .eq)) ∧ w = wq) (r_fgeq rfl rfl) ⟨rfl, rfl⟩) (fun h => by cases h) rfl ?_; clear hf fa; rintro fa _ _ ⟨rfl, rfl⟩ hf
      change Fr _ _ ((11, (.bool (ford qq 0 == some .gt || ford qq 0 == some .eq))) :: _) at hf
      refine sqgd (act := true) (g := 3) (want := false) (ag := true) (c := false) hf (by rfl) (by rfl) rfl (fun _ =>  Runs.does (R := fun vq wq => vq = (.bool (ford qq 0 == some .gt || ford qq 0 == some .eq)) ∧ w = wq) (r_move rfl) ⟨rfl, rfl⟩) (fun h => by cases h) rfl ?_; clear hf fa; rintro fa _ _ ⟨rfl, rfl⟩ hf
      change Fr _ _ ((12, (.bool (ford qq 0 == some .gt || ford qq 0 == some .eq))) :: _) at hf
      refine sqgT (act := (ford qq 0 == some .gt || ford qq 0 == some .eq)) (ag := true) (c := (ford qq 0 == some .gt || ford qq 0 == some .eq)) (v := (.float .f64 qq)) hf rfl rfl rfl (fun hact => (r_move rfl)) rfl rfl ?_; clear hf fa; intro fa hf
      refine sqgT (act := (ford qq 0 == some .gt || ford qq 0 == some .eq)) (ag := true) (c := (ford qq 0 == some .gt || ford qq 0 == some .eq)) (v := (.bool (ford qq 4607182418800017408 == some .lt || ford qq 4607182418800017408 == some .eq))) hf rfl rfl rfl (fun hact => (r_fleq (gb_ev hact rfl) rfl)) rfl rfl ?_; clear hf fa; intro fa hf
      refine sqgd (act := true) (g := 3) (want := false) (ag := true) (c := false) hf (by rfl) (by rfl) rfl (fun _ =>  Runs.does (R := fun vq wq => vq = (.bool false) ∧ w = wq) (Runs.veq (r_pickA (b := (ford qq 0 == some .gt || ford qq 0 == some .eq)) (e := (ford qq 4607182418800017408 == some .lt || ford qq 4607182418800017408 == some .eq)) rfl rfl rfl) (congrArg Value.bool (show _ = false from (show goodQ qq = false from Bool.eq_false_iff.2 hsp3)))) ⟨rfl, rfl⟩) (fun h => by cases h) rfl ?_; clear hf fa; rintro fa _ _ ⟨rfl, rfl⟩ hf
      change Fr _ _ ((15, (.bool false)) :: _) at hf
      refine sqgd (act := true) (g := 3) (want := false) (ag := true) (c := false) hf (by rfl) (by rfl) rfl (fun _ =>  Runs.does (R := fun vq wq => vq = (.bool true) ∧ w = wq) (Runs.veq (v' := (.bool true)) (r_not rfl) rfl) ⟨rfl, rfl⟩) (fun h => by cases h) rfl ?_; clear hf fa; rintro fa _ _ ⟨rfl, rfl⟩ hf
      change Fr _ _ ((16, (.bool true)) :: _) at hf
      refine sqv hf (r_pick (b := false) rfl rfl rfl rfl) rfl rfl rfl ?_; clear hf fa; intro fa hf
      apply wpList_nil
      (try simp only [Exit.then, Exit.inBlock, ↓reduceIte, Nat.reduceEqDiff])
      refine hK3 _ _ ?_
      refine wp_cond_true (hf.ev rfl) ?_
      refine wp_seq_k (fun K9 hK9 => ?_)
      refine wp_region_lit ?_
      refine sqdt hf (d_callX (vs := []) rfl Try.func31 (by kernel_rfl) (by kernel_rfl) (none_any _)) rfl rfl rfl ?_; clear hf fa; rintro fa _ w5 ⟨⟨fk3, rfl, hfk3⟩, he4⟩ hf
      replace hb := hb.trans (Below.mono he4 hb.size)
      refine sqv hf (r_assign rfl) rfl rfl rfl ?_; clear hf fa; intro fa hf
      apply wpList_nil
      (try simp only [Exit.then, Exit.inBlock, ↓reduceIte, Nat.reduceEqDiff])
      refine hK9 _ _ ?_
      refine wp_ret ?_
      (try simp only [Exit.then, Exit.inBlock])
      refine ret1 hf rfl rfl ?_
      exact ⟨_, rfl, ⟨_, rfl, hfk3.1, by rw [if_pos (by first | exact .inl (by omega) | exact .inr (Bool.eq_false_iff.2 (by assumption)))]; exact zero_zero hfk3⟩, hb⟩

set_option maxHeartbeats 1000000 in
set_option maxRecDepth 100000 in
theorem rrank_any (qq : Nat) (hqq : qq < 18446744073709551616) (a : Option Addr) (c : Nat) (l : List Nat) (w : World) (hl : RdS 1 vFlt w a l) (hlen : l.length ≤ 100) (hW : allW l) : Calls Try.prog 16 #[(.float .f64 qq), (.slice a l.length c)] w fun e w' => ∃ v, e = .returned v ∧ ((∃ r, v = .float .f64 r ∧ RankF l qq r) ∧ Below w.heap.size w w') := by
  refine sx_enter (L := [(0, (.float .f64 qq)), (1, (.slice a l.length c))]) Try.func16 rfl rfl rfl rfl (fun fa hf => ?_)
  have hb : Below w.heap.size w w := Below.refl _ _
  refine wp_seq_k (fun K1 hK1 => ?_)
  refine wp_region_lit ?_
  refine sqv hf (r_assign rfl) rfl rfl rfl ?_; clear hf fa; intro fa hf
  apply wpList_nil
  (try simp only [Exit.then, Exit.inBlock, ↓reduceIte, Nat.reduceEqDiff])
  refine hK1 _ _ ?_
  refine wp_seq_k (fun K2 hK2 => ?_)
  refine wp_seq_k (fun K3 hK3 => ?_)
  by_cases hsp1 : l.length = 0
  · have hsp1b : decide (l.length = 0) = true := decide_eq_true hsp1
    by_cases hsp2 : goodQ qq = true
    · have hsp2b : decide (goodQ qq = true) = true := decide_eq_true hsp2
      refine wp_region_lit ?_
      refine sqv hf (r_move rfl) rfl rfl rfl ?_; clear hf fa; intro fa hf
      refine sqv hf (r_lensl rfl Try.underlying30) rfl rfl rfl ?_; clear hf fa; intro fa hf
      refine sqv hf (Runs.veq (r_eq rfl rfl) (congrArg Value.bool (show _ = true from (decide_eq_true (by omega))))) rfl rfl rfl ?_; clear hf fa; intro fa hf
      refine sqv hf (r_move rfl) rfl rfl rfl ?_; clear hf fa; intro fa hf
      refine sqgF (act := false) (ag := true) (c := true) (v := .bool false) hf rfl rfl rfl (fun hact => by cases hact) rfl rfl ?_; clear hf fa; intro fa hf
      refine sqgF (act := false) (ag := true) (c := true) (v := .bool false) hf rfl rfl rfl (fun hact => by cases hact) rfl rfl ?_; clear hf fa; intro fa hf
      refine sqgF (act := false) (ag := true) (c := true) (v := .bool false) hf rfl rfl rfl (fun hact => by cases hact) rfl rfl ?_; clear hf fa; intro fa hf
      refine sqv hf (r_pick (b := true) rfl rfl rfl rfl) rfl rfl rfl ?_; clear hf fa; intro fa hf
      refine sqv hf (r_move rfl) rfl rfl rfl ?_; clear hf fa; intro fa hf
      refine sqgF (act := false) (ag := true) (c := true) (v := .bool false) hf rfl rfl rfl (fun hact => by cases hact) rfl rfl ?_; clear hf fa; intro fa hf
      refine sqgF (act := false) (ag := true) (c := true) (v := .bool false) hf rfl rfl rfl (fun hact => by cases hact) rfl rfl ?_; clear hf fa; intro fa hf
      refine sqv hf (r_pick (b := true) rfl rfl rfl rfl) rfl rfl rfl ?_; clear hf fa; intro fa hf
      refine sqv hf (r_move rfl) rfl rfl rfl ?_; clear hf fa; intro fa hf
      refine sqgF (act := false) (ag := true) (c := true) (v := .bool false) hf rfl rfl rfl (fun hact => by cases hact) rfl rfl ?_; clear hf fa; intro fa hf
      refine sqgF (act := false) (ag := true) (c := true) (v := .bool false) hf rfl rfl rfl (fun hact => by cases hact) rfl rfl ?_; clear hf fa; intro fa hf
      refine sqv hf (r_pick (b := true) rfl rfl rfl rfl) rfl rfl rfl ?_; clear hf fa; intro fa hf
      apply wpList_nil
      (try simp only [Exit.then, Exit.inBlock, ↓reduceIte, Nat.reduceEqDiff])
      refine hK3 _ _ ?_
      refine wp_cond_true (hf.ev rfl) ?_
      refine wp_seq_k (fun K4 hK4 => ?_)
      refine wp_region_lit ?_
      refine sqdt hf (d_callB (vs := []) rfl Try.func34 (by kernel_rfl) (by kernel_rfl) (rnone_any _)) rfl rfl rfl ?_; clear hf fa; rintro fa _ w1 ⟨rfl, he1⟩ hf
      replace hb := hb.trans (Below.mono he1 hb.size)
      refine sqv hf (r_assign rfl) rfl rfl rfl ?_; clear hf fa; intro fa hf
      apply wpList_nil
      (try simp only [Exit.then, Exit.inBlock, ↓reduceIte, Nat.reduceEqDiff])
      refine hK4 _ _ ?_
      refine wp_ret ?_
      (try simp only [Exit.then, Exit.inBlock])
      refine ret1 hf rfl rfl ?_
      exact ⟨_, rfl, ⟨_, rfl, by decide, by rw [if_pos (by first | exact .inl (by omega) | exact .inr (Bool.eq_false_iff.2 (by assumption)))]; exact nanc⟩, hb⟩
    · have hsp2b : decide (goodQ qq = true) = false := decide_eq_false hsp2
      refine wp_region_lit ?_
      refine sqv hf (r_move rfl) rfl rfl rfl ?_; clear hf fa; intro fa hf
      refine sqv hf (r_lensl rfl Try.underlying30) rfl rfl rfl ?_; clear hf fa; intro fa hf
      refine sqv hf (Runs.veq (r_eq rfl rfl) (congrArg Value.bool (show _ = true from (decide_eq_true (by omega))))) rfl rfl rfl ?_; clear hf fa; intro fa hf
      refine sqv hf (r_move rfl) rfl rfl rfl ?_; clear hf fa; intro fa hf
      refine sqgF (act := false) (ag := true) (c := true) (v := .bool false) hf rfl rfl rfl (fun hact => by cases hact) rfl rfl ?_; clear hf fa; intro fa hf
      refine sqgF (act := false) (ag := true) (c := true) (v := .bool false) hf rfl rfl rfl (fun hact => by cases hact) rfl rfl ?_; clear hf fa; intro fa hf
      refine sqgF (act := false) (ag := true) (c := true) (v := .bool false) hf rfl rfl rfl (fun hact => by cases hact) rfl rfl ?_; clear hf fa; intro fa hf
      refine sqv hf (r_pick (b := true) rfl rfl rfl rfl) rfl rfl rfl ?_; clear hf fa; intro fa hf
      refine sqv hf (r_move rfl) rfl rfl rfl ?_; clear hf fa; intro fa hf
      refine sqgF (act := false) (ag := true) (c := true) (v := .bool false) hf rfl rfl rfl (fun hact => by cases hact) rfl rfl ?_; clear hf fa; intro fa hf
      refine sqgF (act := false) (ag := true) (c := true) (v := .bool false) hf rfl rfl rfl (fun hact => by cases hact) rfl rfl ?_; clear hf fa; intro fa hf
      refine sqv hf (r_pick (b := true) rfl rfl rfl rfl) rfl rfl rfl ?_; clear hf fa; intro fa hf
      refine sqv hf (r_move rfl) rfl rfl rfl ?_; clear hf fa; intro fa hf
      refine sqgF (act := false) (ag := true) (c := true) (v := .bool false) hf rfl rfl rfl (fun hact => by cases hact) rfl rfl ?_; clear hf fa; intro fa hf
      refine sqgF (act := false) (ag := true) (c := true) (v := .bool false) hf rfl rfl rfl (fun hact => by cases hact) rfl rfl ?_; clear hf fa; intro fa hf
      refine sqv hf (r_pick (b := true) rfl rfl rfl rfl) rfl rfl rfl ?_; clear hf fa; intro fa hf
      apply wpList_nil
      (try simp only [Exit.then, Exit.inBlock, ↓reduceIte, Nat.reduceEqDiff])
      refine hK3 _ _ ?_
      refine wp_cond_true (hf.ev rfl) ?_
      refine wp_seq_k (fun K5 hK5 => ?_)
      refine wp_region_lit ?_
      refine sqdt hf (d_callB (vs := []) rfl Try.func34 (by kernel_rfl) (by kernel_rfl) (rnone_any _)) rfl rfl rfl ?_; clear hf fa; rintro fa _ w2 ⟨rfl, he2⟩ hf
      replace hb := hb.trans (Below.mono he2 hb.size)
      refine sqv hf (r_assign rfl) rfl rfl rfl ?_; clear hf fa; intro fa hf
      apply wpList_nil
      (try simp only [Exit.then, Exit.inBlock, ↓reduceIte, Nat.reduceEqDiff])
      refine hK5 _ _ ?_
      refine wp_ret ?_
      (try simp only [Exit.then, Exit.inBlock])
      refine ret1 hf rfl rfl ?_
      exact ⟨_, rfl, ⟨_, rfl, by decide, by rw [if_pos (by first | exact .inl (by omega) | exact .inr (Bool.eq_false_iff.2 (by assumption)))]; exact nanc⟩, hb⟩
  · have hsp1b : decide (l.length = 0) = false := decide_eq_false hsp1
    by_cases hsp3 : goodQ qq = true
    · have hsp3b : decide (goodQ qq = true) = true := decide_eq_true hsp3
      refine wp_region_lit ?_
      refine sqv hf (r_move rfl) rfl rfl rfl ?_; clear hf fa; intro fa hf
      refine sqv hf (r_lensl rfl Try.underlying30) rfl rfl rfl ?_; clear hf fa; intro fa hf
      refine sqv hf (Runs.veq (r_eq rfl rfl) (congrArg Value.bool (show _ = false from (decide_eq_false (by omega))))) rfl rfl rfl ?_; clear hf fa; intro fa hf
      refine sqv hf (r_move rfl) rfl rfl rfl ?_; clear hf fa; intro fa hf
      refine sqgd (act := true) (g := 3) (want := false) (ag := true) (c := false) hf (by rfl) (by rfl) rfl (fun _ =>  Runs.does (R := fun vq wq => vq = (.float .f64 qq) ∧ w = wq) (r_move rfl) ⟨rfl, rfl⟩) (fun h => by cases h) rfl ?_; clear hf fa; rintro fa _ _ ⟨rfl, rfl⟩ hf
      change Fr _ _ ((9, (.float .f64 qq)) :: _) at hf
      refine sqgd (act := true) (g := 3) (want := false) (ag := true) (c := false) hf (by rfl) (by rfl) rfl (fun _ =>  (d_callB (vs := [(.float .f64 qq)]) rfl Try.func8 (by kernel_rfl) (by kernel_rfl) (rkind_any qq (by first | assumption | omega) _)) ) (fun h => by cases h) rfl ?_; clear hf fa; rintro fa _ w3 ⟨rfl, he3⟩ hf
      replace hb := hb.trans (Below.mono he3 hb.size)
      change Fr _ _ ((10, (.int .i64 (kindN qq))) :: _) at hf
      refine sqgd (act := true) (g := 3) (want := false) (ag := true) (c := false) hf (by rfl) (by rfl) rfl (fun _ =>  Runs.does (R := fun vq wq => vq = (.bool (decide ((kindN qq) = (0 : Int)))) ∧ w3 = wq) (r_eq rfl rfl) ⟨rfl, rfl⟩) (fun h => by cases h) rfl ?_; clear hf fa; rintro fa _ _ ⟨rfl, rfl⟩ hf
      change Fr _ _ ((11, (.bool (decide ((kindN qq) = (0 : Int))))) :: _) at hf
      refine sqv hf (r_pick (b := false) rfl rfl rfl rfl) rfl rfl rfl ?_; clear hf fa; intro fa hf
      refine sqv hf (r_move rfl) rfl rfl rfl ?_; clear hf fa; intro fa hf
      refine sqgF (act := (!(decide ((kindN qq) = (0 : Int))))) (ag := true) (c := (decide ((kindN qq) = (0 : Int)))) (v := (.float .f64 qq)) hf rfl rfl rfl (fun hact => (r_move rfl)) rfl rfl ?_; clear hf fa; intro fa hf
      refine sqgF (act := (!(decide ((kindN qq) = (0 : Int))))) (ag := true) (c := (decide ((kindN qq) = (0 : Int)))) (v := (.bool (ford qq 0 == some .lt))) hf rfl rfl rfl (fun hact => (r_flss (gb_ev hact rfl) rfl)) rfl rfl ?_; clear hf fa; intro fa hf
      refine sqv hf (r_pickO (b := (decide ((kindN qq) = (0 : Int)))) (e := (ford qq 0 == some .lt)) rfl rfl rfl) rfl rfl rfl ?_; clear hf fa; intro fa hf
      refine sqv hf (r_move rfl) rfl rfl rfl ?_; clear hf fa; intro fa hf
      refine sqgF (act := (!((decide ((kindN qq) = (0 : Int))) || (ford qq 0 == some .lt)))) (ag := true) (c := ((decide ((kindN qq) = (0 : Int))) || (ford qq 0 == some .lt))) (v := (.float .f64 qq)) hf rfl rfl rfl (fun hact => (r_move rfl)) rfl rfl ?_; clear hf fa; intro fa hf
      refine sqgF (act := (!((decide ((kindN qq) = (0 : Int))) || (ford qq 0 == some .lt)))) (ag := true) (c := ((decide ((kindN qq) = (0 : Int))) || (ford qq 0 == some .lt))) (v := (.bool (ford qq 4607182418800017408 == some .gt))) hf rfl rfl rfl (fun hact => (r_fgtr (gb_ev hact rfl) rfl)) rfl rfl ?_; clear hf fa; intro fa hf
      refine sqv hf (Runs.veq (r_pickO (b := ((decide ((kindN qq) = (0 : Int))) || (ford qq 0 == some .lt))) (e := (ford qq 4607182418800017408 == some .gt)) rfl rfl rfl) (congrArg Value.bool (show _ = false from ((refQ qq).trans (by rw [hsp3]; rfl))))) rfl rfl rfl ?_; clear hf fa; intro fa hf
      apply wpList_nil
      (try simp only [Exit.then, Exit.inBlock, ↓reduceIte, Nat.reduceEqDiff])
      refine hK3 _ _ ?_
      refine wp_cond_false (hf.ev rfl) ?_
      refine wp_skip ?_
      (try simp only [Exit.then, Exit.inBlock, ↓reduceIte, Nat.reduceEqDiff])
      refine hK2 _ _ ?_
      refine wp_seq_k (fun K6 hK6 => ?_)
      obtain ⟨t9, k9, hmul, hk9, hk9l⟩ := unit_mul (x := qq) (N := l.length - 1) (goodQ_unit (by assumption)).1 (goodQ_unit (by assumption)).2 (by omega)
      have hsl9 := sortP_len l
      refine wp_region_lit ?_
      refine sqv hf (r_move rfl) rfl rfl rfl ?_; clear hf fa; intro fa hf
      refine sqdt hf (d_callX (vs := [(.slice a l.length c)]) rfl Try.func35 (by kernel_rfl) (by kernel_rfl) (rsorted_any a c l _ (RdS.ext hl hb) hlen hW)) rfl rfl rfl ?_; clear hf fa; rintro fa v w4 ⟨hr1, he4⟩ hf; obtain ⟨ra1, rc1, rfl, hcrc1, hmrc1⟩ := Row.slice hr1
      replace hr1 := Row.rebase hr1 hb.size
      replace hb := hb.trans (Below.mono he4 hb.size)
      refine sqv hf (r_move rfl) rfl rfl rfl ?_; clear hf fa; intro fa hf
      refine sqv hf (r_move rfl) rfl rfl rfl ?_; clear hf fa; intro fa hf
      refine sqv hf (r_lensl rfl Try.underlying30) rfl rfl rfl ?_; clear hf fa; intro fa hf
      refine sqv hf (r_sub (C := (((l.length - 1) : Nat) : Int)) rfl rfl (by rw [IntKind.wrap_i64]; omega)) rfl rfl rfl ?_; clear hf fa; intro fa hf
      refine sqv hf (r_fofint rfl Try.underlying3 Try.underlying22) rfl rfl rfl ?_; clear hf fa; intro fa hf
      refine sqv hf (r_farith (r := t9) rfl rfl (fun _ => rfl) hmul) rfl rfl rfl ?_; clear hf fa; intro fa hf
      refine sqv hf (r_ftoint (n := ((k9 : Nat) : Int)) rfl Try.underlying22 Try.underlying3 hk9) rfl rfl rfl ?_; clear hf fa; intro fa hf
      obtain ⟨rb1, rfl, hbbrb1, hlbrb1⟩ := Row.some hr1 (by first | omega | (simp only [Sl.list_length, List.length_set, List.length_take, List.length_append, List.length_replicate, List.length_cons, List.length_nil, List.length_map, nums_len]; omega))
      have hy1 := getD_at (l := (sortP l)) (j := k9) 0 (by first | omega | (simp only [Sl.list_length, List.length_set, List.length_take, List.length_append, List.length_replicate, List.length_cons, List.length_nil, List.length_map, nums_len]; omega))
      have hel1 := RdS.at (Row.rd (by intros; rfl) hr1) hy1
      obtain ⟨_, _, hab, hlr1, hel1⟩ := hel1
      cases hab
      refine sqv hf (r_ixa (sz := 1) (j := k9) rfl rfl Try.underlying30 (by kernel_rfl) rfl (by omega) rfl) rfl rfl rfl ?_; clear hf fa; intro fa hf
      refine sqv hf (r_load (v := (.float .f64 ((sortP l).getD k9 0))) rfl Try.underlying22 rfl (cellsAt_cell hel1 (i := 0) rfl rfl)) rfl rfl rfl ?_; clear hf fa; intro fa hf
      refine sqv hf (r_assign rfl) rfl rfl rfl ?_; clear hf fa; intro fa hf
      apply wpList_nil
      (try simp only [Exit.then, Exit.inBlock, ↓reduceIte, Nat.reduceEqDiff])
      refine hK6 _ _ ?_
      refine wp_ret ?_
      (try simp only [Exit.then, Exit.inBlock])
      refine ret1 hf rfl rfl ?_
      exact ⟨_, rfl, ⟨_, rfl, allW_getD (allW_sortP hW) _, by rw [if_neg (fun hh => hh.elim (fun hh => absurd hh (by assumption)) (fun hh => by have hq9 : goodQ qq = true := (by assumption); rw [hh] at hq9; cases hq9))]; exact ⟨sortP l, k9, t9, sortP_perm l, sortP_srt l, hmul, hk9, by omega, rfl⟩⟩, hb⟩
    · have hsp3b : decide (goodQ qq = true) = false := decide_eq_false hsp3
      refine wp_region_lit ?_
      refine sqv hf (r_move rfl) rfl rfl rfl ?_; clear hf fa; intro fa hf
      refine sqv hf (r_lensl rfl Try.underlying30) rfl rfl rfl ?_; clear hf fa; intro fa hf
      refine sqv hf (Runs.veq (r_eq rfl rfl) (congrArg Value.bool (show _ = false from (decide_eq_false (by omega))))) rfl rfl rfl ?_; clear hf fa; intro fa hf
      refine sqv hf (r_move rfl) rfl rfl rfl ?_; clear hf fa; intro fa hf
      refine sqgd (act := true) (g := 3) (want := false) (ag := true) (c := false) hf (by rfl) (by rfl) rfl (fun _ =>  Runs.does (R := fun vq wq => vq = (.float .f64 qq) ∧ w = wq) (r_move rfl) ⟨rfl, rfl⟩) (fun h => by cases h) rfl ?_; clear hf fa; rintro fa _ _ ⟨rfl, rfl⟩ hf
      change Fr _ _ ((9, (.float .f64 qq)) :: _) at hf
      refine sqgd (act := true) (g := 3) (want := false) (ag := true) (c := false) hf (by rfl) (by rfl) rfl (fun _ =>  (d_callB (vs := [(.float .f64 qq)]) rfl Try.func8 (by kernel_rfl) (by kernel_rfl) (rkind_any qq (by first | assumption | omega) _)) ) (fun h => by cases h) rfl ?_; clear hf fa; rintro fa _ w5 ⟨rfl, he5⟩ hf
      replace hb := hb.trans (Below.mono he5 hb.size)
      change Fr _ _ ((10, (.int .i64 (kindN qq))) :: _) at hf
      refine sqgd (act := true) (g := 3) (want := false) (ag := true) (c := false) hf (by rfl) (by rfl) rfl (fun _ =>  Runs.does (R := fun vq wq => vq = (.bool (decide ((kindN qq) = (0 : Int)))) ∧ w5 = wq) (r_eq rfl rfl) ⟨rfl, rfl⟩) (fun h => by cases h) rfl ?_; clear hf fa; rintro fa _ _ ⟨rfl, rfl⟩ hf
      change Fr _ _ ((11, (.bool (decide ((kindN qq) = (0 : Int))))) :: _) at hf
      refine sqv hf (r_pick (b := false) rfl rfl rfl rfl) rfl rfl rfl ?_; clear hf fa; intro fa hf
      refine sqv hf (r_move rfl) rfl rfl rfl ?_; clear hf fa; intro fa hf
      refine sqgF (act := (!(decide ((kindN qq) = (0 : Int))))) (ag := true) (c := (decide ((kindN qq) = (0 : Int)))) (v := (.float .f64 qq)) hf rfl rfl rfl (fun hact => (r_move rfl)) rfl rfl ?_; clear hf fa; intro fa hf
      refine sqgF (act := (!(decide ((kindN qq) = (0 : Int))))) (ag := true) (c := (decide ((kindN qq) = (0 : Int)))) (v := (.bool (ford qq 0 == some .lt))) hf rfl rfl rfl (fun hact => (r_flss (gb_ev hact rfl) rfl)) rfl rfl ?_; clear hf fa; intro fa hf
      refine sqv hf (r_pickO (b := (decide ((kindN qq) = (0 : Int)))) (e := (ford qq 0 == some .lt)) rfl rfl rfl) rfl rfl rfl ?_; clear hf fa; intro fa hf
      refine sqv hf (r_move rfl) rfl rfl rfl ?_; clear hf fa; intro fa hf
      refine sqgF (act := (!((decide ((kindN qq) = (0 : Int))) || (ford qq 0 == some .lt)))) (ag := true) (c := ((decide ((kindN qq) = (0 : Int))) || (ford qq 0 == some .lt))) (v := (.float .f64 qq)) hf rfl rfl rfl (fun hact => (r_move rfl)) rfl rfl ?_; clear hf fa; intro fa hf
      refine sqgF (act := (!((decide ((kindN qq) = (0 : Int))) || (ford qq 0 == some .lt)))) (ag := true) (c := ((decide ((kindN qq) = (0 : Int))) || (ford qq 0 == some .lt))) (v := (.bool (ford qq 4607182418800017408 == some .gt))) hf rfl rfl rfl (fun hact => (r_fgtr (gb_ev hact rfl) rfl)) rfl rfl ?_; clear hf fa; intro fa hf
      refine sqv hf (Runs.veq (r_pickO (b := ((decide ((kindN qq) = (0 : Int))) || (ford qq 0 == some .lt))) (e := (ford qq 4607182418800017408 == some .gt)) rfl rfl rfl) (congrArg Value.bool (show _ = true from ((refQ qq).trans (by rw [Bool.eq_false_iff.2 hsp3]; rfl))))) rfl rfl rfl ?_; clear hf fa; intro fa hf
      apply wpList_nil
      (try simp only [Exit.then, Exit.inBlock, ↓reduceIte, Nat.reduceEqDiff])
      refine hK3 _ _ ?_
      refine wp_cond_true (hf.ev rfl) ?_
      refine wp_seq_k (fun K7 hK7 => ?_)
      refine wp_region_lit ?_
      refine sqdt hf (d_callB (vs := []) rfl Try.func34 (by kernel_rfl) (by kernel_rfl) (rnone_any _)) rfl rfl rfl ?_; clear hf fa; rintro fa _ w6 ⟨rfl, he6⟩ hf
      replace hb := hb.trans (Below.mono he6 hb.size)
      refine sqv hf (r_assign rfl) rfl rfl rfl ?_; clear hf fa; intro fa hf
      apply wpList_nil
      (try simp only [Exit.then, Exit.inBlock, ↓reduceIte, Nat.reduceEqDiff])
      refine hK7 _ _ ?_
      refine wp_ret ?_
      (try simp only [Exit.then, Exit.inBlock])
      refine ret1 hf rfl rfl ?_
      exact ⟨_, rfl, ⟨_, rfl, by decide, by rw [if_pos (by first | exact .inl (by omega) | exact .inr (Bool.eq_false_iff.2 (by assumption)))]; exact nanc⟩, hb⟩
end Go.Proofs.Ytbllifhcfgjdlaa
