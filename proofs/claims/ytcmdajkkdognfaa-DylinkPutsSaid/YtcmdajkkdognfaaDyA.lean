/- What is proved here: dylink: Right and few. -/
import Derived.Test.YtcmdajkkdognfaaTyL
import Derived.Test.YtcmdajkkdognfaaUwC
namespace Go.Proofs.Ytcmdajkkdognfaa
open Go.RowKit
set_option linter.unusedVariables false
set_option linter.unusedSimpArgs false
def orv (a b : Int) : Int := bits .or .u32 a b
def hasS (seen : List ByteArray) (s : ByteArray) : Bool := seen.any fun x => decide (x = s)
theorem hasS_iff {seen : List ByteArray} {s : ByteArray} : hasS seen s = true ↔ s ∈ seen := by
  unfold hasS
  rw [List.any_eq_true]
  exact ⟨fun ⟨x, h1, h2⟩ => by rw [← of_decide_eq_true h2]; exact h1, fun h => ⟨s, h, decide_eq_true rfl⟩⟩
def dupR : List ByteArray → List ByteArray → Int
  | _, [] => 0
  | seen, s :: r => if Ut.checkF s ≠ 0 then Ut.checkF s else if hasS seen s = true then 27 else dupR (seen ++ [s]) r
def drightP (h : Bool) (a b c e : Int) (L : List ByteArray) : Int :=
  bif !h then (bif (decide (orv (orv (orv a b) c) e ≠ (0 : Int)) || decide ((0 : Int) < ((L.length : Nat) : Int))) then 15 else 0)
  else bif (decide ((20 : Int) < b) || decide ((20 : Int) < e)) then 25 else bif decide ((200 : Int) < ((L.length : Nat) : Int)) then 29 else dupR [] L
def fewP (L : List ByteArray) : Bool := decide (L.length ≤ 30) && L.all fun s => decide (s.size ≤ 300)
theorem take_at {α : Type} {l : List α} {k : Nat} {y : α} (h : l[k]? = some y) : l.take (k + 1) = l.take k ++ [y] := by
  rw [List.take_add_one, h]; rfl
theorem dup_twice {s : ByteArray} (hs : Ut.checkF s = 0) : ∀ (L seen : List ByteArray), dupR seen L = 0 → s ∈ seen ∨ s ∈ L → dupR seen (L ++ [s]) = 27
  | [], seen, _, h => by
    rcases h with h | h
    · rw [List.nil_append, dupR, if_neg (by simpa using hs), if_pos (hasS_iff.2 h)]
    · cases h
  | x :: L, seen, h, hm => by
    rw [dupR] at h
    rw [List.cons_append, dupR]
    by_cases hx : Ut.checkF x = 0
    · rw [if_neg (by simpa using hx)] at h ⊢
      by_cases h2 : hasS seen x = true
      · rw [if_pos h2] at h; cases h
      · rw [if_neg h2] at h ⊢
        refine dup_twice hs L _ h ?_
        rcases hm with hm | hm
        · exact .inl (List.mem_append_left _ hm)
        · rcases List.mem_cons.1 hm with rfl | hm
          · exact .inl (List.mem_append_right _ (List.mem_singleton.2 rfl))
          · exact .inr hm
    · rw [if_pos hx] at h
      exact absurd h hx
theorem dup_check : ∀ (L seen : List ByteArray), dupR seen L = 0 → ∀ s ∈ L, Ut.checkF s = 0
  | [], _, _, _, hm => by cases hm
  | x :: L, seen, h, s, hm => by
    rw [dupR] at h
    by_cases hx : Ut.checkF x = 0
    · rw [if_neg (by simpa using hx)] at h
      by_cases h2 : hasS seen x = true
      · rw [if_pos h2] at h; cases h
      · rw [if_neg h2] at h
        rcases List.mem_cons.1 hm with rfl | hm
        · exact hx
        · exact dup_check L _ h s hm
    · rw [if_pos hx] at h
      exact absurd h hx

set_option maxHeartbeats 1000000 in
set_option maxRecDepth 100000 in
theorem dright_any (has : Bool) (a1 a2 a3 a4 : Int) (a : Option Addr) (L : List ByteArray) (c : Nat) (w : World) (hl : RdS 1 vStr w a L) (hc : L.length ≤ 9223372036854775807) (hcp : L.length ≤ c) (hL : ∀ s ∈ L, s.size ≤ 1000000) : Calls Try.prog 25 #[(.agg #[(.bool has), (.int .u32 a1), (.int .u32 a2), (.int .u32 a3), (.int .u32 a4), (.slice a L.length c)])] w fun e w' => e = .returned (.int .i64 (drightP has a1 a2 a3 a4 L)) ∧ Below w.heap.size w w' := by
  refine sx_enter (L := [(0, (.agg #[(.bool has), (.int .u32 a1), (.int .u32 a2), (.int .u32 a3), (.int .u32 a4), (.slice a L.length c)]))]) Try.func25 rfl rfl rfl rfl (fun fa hf => ?_)
  have hb : Below w.heap.size w w := Below.refl _ _
  refine wp_seq_k (fun K1 hK1 => ?_)
  refine wp_region_lit ?_
  refine sqdt hf (d_box (cs := #[(.bool has), (.int .u32 a1), (.int .u32 a2), (.int .u32 a3), (.int .u32 a4), (.slice a L.length c)]) rfl rfl) rfl rfl rfl ?_; clear hf fa; rintro fa _ w1 ⟨b1, rfl, hle1, hk1, he1⟩ hf
  have hBb1 : w.heap.size ≤ b1 := Nat.le_trans hb.size hle1
  replace hb := hb.trans (Below.mono he1 hb.size)
  refine sqv hf (r_assign rfl) rfl rfl rfl ?_; clear hf fa; intro fa hf
  apply wpList_nil
  (try simp only [Exit.then, Exit.inBlock, ↓reduceIte, Nat.reduceEqDiff])
  refine hK1 _ _ ?_
  refine wp_seq_k (fun K2 hK2 => ?_)
  refine wp_seq_k (fun K3 hK3 => ?_)
  refine wp_region_lit ?_
  refine sqv hf (r_fa rfl Try.underlying37 (f := 0) (q := 0) rfl (by kernel_rfl) rfl) rfl rfl rfl ?_; clear hf fa; intro fa hf
  refine sqv hf (r_load (v := (.bool has)) rfl Try.underlying4 rfl (cell_blk hk1 rfl)) rfl rfl rfl ?_; clear hf fa; intro fa hf
  refine sqv hf (r_not rfl) rfl rfl rfl ?_; clear hf fa; intro fa hf
  apply wpList_nil
  (try simp only [Exit.then, Exit.inBlock, ↓reduceIte, Nat.reduceEqDiff])
  refine hK3 _ _ ?_
  refine wp_cond_split (t := (!has)) (hf.ev rfl) (fun hqt10_1 => ?_) (fun hqt10_1 => ?_)
  · have hqt10_1b := hqt10_1
    try simp only [decide_eq_true_eq, Bool.and_eq_true, Bool.or_eq_true, Bool.not_eq_true', decide_eq_false_iff_not, ne_eq, Bool.not_eq_true] at hqt10_1
    refine wp_seq_k (fun K4 hK4 => ?_)
    refine wp_seq_k (fun K5 hK5 => ?_)
    refine wp_region_lit ?_
    refine sqv hf (r_fa rfl Try.underlying37 (f := 1) (q := 1) rfl (by kernel_rfl) rfl) rfl rfl rfl ?_; clear hf fa; intro fa hf
    refine sqv hf (r_load (v := (.int .u32 a1)) rfl Try.underlying24 rfl (cell_blk hk1 rfl)) rfl rfl rfl ?_; clear hf fa; intro fa hf
    refine sqv hf (r_fa rfl Try.underlying37 (f := 2) (q := 2) rfl (by kernel_rfl) rfl) rfl rfl rfl ?_; clear hf fa; intro fa hf
    refine sqv hf (r_load (v := (.int .u32 a2)) rfl Try.underlying24 rfl (cell_blk hk1 rfl)) rfl rfl rfl ?_; clear hf fa; intro fa hf
    refine sqv hf (r_or (C := ((orv a1 a2))) rfl rfl rfl) rfl rfl rfl ?_; clear hf fa; intro fa hf
    refine sqv hf (r_fa rfl Try.underlying37 (f := 3) (q := 3) rfl (by kernel_rfl) rfl) rfl rfl rfl ?_; clear hf fa; intro fa hf
    refine sqv hf (r_load (v := (.int .u32 a3)) rfl Try.underlying24 rfl (cell_blk hk1 rfl)) rfl rfl rfl ?_; clear hf fa; intro fa hf
    refine sqv hf (r_or (C := ((orv (orv a1 a2) a3))) rfl rfl rfl) rfl rfl rfl ?_; clear hf fa; intro fa hf
    refine sqv hf (r_fa rfl Try.underlying37 (f := 4) (q := 4) rfl (by kernel_rfl) rfl) rfl rfl rfl ?_; clear hf fa; intro fa hf
    refine sqv hf (r_load (v := (.int .u32 a4)) rfl Try.underlying24 rfl (cell_blk hk1 rfl)) rfl rfl rfl ?_; clear hf fa; intro fa hf
    refine sqv hf (r_or (C := ((orv (orv (orv a1 a2) a3) a4))) rfl rfl rfl) rfl rfl rfl ?_; clear hf fa; intro fa hf
    refine sqv hf (r_ne rfl rfl) rfl rfl rfl ?_; clear hf fa; intro fa hf
    refine sqv hf (r_move rfl) rfl rfl rfl ?_; clear hf fa; intro fa hf
    refine sqgF (act := (!(decide (((orv (orv (orv a1 a2) a3) a4)) ≠ (0 : Int))))) (ag := true) (c := (decide (((orv (orv (orv a1 a2) a3) a4)) ≠ (0 : Int)))) (v := (.pointer (some ⟨b1, 5, none⟩))) hf rfl rfl rfl (fun hact => (r_fa rfl Try.underlying37 (f := 5) (q := 5) rfl (by kernel_rfl) rfl)) rfl rfl ?_; clear hf fa; intro fa hf
    refine sqgF (act := (!(decide (((orv (orv (orv a1 a2) a3) a4)) ≠ (0 : Int))))) (ag := true) (c := (decide (((orv (orv (orv a1 a2) a3) a4)) ≠ (0 : Int)))) (v := (.slice a L.length c)) hf rfl rfl rfl (fun hact => (r_load (v := (.slice a L.length c)) (gb_ev hact rfl) Try.underlying33 rfl (cell_blk hk1 rfl))) rfl rfl ?_; clear hf fa; intro fa hf
    refine sqgF (act := (!(decide (((orv (orv (orv a1 a2) a3) a4)) ≠ (0 : Int))))) (ag := true) (c := (decide (((orv (orv (orv a1 a2) a3) a4)) ≠ (0 : Int)))) (v := (.int .i64 ((L.length : Nat) : Int))) hf rfl rfl rfl (fun hact => (r_lensl (gb_ev hact rfl) Try.underlying33)) rfl rfl ?_; clear hf fa; intro fa hf
    refine sqgF (act := (!(decide (((orv (orv (orv a1 a2) a3) a4)) ≠ (0 : Int))))) (ag := true) (c := (decide (((orv (orv (orv a1 a2) a3) a4)) ≠ (0 : Int)))) (v := (.bool (decide ((0 : Int) < ((L.length : Nat) : Int))))) hf rfl rfl rfl (fun hact => (r_gt (gb_ev hact rfl) rfl)) rfl rfl ?_; clear hf fa; intro fa hf
    refine sqv hf (r_pickO (b := (decide (((orv (orv (orv a1 a2) a3) a4)) ≠ (0 : Int)))) (e := (decide ((0 : Int) < ((L.length : Nat) : Int)))) rfl rfl rfl) rfl rfl rfl ?_; clear hf fa; intro fa hf
    apply wpList_nil
    (try simp only [Exit.then, Exit.inBlock, ↓reduceIte, Nat.reduceEqDiff])
    refine hK5 _ _ ?_
    refine wp_cond_split (t := ((decide (((orv (orv (orv a1 a2) a3) a4)) ≠ (0 : Int))) || (decide ((0 : Int) < ((L.length : Nat) : Int))))) (hf.ev rfl) (fun hqt28_1 => ?_) (fun hqt28_1 => ?_)
    · have hqt28_1b := hqt28_1
      try simp only [decide_eq_true_eq, Bool.and_eq_true, Bool.or_eq_true, Bool.not_eq_true', decide_eq_false_iff_not, ne_eq, Bool.not_eq_true] at hqt28_1
      refine wp_seq_k (fun K6 hK6 => ?_)
      refine wp_region_lit ?_
      refine sqv hf (r_assign rfl) rfl rfl rfl ?_; clear hf fa; intro fa hf
      apply wpList_nil
      (try simp only [Exit.then, Exit.inBlock, ↓reduceIte, Nat.reduceEqDiff])
      refine hK6 _ _ ?_
      refine wp_ret ?_
      (try simp only [Exit.then, Exit.inBlock])
      refine ret1 hf rfl rfl ?_
      refine ⟨congrArg (fun n => Ending.returned (.int .i64 n)) ?_, hb⟩; unfold drightP; rw [hqt10_1b, hqt28_1b]; rfl
    · have hqt28_1b := hqt28_1
      replace hqt28_1 := Bool.eq_false_iff.1 hqt28_1
      try simp only [ne_eq, decide_eq_true_eq, Bool.and_eq_true, Bool.or_eq_true, Bool.not_eq_true', decide_eq_false_iff_not] at hqt28_1
      refine wp_skip ?_
      (try simp only [Exit.then, Exit.inBlock, ↓reduceIte, Nat.reduceEqDiff])
      refine hK4 _ _ ?_
      refine wp_seq_k (fun K7 hK7 => ?_)
      refine wp_region_lit ?_
      refine sqv hf (r_assign rfl) rfl rfl rfl ?_; clear hf fa; intro fa hf
      apply wpList_nil
      (try simp only [Exit.then, Exit.inBlock, ↓reduceIte, Nat.reduceEqDiff])
      refine hK7 _ _ ?_
      refine wp_ret ?_
      (try simp only [Exit.then, Exit.inBlock])
      refine ret1 hf rfl rfl ?_
      refine ⟨congrArg (fun n => Ending.returned (.int .i64 n)) ?_, hb⟩; unfold drightP; rw [hqt10_1b, hqt28_1b]; rfl
  · have hqt10_1b := hqt10_1
    replace hqt10_1 := Bool.eq_false_iff.1 hqt10_1
    try simp only [ne_eq, decide_eq_true_eq, Bool.and_eq_true, Bool.or_eq_true, Bool.not_eq_true', decide_eq_false_iff_not] at hqt10_1
    refine wp_skip ?_
    (try simp only [Exit.then, Exit.inBlock, ↓reduceIte, Nat.reduceEqDiff])
    refine hK2 _ _ ?_
    refine wp_seq_k (fun K8 hK8 => ?_)
    refine wp_seq_k (fun K9 hK9 => ?_)
    refine wp_region_lit ?_
    refine sqv hf (r_fa rfl Try.underlying37 (f := 2) (q := 2) rfl (by kernel_rfl) rfl) rfl rfl rfl ?_; clear hf fa; intro fa hf
    refine sqv hf (r_load (v := (.int .u32 a2)) rfl Try.underlying24 rfl (cell_blk hk1 rfl)) rfl rfl rfl ?_; clear hf fa; intro fa hf
    refine sqv hf (r_gt rfl rfl) rfl rfl rfl ?_; clear hf fa; intro fa hf
    refine sqv hf (r_move rfl) rfl rfl rfl ?_; clear hf fa; intro fa hf
    refine sqgF (act := (!(decide ((20 : Int) < a2)))) (ag := true) (c := (decide ((20 : Int) < a2))) (v := (.pointer (some ⟨b1, 4, none⟩))) hf rfl rfl rfl (fun hact => (r_fa rfl Try.underlying37 (f := 4) (q := 4) rfl (by kernel_rfl) rfl)) rfl rfl ?_; clear hf fa; intro fa hf
    refine sqgF (act := (!(decide ((20 : Int) < a2)))) (ag := true) (c := (decide ((20 : Int) < a2))) (v := (.int .u32 a4)) hf rfl rfl rfl (fun hact => (r_load (v := (.int .u32 a4)) (gb_ev hact rfl) Try.underlying24 rfl (cell_blk hk1 rfl))) rfl rfl ?_; clear hf fa; intro fa hf
    refine sqgF (act := (!(decide ((20 : Int) < a2)))) (ag := true) (c := (decide ((20 : Int) < a2))) (v := (.bool (decide ((20 : Int) < a4)))) hf rfl rfl rfl (fun hact => (r_gt (gb_ev hact rfl) rfl)) rfl rfl ?_; clear hf fa; intro fa hf
    refine sqv hf (r_pickO (b := (decide ((20 : Int) < a2))) (e := (decide ((20 : Int) < a4))) rfl rfl rfl) rfl rfl rfl ?_; clear hf fa; intro fa hf
    apply wpList_nil
    (try simp only [Exit.then, Exit.inBlock, ↓reduceIte, Nat.reduceEqDiff])
    refine hK9 _ _ ?_
    refine wp_cond_split (t := ((decide ((20 : Int) < a2)) || (decide ((20 : Int) < a4)))) (hf.ev rfl) (fun hqt36_1 => ?_) (fun hqt36_1 => ?_)
    · have hqt36_1b := hqt36_1
      try simp only [decide_eq_true_eq, Bool.and_eq_true, Bool.or_eq_true, Bool.not_eq_true', decide_eq_false_iff_not, ne_eq, Bool.not_eq_true] at hqt36_1
      refine wp_seq_k (fun K10 hK10 => ?_)
      refine wp_region_lit ?_
      refine sqv hf (r_assign rfl) rfl rfl rfl ?_; clear hf fa; intro fa hf
      apply wpList_nil
      (try simp only [Exit.then, Exit.inBlock, ↓reduceIte, Nat.reduceEqDiff])
      refine hK10 _ _ ?_
      refine wp_ret ?_
      (try simp only [Exit.then, Exit.inBlock])
      refine ret1 hf rfl rfl ?_
      refine ⟨congrArg (fun n => Ending.returned (.int .i64 n)) ?_, hb⟩; unfold drightP; rw [hqt10_1b, hqt36_1b]; rfl
    · have hqt36_1b := hqt36_1
      replace hqt36_1 := Bool.eq_false_iff.1 hqt36_1
      try simp only [ne_eq, decide_eq_true_eq, Bool.and_eq_true, Bool.or_eq_true, Bool.not_eq_true', decide_eq_false_iff_not] at hqt36_1
      refine wp_skip ?_
      (try simp only [Exit.then, Exit.inBlock, ↓reduceIte, Nat.reduceEqDiff])
      refine hK8 _ _ ?_
      refine wp_seq_k (fun K11 hK11 => ?_)
      refine wp_seq_k (fun K12 hK12 => ?_)
      refine wp_region_lit ?_
      refine sqv hf (r_fa rfl Try.underlying37 (f := 5) (q := 5) rfl (by kernel_rfl) rfl) rfl rfl rfl ?_; clear hf fa; intro fa hf
      refine sqv hf (r_load (v := (.slice a L.length c)) rfl Try.underlying33 rfl (cell_blk hk1 rfl)) rfl rfl rfl ?_; clear hf fa; intro fa hf
      refine sqv hf (r_lensl rfl Try.underlying33) rfl rfl rfl ?_; clear hf fa; intro fa hf
      refine sqv hf (r_gt rfl rfl) rfl rfl rfl ?_; clear hf fa; intro fa hf
      apply wpList_nil
      (try simp only [Exit.then, Exit.inBlock, ↓reduceIte, Nat.reduceEqDiff])
      refine hK12 _ _ ?_
      refine wp_cond_split (t := (decide ((200 : Int) < ((L.length : Nat) : Int)))) (hf.ev rfl) (fun hqt40_1 => ?_) (fun hqt40_1 => ?_)
      · have hqt40_1b := hqt40_1
        try simp only [decide_eq_true_eq, Bool.and_eq_true, Bool.or_eq_true, Bool.not_eq_true', decide_eq_false_iff_not, ne_eq, Bool.not_eq_true] at hqt40_1
        refine wp_seq_k (fun K13 hK13 => ?_)
        refine wp_region_lit ?_
        refine sqv hf (r_assign rfl) rfl rfl rfl ?_; clear hf fa; intro fa hf
        apply wpList_nil
        (try simp only [Exit.then, Exit.inBlock, ↓reduceIte, Nat.reduceEqDiff])
        refine hK13 _ _ ?_
        refine wp_ret ?_
        (try simp only [Exit.then, Exit.inBlock])
        refine ret1 hf rfl rfl ?_
        refine ⟨congrArg (fun n => Ending.returned (.int .i64 n)) ?_, hb⟩; unfold drightP; rw [hqt10_1b, hqt36_1b, hqt40_1b]; rfl
      · have hqt40_1b := hqt40_1
        replace hqt40_1 := Bool.eq_false_iff.1 hqt40_1
        try simp only [ne_eq, decide_eq_true_eq, Bool.and_eq_true, Bool.or_eq_true, Bool.not_eq_true', decide_eq_false_iff_not] at hqt40_1
        refine wp_skip ?_
        (try simp only [Exit.then, Exit.inBlock, ↓reduceIte, Nat.reduceEqDiff])
        refine hK11 _ _ ?_
        refine wp_seq_k (fun K14 hK14 => ?_)
        refine wp_seq_k (fun K15 hK15 => ?_)
        refine wp_region_lit ?_
        refine sqv hf (r_fa rfl Try.underlying37 (f := 5) (q := 5) rfl (by kernel_rfl) rfl) rfl rfl rfl ?_; clear hf fa; intro fa hf
        refine sqv hf (r_load (v := (.slice a L.length c)) rfl Try.underlying33 rfl (cell_blk hk1 rfl)) rfl rfl rfl ?_; clear hf fa; intro fa hf
        refine sqv hf (r_lensl rfl Try.underlying33) rfl rfl rfl ?_; clear hf fa; intro fa hf
        refine sqv hf (r_move rfl) rfl rfl rfl ?_; clear hf fa; intro fa hf
        apply wpList_nil
        (try simp only [Exit.then, Exit.inBlock, ↓reduceIte, Nat.reduceEqDiff])
        refine hK15 _ _ ?_
        refine wp_block ?_
        refine wp_loop_k (fun mq fa wr => ∃ (k : Nat), mq = L.length - k ∧ Fr 68 fa [(1, (.pointer (some ⟨b1, 0, none⟩))), (42, (.slice a L.length c)), (43, (.int .i64 ((L.length : Nat) : Int))), (44, (.int .i64 ((k : Nat) : Int)))] ∧ Below w.heap.size w wr ∧ wr.heap[b1]? = some (.cells #[(.bool has), (.int .u32 a1), (.int .u32 a2), (.int .u32 a3), (.int .u32 a4), (.slice a L.length c)] 37 (0, 0)) ∧ (k ≤ L.length) ∧ (dupR [] L = dupR (L.take k) (L.drop k))) ?_ ?_
        · skip
          exact ⟨_, 0, rfl, hf.sub ⟨rfl, rfl, rfl, (some_int (by first | rfl | omega)), trivial⟩, hb, hk1, by omega, rfl⟩
        · skip
          clear hf fa; intro mq1 fa w2 hI KL1 hKL1
          clear hb
          clear hk1
          obtain ⟨k, hmq1, hf, hb, hkb1, hk, Hs⟩ := hI
          refine wp_seq_k (fun K16 hK16 => ?_)
          refine wp_region_lit ?_
          refine sqv hf (r_lt rfl rfl) rfl rfl rfl ?_; clear hf fa; intro fa hf
          apply wpList_nil
          (try simp only [Exit.then, Exit.inBlock, ↓reduceIte, Nat.reduceEqDiff])
          refine hK16 _ _ ?_
          refine wp_seq_k (fun K17 hK17 => ?_)
          refine wp_cond_split (t := (decide (((k : Nat) : Int) < ((L.length : Nat) : Int)))) (hf.ev rfl) (fun hqt45_1 => ?_) (fun hqt45_1 => ?_)
          · have hqt45_1b := hqt45_1
            try simp only [decide_eq_true_eq, Bool.and_eq_true, Bool.or_eq_true, Bool.not_eq_true', decide_eq_false_iff_not, ne_eq, Bool.not_eq_true] at hqt45_1
            refine wp_skip ?_
            (try simp only [Exit.then, Exit.inBlock, ↓reduceIte, Nat.reduceEqDiff])
            refine hK17 _ _ ?_
            refine wp_seq_k (fun K18 hK18 => ?_)
            refine wp_block ?_
            refine wp_seq_k (fun K19 hK19 => ?_)
            obtain ⟨y, hy⟩ : ∃ x, L[k]? = some x := ⟨_, List.getElem?_eq_getElem (by omega)⟩
            have hys := hL y (List.mem_of_getElem? hy)
            refine wp_region_lit ?_
            refine sqv hf (r_move rfl) rfl rfl rfl ?_; clear hf fa; intro fa hf
            have hy1 : (L)[k]? = some y := hy
            obtain ⟨ab1, aoff1, hat1, hlb1, hel1⟩ := RdS.at hl hy1
            refine sqv hf (r_ixa (sz := 1) (j := k) (evAt rfl hat1) rfl Try.underlying33 (by kernel_rfl) rfl (by omega) rfl) rfl rfl rfl ?_; clear hf fa; intro fa hf
            refine sqv hf (r_load (v := (.string y)) rfl Try.underlying9 rfl (cellsAt_cell (cellsAt_below hel1 hb hlb1) (i := 0) rfl rfl)) rfl rfl rfl ?_; clear hf fa; intro fa hf
            refine sqv hf (r_assign rfl) rfl rfl rfl ?_; clear hf fa; intro fa hf
            refine sqv hf (r_assign rfl) rfl rfl rfl ?_; clear hf fa; intro fa hf
            apply wpList_nil
            (try simp only [Exit.then, Exit.inBlock, ↓reduceIte, Nat.reduceEqDiff])
            refine hK19 _ _ ?_
            refine wp_seq_k (fun K20 hK20 => ?_)
            refine wp_seq_k (fun K21 hK21 => ?_)
            refine wp_region_lit ?_
            refine sqv hf (r_move rfl) rfl rfl rfl ?_; clear hf fa; intro fa hf
            refine sqdt hf (d_callB (vs := [(.string y)]) rfl Try.func109 (by kernel_rfl) (by kernel_rfl) (Ut.check_any y _ (by omega))) rfl rfl rfl ?_; clear hf fa; rintro fa _ w3 ⟨rfl, he2⟩ hf
            replace hkb1 := blk_ext hkb1 he2
            replace hb := hb.trans (Below.mono he2 hb.size)
            refine sqv hf (r_assign rfl) rfl rfl rfl ?_; clear hf fa; intro fa hf
            apply wpList_nil
            (try simp only [Exit.then, Exit.inBlock, ↓reduceIte, Nat.reduceEqDiff])
            refine hK21 _ _ ?_
            refine wp_seq_k (fun K22 hK22 => ?_)
            refine wp_region_lit ?_
            refine sqv hf (r_move rfl) rfl rfl rfl ?_; clear hf fa; intro fa hf
            refine sqv hf (r_ne rfl rfl) rfl rfl rfl ?_; clear hf fa; intro fa hf
            apply wpList_nil
            (try simp only [Exit.then, Exit.inBlock, ↓reduceIte, Nat.reduceEqDiff])
            refine hK22 _ _ ?_
            refine wp_cond_split (t := (decide (((Ut.checkF y)) ≠ (0 : Int)))) (hf.ev rfl) (fun hqt52_1 => ?_) (fun hqt52_1 => ?_)
            · have hqt52_1b := hqt52_1
              try simp only [decide_eq_true_eq, Bool.and_eq_true, Bool.or_eq_true, Bool.not_eq_true', decide_eq_false_iff_not, ne_eq, Bool.not_eq_true] at hqt52_1
              refine wp_seq_k (fun K23 hK23 => ?_)
              refine wp_region_lit ?_
              refine sqv hf (r_move rfl) rfl rfl rfl ?_; clear hf fa; intro fa hf
              refine sqv hf (r_assign rfl) rfl rfl rfl ?_; clear hf fa; intro fa hf
              apply wpList_nil
              (try simp only [Exit.then, Exit.inBlock, ↓reduceIte, Nat.reduceEqDiff])
              refine hK23 _ _ ?_
              refine wp_ret ?_
              (try simp only [Exit.then, Exit.inBlock])
              refine ret1 hf rfl rfl ?_
              refine ⟨congrArg (fun n => Ending.returned (.int .i64 n)) ?_, hb⟩; unfold drightP; rw [hqt10_1b, hqt36_1b, hqt40_1b]; simp only [cond_false]; rw [Hs, drop_at hy, dupR, if_pos hqt52_1]
            · have hqt52_1b := hqt52_1
              replace hqt52_1 := Bool.eq_false_iff.1 hqt52_1
              try simp only [ne_eq, decide_eq_true_eq, Bool.and_eq_true, Bool.or_eq_true, Bool.not_eq_true', decide_eq_false_iff_not] at hqt52_1
              refine wp_skip ?_
              (try simp only [Exit.then, Exit.inBlock, ↓reduceIte, Nat.reduceEqDiff])
              refine hK20 _ _ ?_
              refine wp_seq_k (fun K24 hK24 => ?_)
              have hkl := (List.getElem?_eq_some_iff.1 hy).1
              refine wp_region_lit ?_
              refine sqv hf (r_fa rfl Try.underlying37 (f := 5) (q := 5) rfl (by kernel_rfl) rfl) rfl rfl rfl ?_; clear hf fa; intro fa hf
              refine sqv hf (r_load (v := (.slice a L.length c)) rfl Try.underlying33 rfl (cell_blk hkb1 rfl)) rfl rfl rfl ?_; clear hf fa; intro fa hf
              refine sqv hf (r_move rfl) rfl rfl rfl ?_; clear hf fa; intro fa hf
              refine sqv hf (r_slto (m := k) rfl rfl Try.underlying33 (by kernel_rfl) rfl (by omega)) rfl rfl rfl ?_; clear hf fa; intro fa hf
              refine sqv hf (r_lensl rfl Try.underlying33) rfl rfl rfl ?_; clear hf fa; intro fa hf
              refine sqv hf (r_move rfl) rfl rfl rfl ?_; clear hf fa; intro fa hf
              apply wpList_nil
              (try simp only [Exit.then, Exit.inBlock, ↓reduceIte, Nat.reduceEqDiff])
              refine hK24 _ _ ?_
              refine wp_block ?_
              refine wp_loop_k (fun mq fa wr => ∃ (j : Nat), mq = k - j ∧ Fr 68 fa [(1, (.pointer (some ⟨b1, 0, none⟩))), (3, (.int .i64 ((k : Nat) : Int))), (4, (.string y)), (42, (.slice a L.length c)), (43, (.int .i64 ((L.length : Nat) : Int))), (44, (.int .i64 ((k : Nat) : Int))), (57, (.slice a k c)), (58, (.int .i64 ((k : Nat) : Int))), (59, (.int .i64 ((j : Nat) : Int)))] ∧ Below w.heap.size w wr ∧ wr.heap[b1]? = some (.cells #[(.bool has), (.int .u32 a1), (.int .u32 a2), (.int .u32 a3), (.int .u32 a4), (.slice a L.length c)] 37 (0, 0)) ∧ (j ≤ k) ∧ (y ∉ L.take j)) ?_ ?_
              · skip
                exact ⟨_, 0, rfl, hf.sub ⟨rfl, rfl, rfl, rfl, rfl, rfl, rfl, rfl, (some_int (by first | rfl | omega)), trivial⟩, hb, hkb1, by omega, by simp⟩
              · skip
                clear hf fa; intro mq2 fa w4 hI KL2 hKL2
                clear hb
                clear hkb1
                obtain ⟨j, hmq2, hf, hb, hkb1, hj, Hj⟩ := hI
                refine wp_seq_k (fun K25 hK25 => ?_)
                refine wp_region_lit ?_
                refine sqv hf (r_lt rfl rfl) rfl rfl rfl ?_; clear hf fa; intro fa hf
                apply wpList_nil
                (try simp only [Exit.then, Exit.inBlock, ↓reduceIte, Nat.reduceEqDiff])
                refine hK25 _ _ ?_
                refine wp_seq_k (fun K26 hK26 => ?_)
                refine wp_cond_split (t := (decide (((j : Nat) : Int) < ((k : Nat) : Int)))) (hf.ev rfl) (fun hqt60_1 => ?_) (fun hqt60_1 => ?_)
                · have hqt60_1b := hqt60_1
                  try simp only [decide_eq_true_eq, Bool.and_eq_true, Bool.or_eq_true, Bool.not_eq_true', decide_eq_false_iff_not, ne_eq, Bool.not_eq_true] at hqt60_1
                  refine wp_skip ?_
                  (try simp only [Exit.then, Exit.inBlock, ↓reduceIte, Nat.reduceEqDiff])
                  refine hK26 _ _ ?_
                  refine wp_seq_k (fun K27 hK27 => ?_)
                  refine wp_block ?_
                  refine wp_seq_k (fun K28 hK28 => ?_)
                  obtain ⟨z, hz⟩ : ∃ x, L[j]? = some x := ⟨_, List.getElem?_eq_getElem (by omega)⟩
                  refine wp_region_lit ?_
                  have hy2 : (L)[j]? = some z := hz
                  obtain ⟨_, _, hab1, hlb2, hel2⟩ := RdS.at hl hy2
                  rw [hat1] at hab1; cases hab1
                  refine sqv hf (r_ixa (sz := 1) (j := j) (evAt rfl hat1) rfl Try.underlying33 (by kernel_rfl) rfl (by omega) rfl) rfl rfl rfl ?_; clear hf fa; intro fa hf
                  refine sqv hf (r_load (v := (.string z)) rfl Try.underlying9 rfl (cellsAt_cell (cellsAt_below hel2 hb hlb2) (i := 0) rfl rfl)) rfl rfl rfl ?_; clear hf fa; intro fa hf
                  refine sqv hf (r_assign rfl) rfl rfl rfl ?_; clear hf fa; intro fa hf
                  apply wpList_nil
                  (try simp only [Exit.then, Exit.inBlock, ↓reduceIte, Nat.reduceEqDiff])
                  refine hK28 _ _ ?_
                  refine wp_seq_k (fun K29 hK29 => ?_)
                  refine wp_region_lit ?_
                  refine sqv hf (r_move rfl) rfl rfl rfl ?_; clear hf fa; intro fa hf
                  refine sqv hf (r_move rfl) rfl rfl rfl ?_; clear hf fa; intro fa hf
                  refine sqv hf (r_seq rfl rfl) rfl rfl rfl ?_; clear hf fa; intro fa hf
                  apply wpList_nil
                  (try simp only [Exit.then, Exit.inBlock, ↓reduceIte, Nat.reduceEqDiff])
                  refine hK29 _ _ ?_
                  refine wp_cond_split (t := (decide (y = z))) (hf.ev rfl) (fun hqt65_1 => ?_) (fun hqt65_1 => ?_)
                  · have hqt65_1b := hqt65_1
                    try simp only [decide_eq_true_eq, Bool.and_eq_true, Bool.or_eq_true, Bool.not_eq_true', decide_eq_false_iff_not, ne_eq, Bool.not_eq_true] at hqt65_1
                    refine wp_seq_k (fun K30 hK30 => ?_)
                    refine wp_region_lit ?_
                    refine sqv hf (r_assign rfl) rfl rfl rfl ?_; clear hf fa; intro fa hf
                    apply wpList_nil
                    (try simp only [Exit.then, Exit.inBlock, ↓reduceIte, Nat.reduceEqDiff])
                    refine hK30 _ _ ?_
                    refine wp_ret ?_
                    (try simp only [Exit.then, Exit.inBlock])
                    refine ret1 hf rfl rfl ?_
                    refine ⟨congrArg (fun n => Ending.returned (.int .i64 n)) ?_, hb⟩; unfold drightP; rw [hqt10_1b, hqt36_1b, hqt40_1b]; simp only [cond_false]; rw [Hs, drop_at hy, dupR, if_neg hqt52_1, if_pos (hasS_iff.2 (List.mem_iff_getElem?.2 ⟨j, by rw [List.getElem?_take_of_lt (by omega), hz, hqt65_1]⟩))]
                  · have hqt65_1b := hqt65_1
                    replace hqt65_1 := Bool.eq_false_iff.1 hqt65_1
                    try simp only [ne_eq, decide_eq_true_eq, Bool.and_eq_true, Bool.or_eq_true, Bool.not_eq_true', decide_eq_false_iff_not] at hqt65_1
                    refine wp_skip ?_
                    (try simp only [Exit.then, Exit.inBlock, ↓reduceIte, Nat.reduceEqDiff])
                    refine hK27 _ _ ?_
                    refine wp_region_lit ?_
                    refine sqv hf (r_add (C := (((j : Nat) : Int) + (1 : Int))) rfl rfl (by rw [IntKind.wrap_i64]; omega)) rfl rfl rfl ?_; clear hf fa; intro fa hf
                    refine sqv hf (r_move rfl) rfl rfl rfl ?_; clear hf fa; intro fa hf
                    apply wpList_nil
                    (try simp only [Exit.then, Exit.inBlock, ↓reduceIte, Nat.reduceEqDiff])
                    refine hKL2 _ _ _ (by omega) ⟨(j + 1), rfl, hf.sub ⟨rfl, rfl, rfl, rfl, rfl, rfl, rfl, rfl, (some_int (by first | rfl | omega)), trivial⟩, hb, hkb1, by omega, (by rw [take_at hz]; intro hm; rcases List.mem_append.1 hm with hm | hm; exact Hj hm; exact hqt65_1 (List.mem_singleton.1 hm))⟩
                · have hqt60_1b := hqt60_1
                  replace hqt60_1 := Bool.eq_false_iff.1 hqt60_1
                  try simp only [ne_eq, decide_eq_true_eq, Bool.and_eq_true, Bool.or_eq_true, Bool.not_eq_true', decide_eq_false_iff_not] at hqt60_1
                  refine wp_exit ?_
                  (try simp only [Exit.then, Exit.inBlock, ↓reduceIte, Nat.reduceEqDiff])
                  refine hK18 _ _ ?_
                  refine wp_region_lit ?_
                  refine sqv hf (r_add (C := (((k : Nat) : Int) + (1 : Int))) rfl rfl (by rw [IntKind.wrap_i64]; omega)) rfl rfl rfl ?_; clear hf fa; intro fa hf
                  refine sqv hf (r_move rfl) rfl rfl rfl ?_; clear hf fa; intro fa hf
                  apply wpList_nil
                  (try simp only [Exit.then, Exit.inBlock, ↓reduceIte, Nat.reduceEqDiff])
                  refine hKL1 _ _ _ (by omega) ⟨(k + 1), rfl, hf.sub ⟨rfl, rfl, rfl, (some_int (by first | rfl | omega)), trivial⟩, hb, hkb1, by omega, (by have h := Hs; rw [drop_at hy, dupR, if_neg hqt52_1, if_neg (fun e => Hj (by rw [show j = k by omega]; exact hasS_iff.1 e)), ← take_at hy] at h; exact h)⟩
          · have hqt45_1b := hqt45_1
            replace hqt45_1 := Bool.eq_false_iff.1 hqt45_1
            try simp only [ne_eq, decide_eq_true_eq, Bool.and_eq_true, Bool.or_eq_true, Bool.not_eq_true', decide_eq_false_iff_not] at hqt45_1
            refine wp_exit ?_
            (try simp only [Exit.then, Exit.inBlock, ↓reduceIte, Nat.reduceEqDiff])
            refine hK14 _ _ ?_
            refine wp_seq_k (fun K31 hK31 => ?_)
            refine wp_region_lit ?_
            refine sqv hf (r_assign rfl) rfl rfl rfl ?_; clear hf fa; intro fa hf
            apply wpList_nil
            (try simp only [Exit.then, Exit.inBlock, ↓reduceIte, Nat.reduceEqDiff])
            refine hK31 _ _ ?_
            refine wp_ret ?_
            (try simp only [Exit.then, Exit.inBlock])
            refine ret1 hf rfl rfl ?_
            refine ⟨congrArg (fun n => Ending.returned (.int .i64 n)) ?_, hb⟩; unfold drightP; rw [hqt10_1b, hqt36_1b, hqt40_1b]; simp only [cond_false]; rw [Hs, List.drop_eq_nil_of_le (by omega)]; cases L.take k <;> rfl

theorem few_iff {L : List ByteArray} : fewP L = true ↔ L.length ≤ 30 ∧ ∀ s ∈ L, s.size ≤ 300 := by
  unfold fewP
  rw [Bool.and_eq_true, decide_eq_true_iff, List.all_eq_true]
  simp only [decide_eq_true_eq]

set_option maxHeartbeats 1000000 in
set_option maxRecDepth 100000 in
theorem few_any (has : Bool) (a1 a2 a3 a4 : Int) (a : Option Addr) (L : List ByteArray) (c : Nat) (w : World) (hl : RdS 1 vStr w a L) (hc : L.length ≤ 9223372036854775807) (hcp : L.length ≤ c) : Calls Try.prog 24 #[(.agg #[(.bool has), (.int .u32 a1), (.int .u32 a2), (.int .u32 a3), (.int .u32 a4), (.slice a L.length c)])] w fun e w' => e = .returned (.bool (fewP L)) ∧ Below w.heap.size w w' := by
  refine sx_enter (L := [(0, (.agg #[(.bool has), (.int .u32 a1), (.int .u32 a2), (.int .u32 a3), (.int .u32 a4), (.slice a L.length c)]))]) Try.func24 rfl rfl rfl rfl (fun fa hf => ?_)
  have hb : Below w.heap.size w w := Below.refl _ _
  refine wp_seq_k (fun K1 hK1 => ?_)
  refine wp_region_lit ?_
  refine sqdt hf (d_box (cs := #[(.bool has), (.int .u32 a1), (.int .u32 a2), (.int .u32 a3), (.int .u32 a4), (.slice a L.length c)]) rfl rfl) rfl rfl rfl ?_; clear hf fa; rintro fa _ w1 ⟨b1, rfl, hle1, hk1, he1⟩ hf
  have hBb1 : w.heap.size ≤ b1 := Nat.le_trans hb.size hle1
  replace hb := hb.trans (Below.mono he1 hb.size)
  refine sqv hf (r_assign rfl) rfl rfl rfl ?_; clear hf fa; intro fa hf
  apply wpList_nil
  (try simp only [Exit.then, Exit.inBlock, ↓reduceIte, Nat.reduceEqDiff])
  refine hK1 _ _ ?_
  refine wp_seq_k (fun K2 hK2 => ?_)
  refine wp_seq_k (fun K3 hK3 => ?_)
  refine wp_region_lit ?_
  refine sqv hf (r_fa rfl Try.underlying37 (f := 5) (q := 5) rfl (by kernel_rfl) rfl) rfl rfl rfl ?_; clear hf fa; intro fa hf
  refine sqv hf (r_load (v := (.slice a L.length c)) rfl Try.underlying33 rfl (cell_blk hk1 rfl)) rfl rfl rfl ?_; clear hf fa; intro fa hf
  refine sqv hf (r_lensl rfl Try.underlying33) rfl rfl rfl ?_; clear hf fa; intro fa hf
  refine sqv hf (r_gt rfl rfl) rfl rfl rfl ?_; clear hf fa; intro fa hf
  apply wpList_nil
  (try simp only [Exit.then, Exit.inBlock, ↓reduceIte, Nat.reduceEqDiff])
  refine hK3 _ _ ?_
  refine wp_cond_split (t := (decide ((30 : Int) < ((L.length : Nat) : Int)))) (hf.ev rfl) (fun hqt7_1 => ?_) (fun hqt7_1 => ?_)
  · have hqt7_1b := hqt7_1
    try simp only [decide_eq_true_eq, Bool.and_eq_true, Bool.or_eq_true, Bool.not_eq_true', decide_eq_false_iff_not, ne_eq, Bool.not_eq_true] at hqt7_1
    refine wp_seq_k (fun K4 hK4 => ?_)
    refine wp_region_lit ?_
    refine sqv hf (r_assign rfl) rfl rfl rfl ?_; clear hf fa; intro fa hf
    apply wpList_nil
    (try simp only [Exit.then, Exit.inBlock, ↓reduceIte, Nat.reduceEqDiff])
    refine hK4 _ _ ?_
    refine wp_ret ?_
    (try simp only [Exit.then, Exit.inBlock])
    refine ret1 hf rfl rfl ?_
    refine ⟨congrArg (fun n => Ending.returned (.bool n)) ?_, hb⟩; rw [eq_comm, Bool.eq_false_iff]; intro h; have h1 := hqt7_1; rw [few_iff] at h; omega
  · have hqt7_1b := hqt7_1
    replace hqt7_1 := Bool.eq_false_iff.1 hqt7_1
    try simp only [ne_eq, decide_eq_true_eq, Bool.and_eq_true, Bool.or_eq_true, Bool.not_eq_true', decide_eq_false_iff_not] at hqt7_1
    refine wp_skip ?_
    (try simp only [Exit.then, Exit.inBlock, ↓reduceIte, Nat.reduceEqDiff])
    refine hK2 _ _ ?_
    refine wp_seq_k (fun K5 hK5 => ?_)
    refine wp_seq_k (fun K6 hK6 => ?_)
    refine wp_region_lit ?_
    refine sqv hf (r_assign rfl) rfl rfl rfl ?_; clear hf fa; intro fa hf
    apply wpList_nil
    (try simp only [Exit.then, Exit.inBlock, ↓reduceIte, Nat.reduceEqDiff])
    refine hK6 _ _ ?_
    refine wp_block ?_
    refine wp_loop_k (fun mq fa wr => ∃ (k : Nat), mq = L.length - k ∧ Fr 22 fa [(1, (.pointer (some ⟨b1, 0, none⟩))), (3, (.int .i64 ((k : Nat) : Int)))] ∧ Below w.heap.size w wr ∧ wr.heap[b1]? = some (.cells #[(.bool has), (.int .u32 a1), (.int .u32 a2), (.int .u32 a3), (.int .u32 a4), (.slice a L.length c)] 37 (0, 0)) ∧ (k ≤ L.length) ∧ (∀ s ∈ L.take k, s.size ≤ 300)) ?_ ?_
    · skip
      exact ⟨_, 0, rfl, hf.sub ⟨rfl, (some_int (by first | rfl | omega)), trivial⟩, hb, hk1, by omega, by simp⟩
    · skip
      clear hf fa; intro mq1 fa w2 hI KL1 hKL1
      clear hb
      clear hk1
      obtain ⟨k, hmq1, hf, hb, hkb1, hk, Hs⟩ := hI
      refine wp_seq_k (fun K7 hK7 => ?_)
      refine wp_seq_k (fun K8 hK8 => ?_)
      refine wp_region_lit ?_
      refine sqv hf (r_move rfl) rfl rfl rfl ?_; clear hf fa; intro fa hf
      refine sqv hf (r_fa rfl Try.underlying37 (f := 5) (q := 5) rfl (by kernel_rfl) rfl) rfl rfl rfl ?_; clear hf fa; intro fa hf
      refine sqv hf (r_load (v := (.slice a L.length c)) rfl Try.underlying33 rfl (cell_blk hkb1 rfl)) rfl rfl rfl ?_; clear hf fa; intro fa hf
      refine sqv hf (r_lensl rfl Try.underlying33) rfl rfl rfl ?_; clear hf fa; intro fa hf
      refine sqv hf (r_lt rfl rfl) rfl rfl rfl ?_; clear hf fa; intro fa hf
      apply wpList_nil
      (try simp only [Exit.then, Exit.inBlock, ↓reduceIte, Nat.reduceEqDiff])
      refine hK8 _ _ ?_
      refine wp_cond_split (t := (decide (((k : Nat) : Int) < ((L.length : Nat) : Int)))) (hf.ev rfl) (fun hqt12_1 => ?_) (fun hqt12_1 => ?_)
      · have hqt12_1b := hqt12_1
        try simp only [decide_eq_true_eq, Bool.and_eq_true, Bool.or_eq_true, Bool.not_eq_true', decide_eq_false_iff_not, ne_eq, Bool.not_eq_true] at hqt12_1
        refine wp_skip ?_
        (try simp only [Exit.then, Exit.inBlock, ↓reduceIte, Nat.reduceEqDiff])
        refine hK7 _ _ ?_
        refine wp_seq_k (fun K9 hK9 => ?_)
        refine wp_block ?_
        refine wp_seq_k (fun K10 hK10 => ?_)
        obtain ⟨y, hy⟩ : ∃ x, L[k]? = some x := ⟨_, List.getElem?_eq_getElem (by omega)⟩
        refine wp_region_lit ?_
        refine sqv hf (r_fa rfl Try.underlying37 (f := 5) (q := 5) rfl (by kernel_rfl) rfl) rfl rfl rfl ?_; clear hf fa; intro fa hf
        refine sqv hf (r_load (v := (.slice a L.length c)) rfl Try.underlying33 rfl (cell_blk hkb1 rfl)) rfl rfl rfl ?_; clear hf fa; intro fa hf
        refine sqv hf (r_move rfl) rfl rfl rfl ?_; clear hf fa; intro fa hf
        have hy1 : (L)[k]? = some y := hy
        obtain ⟨ab1, aoff1, hat1, hlb1, hel1⟩ := RdS.at hl hy1
        refine sqv hf (r_ixa (sz := 1) (j := k) (evAt rfl hat1) rfl Try.underlying33 (by kernel_rfl) rfl (by omega) rfl) rfl rfl rfl ?_; clear hf fa; intro fa hf
        refine sqv hf (r_load (v := (.string y)) rfl Try.underlying9 rfl (cellsAt_cell (cellsAt_below hel1 hb hlb1) (i := 0) rfl rfl)) rfl rfl rfl ?_; clear hf fa; intro fa hf
        refine sqv hf (r_lens rfl Try.underlying9) rfl rfl rfl ?_; clear hf fa; intro fa hf
        refine sqv hf (r_gt rfl rfl) rfl rfl rfl ?_; clear hf fa; intro fa hf
        apply wpList_nil
        (try simp only [Exit.then, Exit.inBlock, ↓reduceIte, Nat.reduceEqDiff])
        refine hK10 _ _ ?_
        refine wp_cond_split (t := (decide ((300 : Int) < ((y.size : Nat) : Int)))) (hf.ev rfl) (fun hqt21_1 => ?_) (fun hqt21_1 => ?_)
        · have hqt21_1b := hqt21_1
          try simp only [decide_eq_true_eq, Bool.and_eq_true, Bool.or_eq_true, Bool.not_eq_true', decide_eq_false_iff_not, ne_eq, Bool.not_eq_true] at hqt21_1
          refine wp_seq_k (fun K11 hK11 => ?_)
          refine wp_region_lit ?_
          refine sqv hf (r_assign rfl) rfl rfl rfl ?_; clear hf fa; intro fa hf
          apply wpList_nil
          (try simp only [Exit.then, Exit.inBlock, ↓reduceIte, Nat.reduceEqDiff])
          refine hK11 _ _ ?_
          refine wp_ret ?_
          (try simp only [Exit.then, Exit.inBlock])
          refine ret1 hf rfl rfl ?_
          refine ⟨congrArg (fun n => Ending.returned (.bool n)) ?_, hb⟩; rw [eq_comm, Bool.eq_false_iff]; intro h; have h1 := hqt21_1; rw [few_iff] at h; have h2 := h.2 y (List.mem_of_getElem? hy); omega
        · have hqt21_1b := hqt21_1
          replace hqt21_1 := Bool.eq_false_iff.1 hqt21_1
          try simp only [ne_eq, decide_eq_true_eq, Bool.and_eq_true, Bool.or_eq_true, Bool.not_eq_true', decide_eq_false_iff_not] at hqt21_1
          refine wp_skip ?_
          (try simp only [Exit.then, Exit.inBlock, ↓reduceIte, Nat.reduceEqDiff])
          refine hK9 _ _ ?_
          refine wp_region_lit ?_
          refine sqv hf (r_move rfl) rfl rfl rfl ?_; clear hf fa; intro fa hf
          refine sqv hf (r_add (C := (((k : Nat) : Int) + (1 : Int))) rfl rfl (by rw [IntKind.wrap_i64]; omega)) rfl rfl rfl ?_; clear hf fa; intro fa hf
          refine sqv hf (r_assign rfl) rfl rfl rfl ?_; clear hf fa; intro fa hf
          apply wpList_nil
          (try simp only [Exit.then, Exit.inBlock, ↓reduceIte, Nat.reduceEqDiff])
          refine hKL1 _ _ _ (by omega) ⟨(k + 1), rfl, hf.sub ⟨rfl, (some_int (by first | rfl | omega)), trivial⟩, hb, hkb1, by omega, (by rw [take_at hy]; intro s hs; rcases List.mem_append.1 hs with hs | hs; exact Hs s hs; rw [List.mem_singleton.1 hs]; have h := hqt21_1; omega)⟩
      · have hqt12_1b := hqt12_1
        replace hqt12_1 := Bool.eq_false_iff.1 hqt12_1
        try simp only [ne_eq, decide_eq_true_eq, Bool.and_eq_true, Bool.or_eq_true, Bool.not_eq_true', decide_eq_false_iff_not] at hqt12_1
        refine wp_exit ?_
        (try simp only [Exit.then, Exit.inBlock, ↓reduceIte, Nat.reduceEqDiff])
        refine hK5 _ _ ?_
        refine wp_seq_k (fun K12 hK12 => ?_)
        refine wp_region_lit ?_
        refine sqv hf (r_assign rfl) rfl rfl rfl ?_; clear hf fa; intro fa hf
        apply wpList_nil
        (try simp only [Exit.then, Exit.inBlock, ↓reduceIte, Nat.reduceEqDiff])
        refine hK12 _ _ ?_
        refine wp_ret ?_
        (try simp only [Exit.then, Exit.inBlock])
        refine ret1 hf rfl rfl ?_
        refine ⟨congrArg (fun n => Ending.returned (.bool n)) ?_, hb⟩; rw [eq_comm, few_iff]; have h1 := hqt7_1; exact ⟨by omega, by rw [List.take_of_length_le (by omega)] at Hs; exact Hs⟩

set_option maxHeartbeats 1000000 in
set_option maxRecDepth 100000 in
theorem part_any (t : Int) (a : Option Addr) (l : List Int) (c : Nat) (w : World) (hl : RdS 1 (vInt .u8) w a l) (hll : l.length ≤ 100000) (hm : l.length ≤ c ∧ c ≤ 9223372036854775807) (hn : a = none → c = 0) : Calls Try.prog 134 #[(.int .u8 t), (.slice a l.length c)] w fun e w' => ∃ v, e = .returned v ∧ Row 1 (vInt .u8) 5 w.heap.size w' v ([t] ++ uL l.length ++ l) ∧ Below w.heap.size w w' := by
  have hu1 := uL_len l.length (by omega)
  refine sx_enter (L := [(0, (.int .u8 t)), (1, (.slice a l.length c))]) Try.func134 rfl rfl rfl rfl (fun fa hf => ?_)
  have hb : Below w.heap.size w w := Below.refl _ _
  refine wp_seq_k (fun K1 hK1 => ?_)
  refine wp_region_lit ?_
  refine sqv hf (r_assign rfl) rfl rfl rfl ?_; clear hf fa; intro fa hf
  apply wpList_nil
  (try simp only [Exit.then, Exit.inBlock, ↓reduceIte, Nat.reduceEqDiff])
  refine hK1 _ _ ?_
  refine wp_seq_k (fun K2 hK2 => ?_)
  refine wp_region_lit ?_
  refine sqv hf (r_move rfl) rfl rfl rfl ?_; clear hf fa; intro fa hf
  refine sqdt hf (d_bslice (z := (.int .u8 (0 : Int))) (sz := 1) (vs := [(0, (.int .u8 t))]) (cs := #[(.int .u8 t)]) rfl Try.underlying47 (by kernel_rfl) rfl (by kernel_rfl)) rfl rfl rfl ?_; clear hf fa; rintro fa _ w1 ⟨b1, rfl, hle1, hk1, he1⟩ hf
  have hBb1 : w.heap.size ≤ b1 := Nat.le_trans hb.size hle1
  replace hb := hb.trans (Below.mono he1 hb.size)
  refine sqv hf (r_move rfl) rfl rfl rfl ?_; clear hf fa; intro fa hf
  refine sqv hf (r_lensl rfl Try.underlying47) rfl rfl rfl ?_; clear hf fa; intro fa hf
  refine sqv hf (r_conv (C := ((l.length : Nat) : Int)) rfl Try.underlying3 Try.underlying55 (by rw [IntKind.wrap_u64]; omega)) rfl rfl rfl ?_; clear hf fa; intro fa hf
  refine sqdt hf (d_callX (vs := [(.int .u64 ((l.length : Nat) : Int))]) rfl Try.func110 (by kernel_rfl) (by kernel_rfl) (uint_row l.length (by omega) _)) rfl rfl rfl ?_; clear hf fa; rintro fa v w2 ⟨hr1, he2⟩ hf; obtain ⟨ra1, rc1, rfl, hcrc1, hmrc1⟩ := Row.slice hr1
  replace hr1 := Row.rebase hr1 hb.size
  replace hk1 := blk_ext hk1 he2
  replace hb := hb.trans (Below.mono he2 hb.size)
  have hr2 := Row.of_new (k := 1) (V := (vInt .u8)) (l := [t]) (base := w.heap.size) hk1 hBb1 rfl rfl (Nat.le_of_ble_eq_true rfl)
  refine sqdt hf (d_append (V := (vInt .u8)) (k := 1) (e := 5) (bytes := 1) (z := (.int .u8 (0 : Int))) (news := (uL l.length)) (base := w.heap.size) (by intros; rfl) (by intro x u hu; simp only [vInt, List.mem_singleton] at hu; subst hu; rfl) rfl rfl Try.underlying47 (by kernel_rfl) rfl rfl rfl hr2 (Row.rd (by intros; rfl) hr1) rfl (fun h => Row.nocap hr1 h) (by first | omega | (simp only [List.length_cons, List.length_nil, List.length_append, nums_len]; omega)) (by have := hb.size; omega)) rfl rfl rfl ?_; clear hf fa; rintro fa v w3 ⟨hr3, hg1⟩ hf; obtain ⟨ra2, rc2, rfl, hcrc2, hmrc2⟩ := Row.slice hr3
  replace hb := hb.trans (row_below hr2 hg1 hb.size (by have := hb.size; omega))
  refine sqv hf (r_move rfl) rfl rfl rfl ?_; clear hf fa; intro fa hf
  refine sqdt hf (d_append (V := (vInt .u8)) (k := 1) (e := 5) (bytes := 1) (z := (.int .u8 (0 : Int))) (news := l) (base := w.heap.size) (by intros; rfl) (by intro x u hu; simp only [vInt, List.mem_singleton] at hu; subst hu; rfl) rfl rfl Try.underlying47 (by kernel_rfl) rfl rfl rfl hr3 (RdS.ext hl hb) (by omega) (by assumption) (by first | omega | (simp only [List.length_cons, List.length_nil, List.length_append, nums_len]; omega)) (by have := hb.size; omega)) rfl rfl rfl ?_; clear hf fa; rintro fa v w4 ⟨hr4, hg2⟩ hf; obtain ⟨ra3, rc3, rfl, hcrc3, hmrc3⟩ := Row.slice hr4
  replace hb := hb.trans (row_below hr3 hg2 hb.size (by have := hb.size; omega))
  refine sqv hf (r_assign rfl) rfl rfl rfl ?_; clear hf fa; intro fa hf
  apply wpList_nil
  (try simp only [Exit.then, Exit.inBlock, ↓reduceIte, Nat.reduceEqDiff])
  refine hK2 _ _ ?_
  refine wp_ret ?_
  (try simp only [Exit.then, Exit.inBlock])
  refine ret1 hf rfl rfl ?_
  exact ⟨_, rfl, hr4, hb⟩
end Go.Proofs.Ytcmdajkkdognfaa
