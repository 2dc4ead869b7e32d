/- What is proved here: the document's Read of names; the law UtfShows is true. -/
import Derived.Test.YtahgkfekggkjnaaUtI
namespace Go.Proofs.Ytahgkfekggkjnaa
open Go.RowKit
set_option linter.unusedVariables false
set_option linter.unusedSimpArgs false

theorem inner_drop (s : ByteArray) (n : Nat) (h : 1 ≤ n) : (inner (bl s)).drop (n - 1) = ((bl s).drop n).take (s.size - 1 - n) := by
  unfold inner
  rw [List.drop_take, List.drop_drop, bl_length, show 1 + (n - 1) = n by omega, show s.size - 2 - (n - 1) = s.size - 1 - n by omega]
theorem findR_hit {L : List Nat} {k : Nat} (hk : k < 256) (h : L.take (sh k).length = sh k) : findR L k (256 - k) = some k := by
  obtain ⟨f, hf⟩ : ∃ f, 256 - k = f + 1 := ⟨255 - k, by omega⟩
  rw [hf, findR, if_pos h.symm]
theorem findR_miss {L : List Nat} {k : Nat} (hk : k < 256) (h : ¬ L.take (sh k).length = sh k) : findR L k (256 - k) = findR L (k + 1) (256 - (k + 1)) := by
  obtain ⟨f, hf⟩ : ∃ f, 256 - k = f + 1 := ⟨255 - k, by omega⟩
  rw [hf, findR, if_neg (fun e => h e.symm), show 256 - (k + 1) = f by omega]
theorem take_cond {s gs : ByteArray} {n k : Nat} {L : List Nat} (hgl : gs.size = (sh k).length) (hL : L = ((bl s).drop n).take (s.size - 1 - n)) (h : gs.size ≤ s.size - 1 - n) : L.take (sh k).length = bl (s.extract n (n + gs.size)) := by
  rw [hL, bl_mid, List.take_take, ← hgl, show min gs.size (s.size - 1 - n) = gs.size by omega, show n + gs.size - n = gs.size by omega]
theorem take_short {s gs : ByteArray} {n k : Nat} {L : List Nat} (hgl : gs.size = (sh k).length) (hL : L = ((bl s).drop n).take (s.size - 1 - n)) (h : ¬ gs.size ≤ s.size - 1 - n) : ¬ L.take (sh k).length = sh k := by
  intro e
  have := congrArg List.length e
  rw [List.length_take, hL, List.length_take, List.length_drop, bl_length] at this
  omega
theorem readP_len (l : List Nat) (h : ∀ x ∈ l, x < 256) : (readP l).1.length ≤ l.length := by
  have h2 := (read_eq l h).2
  by_cases hb : (readP l).2 = true
  · have h3 := congrArg List.length (h2 hb)
    have h4 : ∀ o : List Nat, o.length ≤ (o.flatMap sh).length := by
      intro o
      induction o with
      | nil => simp
      | cons a o ih => have := (sh_len a).2; simp only [List.flatMap_cons, List.length_append, List.length_cons]; omega
    have := h4 (readP l).1
    unfold showL at h3
    simp only [List.length_cons, List.length_append, List.length_nil] at h3
    omega
  · have : (readP l).1 = [] := by
      unfold readP at hb ⊢
      split
      · rename_i hg
        rw [if_pos hg] at hb
        unfold readOf at hb ⊢
        split
        · rename_i o hd
          rw [hd] at hb
          simp only at hb ⊢
          split
          · rename_i he; rw [if_pos he] at hb; exact absurd rfl hb
          · rfl
        · rfl
      · rfl
    rw [this]; simp
theorem readP_ok (t : ByteArray) (h : (readP (bl t)).2 = true) : strN (showL (bl (strN (readP (bl t)).1))) = t := by
  have h2 := (read_eq (bl t) (bl_lt t)).2 h
  have h3 : ∀ x ∈ (readP (bl t)).1, x < 256 := by
    intro x hx
    unfold readP at hx
    split at hx
    · unfold readOf at hx
      split at hx
      · rename_i o hd
        split at hx
        · exact decP_lt _ _ _ (fun y hy => bl_lt t y (List.mem_of_mem_drop (List.mem_of_mem_take hy))) hd x hx
        · cases hx
      · cases hx
    · cases hx
  rw [bl_strN _ h3, h2, strN_bl]
def FndR (L : List Nat) (o : ByteArray) (n k : Nat) (fd : Bool) (o2 : ByteArray) (n2 : Nat) : Prop :=
  (fd = false ∧ o2 = o ∧ n2 = n ∧ findR L 0 256 = findR L k (256 - k)) ∨ (fd = true ∧ ∃ c, findR L 0 256 = some c ∧ bl o2 = bl o ++ [c] ∧ n2 + 1 = n + (sh c).length)
theorem FndR.no {L : List Nat} {o o2 : ByteArray} {n k n2 : Nat} {fd : Bool} (h1 : fd = false) (h2 : o2 = o) (h3 : n2 = n) (h4 : findR L 0 256 = findR L k (256 - k)) : FndR L o n k fd o2 n2 := by unfold FndR; exact .inl ⟨h1, h2, h3, h4⟩
theorem FndR.yes {L : List Nat} {o o2 : ByteArray} {n k n2 : Nat} {fd : Bool} (c : Nat) (h1 : fd = true) (h2 : findR L 0 256 = some c) (h3 : bl o2 = bl o ++ [c]) (h4 : n2 + 1 = n + (sh c).length) : FndR L o n k fd o2 n2 := by unfold FndR; exact .inr ⟨h1, c, h2, h3, h4⟩
theorem refShow_k (k : Nat) (gx : ByteArray) (w : World) (hk : k < 256) (hg : gx = strN (showL [k])) : Calls Try.prog 20 #[.string (strOfNums [((k : Nat) : Int)])] w fun e w' => e = .returned (.string gx) ∧ Below w.heap.size w w' := by
  have hbk : bl (strOfNums [((k : Nat) : Int)]) = [k] := bl_strN [k] (by intro x hx; simp at hx; omega)
  have h := refShow_any (strOfNums [((k : Nat) : Int)]) w (by have := strOfNums_size [((k : Nat) : Int)]; simp only [List.length_cons, List.length_nil] at this; omega)
  rw [hbk, ← hg] at h
  exact h
set_option maxHeartbeats 1000000 in
set_option maxRecDepth 100000 in
theorem refRead_any (s : ByteArray) (w : World) (hs : s.size ≤ 100000) : Calls Try.prog 19 #[(.string s)] w fun e w' => e = .returned (.tuple #[.string (strN (readR (bl s)).1), .bool (readR (bl s)).2]) ∧ Below w.heap.size w w' := by
  refine sx_enter (L := [(0, (.string s))]) Try.func19 rfl rfl rfl rfl (fun fa hf => ?_)
  have hb : Below w.heap.size w w := Below.refl _ _
  refine wp_seq_k (fun K1 hK1 => ?_)
  refine wp_region_lit ?_
  refine sqv hf (r_assign rfl) rfl rfl rfl ?_; clear hf fa; intro fa hf
  refine sqv hf (r_assign rfl) rfl rfl rfl ?_; clear hf fa; intro fa hf
  apply wpList_nil
  (try simp only [Exit.then, Exit.inBlock, ↓reduceIte, Nat.reduceEqDiff])
  refine hK1 _ _ ?_
  refine wp_seq_k (fun K2 hK2 => ?_)
  refine wp_region_lit ?_
  refine sqv hf (r_assign rfl) rfl rfl rfl ?_; clear hf fa; intro fa hf
  apply wpList_nil
  (try simp only [Exit.then, Exit.inBlock, ↓reduceIte, Nat.reduceEqDiff])
  refine hK2 _ _ ?_
  refine wp_seq_k (fun K3 hK3 => ?_)
  refine wp_seq_k (fun K4 hK4 => ?_)
  refine wp_region_lit ?_
  refine sqv hf (r_assign rfl) rfl rfl rfl ?_; clear hf fa; intro fa hf
  apply wpList_nil
  (try simp only [Exit.then, Exit.inBlock, ↓reduceIte, Nat.reduceEqDiff])
  refine hK4 _ _ ?_
  refine wp_block ?_
  refine wp_loop_k (fun m fa wr => ∃ (n : Nat) (f : Nat) (o : ByteArray), m = s.size + 1 - n ∧ Fr 71 fa [(0, (.string s)), (4, (.string o)), (5, (.int .i64 ((n : Nat) : Int)))] ∧ Below w.heap.size w wr ∧ (1 ≤ n) ∧ (n ≤ s.size + 1) ∧ (s.size - n ≤ f) ∧ (decR (bl s).length (inner (bl s)) = (decR f ((inner (bl s)).drop (n - 1))).map (bl o ++ ·)) ∧ (o.size + 1 ≤ n)) ?_ ?_
  · skip
    exact ⟨_, 1, (bl s).length, ⟨#[]⟩, rfl, hf.sub ⟨rfl, rfl, (some_int (by first | rfl | omega)), trivial⟩, hb, by omega, by omega, by rw [bl_length]; omega, (by simp [bl]), (by show 0 + 1 ≤ 1; omega)⟩
  · skip
    clear hf fa; intro m1 fa w1 hI KL1 hKL1
    clear hb
    obtain ⟨n, f, o, hm1, hf, hb, hn1, hn2, hff, Hs, hos⟩ := hI
    refine wp_seq_k (fun K5 hK5 => ?_)
    refine wp_seq_k (fun K6 hK6 => ?_)
    refine wp_region_lit ?_
    refine sqv hf (r_move rfl) rfl rfl rfl ?_; clear hf fa; intro fa hf
    refine sqv hf (r_move rfl) rfl rfl rfl ?_; clear hf fa; intro fa hf
    refine sqv hf (r_lens rfl Try.underlying9) rfl rfl rfl ?_; clear hf fa; intro fa hf
    refine sqv hf (r_sub (C := (((s.size : Nat) : Int) - (1 : Int))) rfl rfl (by rw [IntKind.wrap_i64]; omega)) rfl rfl rfl ?_; clear hf fa; intro fa hf
    refine sqv hf (r_lt rfl rfl) rfl rfl rfl ?_; clear hf fa; intro fa hf
    apply wpList_nil
    (try simp only [Exit.then, Exit.inBlock, ↓reduceIte, Nat.reduceEqDiff])
    refine hK6 _ _ ?_
    refine wp_cond_split (t := (decide (((n : Nat) : Int) < (((s.size : Nat) : Int) - (1 : Int))))) (hf.ev rfl) (fun hqt13_1 => ?_) (fun hqt13_1 => ?_)
    · have hqt13_1b := hqt13_1
      try simp only [decide_eq_true_eq, Bool.and_eq_true, Bool.or_eq_true, Bool.not_eq_true', decide_eq_false_iff_not, ne_eq, Bool.not_eq_true] at hqt13_1
      refine wp_skip ?_
      (try simp only [Exit.then, Exit.inBlock, ↓reduceIte, Nat.reduceEqDiff])
      refine hK5 _ _ ?_
      refine wp_seq_k (fun K7 hK7 => ?_)
      refine wp_block ?_
      refine wp_seq_k (fun K8 hK8 => ?_)
      obtain ⟨L, hL⟩ : ∃ L, (inner (bl s)).drop (n - 1) = L := ⟨_, rfl⟩
      have hLe : L = ((bl s).drop n).take (s.size - 1 - n) := by rw [← hL, inner_drop s n hn1]
      have hL0 : L ≠ [] := by intro e; have h := congrArg List.length hLe; rw [e, List.length_take, List.length_drop, bl_length] at h; simp only [List.length_nil] at h; omega
      refine wp_region_lit ?_
      refine sqv hf (r_assign rfl) rfl rfl rfl ?_; clear hf fa; intro fa hf
      apply wpList_nil
      (try simp only [Exit.then, Exit.inBlock, ↓reduceIte, Nat.reduceEqDiff])
      refine hK8 _ _ ?_
      refine wp_seq_k (fun K9 hK9 => ?_)
      refine wp_seq_k (fun K10 hK10 => ?_)
      refine wp_region_lit ?_
      refine sqv hf (r_assign rfl) rfl rfl rfl ?_; clear hf fa; intro fa hf
      apply wpList_nil
      (try simp only [Exit.then, Exit.inBlock, ↓reduceIte, Nat.reduceEqDiff])
      refine hK10 _ _ ?_
      refine wp_block ?_
      refine wp_loop_k (fun m fa wr => ∃ (k : Nat) (fd : Bool) (o2 : ByteArray) (n2 : Nat), m = 256 - k ∧ Fr 71 fa [(0, (.string s)), (4, (.string o2)), (5, (.int .i64 ((n2 : Nat) : Int))), (6, (.bool fd)), (7, (.int .i64 ((k : Nat) : Int)))] ∧ Below w.heap.size w wr ∧ (k ≤ 256) ∧ (1 ≤ n2 ∧ n2 ≤ s.size) ∧ (o2.size ≤ n2) ∧ (FndR L o n k fd o2 n2)) ?_ ?_
      · skip
        exact ⟨_, 0, false, o, n, rfl, hf.sub ⟨rfl, rfl, rfl, rfl, (some_int (by first | rfl | omega)), trivial⟩, hb, by omega, by omega, by omega, (FndR.no rfl rfl rfl rfl)⟩
      · skip
        clear hf fa; intro m2 fa w2 hI KL2 hKL2
        clear hb
        obtain ⟨k, fd, o2, n2, hm2, hf, hb, hk, hnb, hob, HF⟩ := hI
        refine wp_seq_k (fun K11 hK11 => ?_)
        refine wp_seq_k (fun K12 hK12 => ?_)
        refine wp_region_lit ?_
        refine sqv hf (r_move rfl) rfl rfl rfl ?_; clear hf fa; intro fa hf
        refine sqv hf (r_lt rfl rfl) rfl rfl rfl ?_; clear hf fa; intro fa hf
        refine sqv hf (r_move rfl) rfl rfl rfl ?_; clear hf fa; intro fa hf
        refine sqgT (act := (decide (((k : Nat) : Int) < (256 : Int)))) (ag := true) (c := (decide (((k : Nat) : Int) < (256 : Int)))) (v := (.bool fd)) hf rfl rfl rfl (fun hact => (r_move rfl)) rfl rfl ?_; clear hf fa; intro fa hf
        refine sqgT (act := (decide (((k : Nat) : Int) < (256 : Int)))) (ag := true) (c := (decide (((k : Nat) : Int) < (256 : Int)))) (v := (.bool (!fd))) hf rfl rfl rfl (fun hact => (r_not (gb_ev hact rfl))) rfl rfl ?_; clear hf fa; intro fa hf
        refine sqv hf (r_pickA (b := (decide (((k : Nat) : Int) < (256 : Int)))) (e := (!fd)) rfl rfl rfl) rfl rfl rfl ?_; clear hf fa; intro fa hf
        apply wpList_nil
        (try simp only [Exit.then, Exit.inBlock, ↓reduceIte, Nat.reduceEqDiff])
        refine hK12 _ _ ?_
        refine wp_cond_split (t := ((decide (((k : Nat) : Int) < (256 : Int))) && (!fd))) (hf.ev rfl) (fun hqt21_1 => ?_) (fun hqt21_1 => ?_)
        · have hqt21_1b := hqt21_1
          try simp only [decide_eq_true_eq, Bool.and_eq_true, Bool.or_eq_true, Bool.not_eq_true', decide_eq_false_iff_not, ne_eq, Bool.not_eq_true] at hqt21_1
          refine wp_skip ?_
          (try simp only [Exit.then, Exit.inBlock, ↓reduceIte, Nat.reduceEqDiff])
          refine hK11 _ _ ?_
          refine wp_seq_k (fun K13 hK13 => ?_)
          refine wp_block ?_
          refine wp_seq_k (fun K14 hK14 => ?_)
          have hk256 : k < 256 := by have h := hqt21_1; omega
          have HF2 : fd = false ∧ o2 = o ∧ n2 = n ∧ findR L 0 256 = findR L k (256 - k) := by
            rcases HF with h | h
            · exact h
            · have h2 := hqt21_1; rw [h.1] at h2; exact absurd h2.2 (by simp)
          have hn2e := HF2.2.2.1
          have hbk : bl (strOfNums [((k : Nat) : Int)]) = [k] := bl_strN [k] (by intro x hx; simp at hx; omega)
          have hk1 := sh_len k
          obtain ⟨gx, hgx⟩ : ∃ gx, gx = strN (showL [k]) := ⟨_, rfl⟩
          have hsz1 : gx.size = (sh k).length + 2 := by rw [hgx, strN_size]; simp [showL]
          refine wp_region_lit ?_
          refine sqv hf (r_move rfl) rfl rfl rfl ?_; clear hf fa; intro fa hf
          refine sqv hf (r_conv (C := ((k : Nat) : Int)) rfl Try.underlying3 Try.underlying5 (by rw [IntKind.wrap_u8]; omega)) rfl rfl rfl ?_; clear hf fa; intro fa hf
          refine sqdt hf (d_bslice (z := (.int .u8 (0 : Int))) (sz := 1) (vs := [(0, (.int .u8 ((k : Nat) : Int)))]) (cs := #[(.int .u8 ((k : Nat) : Int))]) rfl Try.underlying86 (by kernel_rfl) rfl (by kernel_rfl)) rfl rfl rfl ?_; clear hf fa; rintro fa _ w3 ⟨b1, rfl, hle1, hk1, he1⟩ hf
          have hBb1 : w.heap.size ≤ b1 := Nat.le_trans hb.size hle1
          replace hb := hb.trans (Below.mono he1 hb.size)
          refine sqv hf (r_rowstr rfl Try.underlying86 Try.underlying5 Try.underlying9 (Row.of_new (k := 1) (V := vInt .u8) (l := [((k : Nat) : Int)]) hk1 (Nat.le_refl _) rfl rfl (Nat.le_of_ble_eq_true rfl))) rfl rfl rfl ?_; clear hf fa; intro fa hf
          refine sqdt hf (d_callB (vs := [(.string (strOfNums [((k : Nat) : Int)]))]) rfl Try.func20 (by kernel_rfl) (by kernel_rfl) (refShow_k k gx _ hk256 hgx)) rfl rfl rfl ?_; clear hf fa; rintro fa _ w4 ⟨rfl, he2⟩ hf
          replace hk1 := blk_ext hk1 he2
          replace hb := hb.trans (Below.mono he2 hb.size)
          refine sqv hf (r_assign rfl) rfl rfl rfl ?_; clear hf fa; intro fa hf
          apply wpList_nil
          (try simp only [Exit.then, Exit.inBlock, ↓reduceIte, Nat.reduceEqDiff])
          refine hK14 _ _ ?_
          refine wp_seq_k (fun K15 hK15 => ?_)
          refine wp_region_lit ?_
          refine sqv hf (r_move rfl) rfl rfl rfl ?_; clear hf fa; intro fa hf
          refine sqv hf (r_move rfl) rfl rfl rfl ?_; clear hf fa; intro fa hf
          refine sqv hf (r_lens rfl Try.underlying9) rfl rfl rfl ?_; clear hf fa; intro fa hf
          refine sqv hf (r_sub (C := (((gx.size : Nat) : Int) - (1 : Int))) rfl rfl (by rw [IntKind.wrap_i64]; omega)) rfl rfl rfl ?_; clear hf fa; intro fa hf
          refine sqv hf (r_sslice (a := 1) (b := (gx.size - 1)) (k1 := .i64) (k2 := .i64) (A := (1 : Int)) (B := (((gx.size : Nat) : Int) - (1 : Int))) rfl Try.underlying9 (.inr ⟨_, rfl, rfl, rfl⟩) (.inr ⟨_, rfl, rfl, (by omega)⟩) (by have := hsz1; omega) (by have := hsz1; omega)) rfl rfl rfl ?_; clear hf fa; intro fa hf
          refine sqv hf (r_assign rfl) rfl rfl rfl ?_; clear hf fa; intro fa hf
          apply wpList_nil
          (try simp only [Exit.then, Exit.inBlock, ↓reduceIte, Nat.reduceEqDiff])
          refine hK15 _ _ ?_
          refine wp_seq_k (fun K16 hK16 => ?_)
          generalize hg : gx.extract 1 (gx.size - 1) = gs at hf
          have hgb : bl gs = sh k := by
            rw [← hg, bl_mid, hsz1, hgx, bl_strN _ (showL_lt _ (by intro x hx; simp at hx; omega))]; simp [showL]
          have hgl : gs.size = (sh k).length := by rw [← bl_length, hgb]
          refine wp_region_lit ?_
          refine sqv hf (r_move rfl) rfl rfl rfl ?_; clear hf fa; intro fa hf
          refine sqv hf (r_lens rfl Try.underlying9) rfl rfl rfl ?_; clear hf fa; intro fa hf
          refine sqv hf (r_move rfl) rfl rfl rfl ?_; clear hf fa; intro fa hf
          refine sqv hf (r_lens rfl Try.underlying9) rfl rfl rfl ?_; clear hf fa; intro fa hf
          refine sqv hf (r_sub (C := (((s.size : Nat) : Int) - (1 : Int))) rfl rfl (by rw [IntKind.wrap_i64]; omega)) rfl rfl rfl ?_; clear hf fa; intro fa hf
          refine sqv hf (r_move rfl) rfl rfl rfl ?_; clear hf fa; intro fa hf
          refine sqv hf (r_sub (C := ((((s.size : Nat) : Int) - (1 : Int)) - ((n2 : Nat) : Int))) rfl rfl (by rw [IntKind.wrap_i64]; omega)) rfl rfl rfl ?_; clear hf fa; intro fa hf
          refine sqv hf (r_le rfl rfl) rfl rfl rfl ?_; clear hf fa; intro fa hf
          refine sqv hf (r_move rfl) rfl rfl rfl ?_; clear hf fa; intro fa hf
          refine sqgT (act := (decide (((gs.size : Nat) : Int) ≤ ((((s.size : Nat) : Int) - (1 : Int)) - ((n2 : Nat) : Int))))) (ag := true) (c := (decide (((gs.size : Nat) : Int) ≤ ((((s.size : Nat) : Int) - (1 : Int)) - ((n2 : Nat) : Int))))) (v := (.string s)) hf rfl rfl rfl (fun hact => (r_move rfl)) rfl rfl ?_; clear hf fa; intro fa hf
          refine sqgT (act := (decide (((gs.size : Nat) : Int) ≤ ((((s.size : Nat) : Int) - (1 : Int)) - ((n2 : Nat) : Int))))) (ag := true) (c := (decide (((gs.size : Nat) : Int) ≤ ((((s.size : Nat) : Int) - (1 : Int)) - ((n2 : Nat) : Int))))) (v := (.int .i64 ((n2 : Nat) : Int))) hf rfl rfl rfl (fun hact => (r_move rfl)) rfl rfl ?_; clear hf fa; intro fa hf
          refine sqgT (act := (decide (((gs.size : Nat) : Int) ≤ ((((s.size : Nat) : Int) - (1 : Int)) - ((n2 : Nat) : Int))))) (ag := true) (c := (decide (((gs.size : Nat) : Int) ≤ ((((s.size : Nat) : Int) - (1 : Int)) - ((n2 : Nat) : Int))))) (v := (.int .i64 ((n2 : Nat) : Int))) hf rfl rfl rfl (fun hact => (r_move rfl)) rfl rfl ?_; clear hf fa; intro fa hf
          refine sqgT (act := (decide (((gs.size : Nat) : Int) ≤ ((((s.size : Nat) : Int) - (1 : Int)) - ((n2 : Nat) : Int))))) (ag := true) (c := (decide (((gs.size : Nat) : Int) ≤ ((((s.size : Nat) : Int) - (1 : Int)) - ((n2 : Nat) : Int))))) (v := (.string gs)) hf rfl rfl rfl (fun hact => (r_move rfl)) rfl rfl ?_; clear hf fa; intro fa hf
          refine sqgT (act := (decide (((gs.size : Nat) : Int) ≤ ((((s.size : Nat) : Int) - (1 : Int)) - ((n2 : Nat) : Int))))) (ag := true) (c := (decide (((gs.size : Nat) : Int) ≤ ((((s.size : Nat) : Int) - (1 : Int)) - ((n2 : Nat) : Int))))) (v := (.int .i64 ((gs.size : Nat) : Int))) hf rfl rfl rfl (fun hact => (r_lens (gb_ev hact rfl) Try.underlying9)) rfl rfl ?_; clear hf fa; intro fa hf
          refine sqgT (act := (decide (((gs.size : Nat) : Int) ≤ ((((s.size : Nat) : Int) - (1 : Int)) - ((n2 : Nat) : Int))))) (ag := true) (c := (decide (((gs.size : Nat) : Int) ≤ ((((s.size : Nat) : Int) - (1 : Int)) - ((n2 : Nat) : Int))))) (v := (.int .i64 (((n2 : Nat) : Int) + ((gs.size : Nat) : Int)))) hf rfl rfl rfl (fun hact => (by have hact0 := hact; simp only [Bool.and_eq_true, Bool.not_eq_true', Bool.or_eq_false_iff, Bool.or_eq_true, Bool.and_eq_false_iff, ne_eq, decide_eq_true_eq, decide_eq_false_iff_not] at hact0; exact (r_add (C := (((n2 : Nat) : Int) + ((gs.size : Nat) : Int))) (gb_ev hact rfl) (gb_ev hact rfl) (by rw [IntKind.wrap_i64]; omega)))) rfl rfl ?_; clear hf fa; intro fa hf
          refine sqgT (act := (decide (((gs.size : Nat) : Int) ≤ ((((s.size : Nat) : Int) - (1 : Int)) - ((n2 : Nat) : Int))))) (ag := true) (c := (decide (((gs.size : Nat) : Int) ≤ ((((s.size : Nat) : Int) - (1 : Int)) - ((n2 : Nat) : Int))))) (v := (.string (s.extract n2 (n2 + gs.size)))) hf rfl rfl rfl (fun hact => (by have hact0 := hact; simp only [Bool.and_eq_true, Bool.not_eq_true', Bool.or_eq_false_iff, Bool.or_eq_true, Bool.and_eq_false_iff, ne_eq, decide_eq_true_eq, decide_eq_false_iff_not] at hact0; exact (r_sslice (a := n2) (b := (n2 + gs.size)) (k1 := .i64) (k2 := .i64) (A := ((n2 : Nat) : Int)) (B := (((n2 : Nat) : Int) + ((gs.size : Nat) : Int))) (gb_ev hact rfl) Try.underlying9 (.inr ⟨_, rfl, (gb_ev hact rfl), rfl⟩) (.inr ⟨_, rfl, (gb_ev hact rfl), rfl⟩) (by omega) (by omega)))) rfl rfl ?_; clear hf fa; intro fa hf
          refine sqgT (act := (decide (((gs.size : Nat) : Int) ≤ ((((s.size : Nat) : Int) - (1 : Int)) - ((n2 : Nat) : Int))))) (ag := true) (c := (decide (((gs.size : Nat) : Int) ≤ ((((s.size : Nat) : Int) - (1 : Int)) - ((n2 : Nat) : Int))))) (v := (.string gs)) hf rfl rfl rfl (fun hact => (r_move rfl)) rfl rfl ?_; clear hf fa; intro fa hf
          refine sqgT (act := (decide (((gs.size : Nat) : Int) ≤ ((((s.size : Nat) : Int) - (1 : Int)) - ((n2 : Nat) : Int))))) (ag := true) (c := (decide (((gs.size : Nat) : Int) ≤ ((((s.size : Nat) : Int) - (1 : Int)) - ((n2 : Nat) : Int))))) (v := (.bool (decide ((s.extract n2 (n2 + gs.size)) = gs)))) hf rfl rfl rfl (fun hact => (r_seq (gb_ev hact rfl) (gb_ev hact rfl))) rfl rfl ?_; clear hf fa; intro fa hf
          refine sqv hf (r_pickA (b := (decide (((gs.size : Nat) : Int) ≤ ((((s.size : Nat) : Int) - (1 : Int)) - ((n2 : Nat) : Int))))) (e := (decide ((s.extract n2 (n2 + gs.size)) = gs))) rfl rfl rfl) rfl rfl rfl ?_; clear hf fa; intro fa hf
          apply wpList_nil
          (try simp only [Exit.then, Exit.inBlock, ↓reduceIte, Nat.reduceEqDiff])
          refine hK16 _ _ ?_
          refine wp_cond_split (t := ((decide (((gs.size : Nat) : Int) ≤ ((((s.size : Nat) : Int) - (1 : Int)) - ((n2 : Nat) : Int)))) && (decide ((s.extract n2 (n2 + gs.size)) = gs)))) (hf.ev rfl) (fun hqt52_1 => ?_) (fun hqt52_1 => ?_)
          · have hqt52_1b := hqt52_1
            try simp only [decide_eq_true_eq, Bool.and_eq_true, Bool.or_eq_true, Bool.not_eq_true', decide_eq_false_iff_not, ne_eq, Bool.not_eq_true] at hqt52_1
            refine wp_seq_k (fun K17 hK17 => ?_)
            refine wp_region_lit ?_
            refine sqv hf (r_move rfl) rfl rfl rfl ?_; clear hf fa; intro fa hf
            refine sqv hf (r_move rfl) rfl rfl rfl ?_; clear hf fa; intro fa hf
            refine sqv hf (r_conv (C := ((k : Nat) : Int)) rfl Try.underlying3 Try.underlying5 (by rw [IntKind.wrap_u8]; omega)) rfl rfl rfl ?_; clear hf fa; intro fa hf
            refine sqdt hf (d_bslice (z := (.int .u8 (0 : Int))) (sz := 1) (vs := [(0, (.int .u8 ((k : Nat) : Int)))]) (cs := #[(.int .u8 ((k : Nat) : Int))]) rfl Try.underlying86 (by kernel_rfl) rfl (by kernel_rfl)) rfl rfl rfl ?_; clear hf fa; rintro fa _ w5 ⟨b2, rfl, hle2, hk2, he3⟩ hf
            have hBb2 : w.heap.size ≤ b2 := Nat.le_trans hb.size hle2
            have : b1 < b2 := Nat.lt_of_lt_of_le (blk_lt hk1) hle2
            replace hk1 := blk_ext hk1 he3
            replace hb := hb.trans (Below.mono he3 hb.size)
            refine sqv hf (r_rowstr rfl Try.underlying86 Try.underlying5 Try.underlying9 (Row.of_new (k := 1) (V := vInt .u8) (l := [((k : Nat) : Int)]) hk2 (Nat.le_refl _) rfl rfl (Nat.le_of_ble_eq_true rfl))) rfl rfl rfl ?_; clear hf fa; intro fa hf
            refine sqv hf (r_sadd rfl rfl (by have := strOfNums_size [((k : Nat) : Int)]; (try simp only [List.length_cons, List.length_nil, List.length_append] at this); omega)) rfl rfl rfl ?_; clear hf fa; intro fa hf
            refine sqv hf (r_assign rfl) rfl rfl rfl ?_; clear hf fa; intro fa hf
            apply wpList_nil
            (try simp only [Exit.then, Exit.inBlock, ↓reduceIte, Nat.reduceEqDiff])
            refine hK17 _ _ ?_
            refine wp_seq_k (fun K18 hK18 => ?_)
            refine wp_region_lit ?_
            refine sqv hf (r_move rfl) rfl rfl rfl ?_; clear hf fa; intro fa hf
            refine sqv hf (r_move rfl) rfl rfl rfl ?_; clear hf fa; intro fa hf
            refine sqv hf (r_lens rfl Try.underlying9) rfl rfl rfl ?_; clear hf fa; intro fa hf
            refine sqv hf (r_add (C := (((n2 : Nat) : Int) + ((gs.size : Nat) : Int))) rfl rfl (by rw [IntKind.wrap_i64]; omega)) rfl rfl rfl ?_; clear hf fa; intro fa hf
            refine sqv hf (r_sub (C := ((((n2 : Nat) : Int) + ((gs.size : Nat) : Int)) - (1 : Int))) rfl rfl (by rw [IntKind.wrap_i64]; omega)) rfl rfl rfl ?_; clear hf fa; intro fa hf
            refine sqv hf (r_assign rfl) rfl rfl rfl ?_; clear hf fa; intro fa hf
            apply wpList_nil
            (try simp only [Exit.then, Exit.inBlock, ↓reduceIte, Nat.reduceEqDiff])
            refine hK18 _ _ ?_
            refine wp_region_lit ?_
            refine sqv hf (r_assign rfl) rfl rfl rfl ?_; clear hf fa; intro fa hf
            apply wpList_nil
            (try simp only [Exit.then, Exit.inBlock, ↓reduceIte, Nat.reduceEqDiff])
            refine hK13 _ _ ?_
            refine wp_region_lit ?_
            refine sqv hf (r_move rfl) rfl rfl rfl ?_; clear hf fa; intro fa hf
            refine sqv hf (r_add (C := (((k : Nat) : Int) + (1 : Int))) rfl rfl (by rw [IntKind.wrap_i64]; omega)) rfl rfl rfl ?_; clear hf fa; intro fa hf
            refine sqv hf (r_assign rfl) rfl rfl rfl ?_; clear hf fa; intro fa hf
            apply wpList_nil
            (try simp only [Exit.then, Exit.inBlock, ↓reduceIte, Nat.reduceEqDiff])
            refine hKL2 _ _ _ (by omega) ⟨(k + 1), true, (o2 ++ (strOfNums [((k : Nat) : Int)])), ((n2 + gs.size) - 1), rfl, hf.sub ⟨rfl, rfl, (some_int (by first | rfl | omega)), rfl, (some_int (by first | rfl | omega)), trivial⟩, hb, by omega, (by have h := hqt52_1; omega), (by have h := sz_app o2 (strOfNums [((k : Nat) : Int)]); rw [strOfNums_size] at h; have h2 := hqt52_1; have h3 := congrArg ByteArray.size HF2.2.1; simp only [List.length_cons, List.length_nil] at h; omega), (FndR.yes k rfl (HF2.2.2.2.trans (findR_hit hk256 (by rw [take_cond hgl hLe (by have h := hqt52_1; omega), ← hn2e, hqt52_1.2, hgb]))) (by rw [bl_app, hbk, HF2.2.1]) (by have h := hqt52_1; have h0 := hn2e; omega))⟩
          · have hqt52_1b := hqt52_1
            replace hqt52_1 := Bool.eq_false_iff.1 hqt52_1
            try simp only [ne_eq, decide_eq_true_eq, Bool.and_eq_true, Bool.or_eq_true, Bool.not_eq_true', decide_eq_false_iff_not] at hqt52_1
            refine wp_skip ?_
            (try simp only [Exit.then, Exit.inBlock, ↓reduceIte, Nat.reduceEqDiff])
            refine hK13 _ _ ?_
            refine wp_region_lit ?_
            refine sqv hf (r_move rfl) rfl rfl rfl ?_; clear hf fa; intro fa hf
            refine sqv hf (r_add (C := (((k : Nat) : Int) + (1 : Int))) rfl rfl (by rw [IntKind.wrap_i64]; omega)) rfl rfl rfl ?_; clear hf fa; intro fa hf
            refine sqv hf (r_assign rfl) rfl rfl rfl ?_; clear hf fa; intro fa hf
            apply wpList_nil
            (try simp only [Exit.then, Exit.inBlock, ↓reduceIte, Nat.reduceEqDiff])
            refine hKL2 _ _ _ (by omega) ⟨(k + 1), fd, o2, n2, rfl, hf.sub ⟨rfl, rfl, rfl, rfl, (some_int (by first | rfl | omega)), trivial⟩, hb, by omega, by omega, by omega, (FndR.no HF2.1 HF2.2.1 HF2.2.2.1 (HF2.2.2.2.trans (findR_miss hk256 (by
                        by_cases hc : gs.size ≤ s.size - 1 - n
                        · rw [take_cond hgl hLe hc]; intro e; exact hqt52_1 ⟨by omega, bl_inj (by rw [hn2e, e, hgb])⟩
                        · exact take_short hgl hLe hc))))⟩
        · have hqt21_1b := hqt21_1
          replace hqt21_1 := Bool.eq_false_iff.1 hqt21_1
          try simp only [ne_eq, decide_eq_true_eq, Bool.and_eq_true, Bool.or_eq_true, Bool.not_eq_true', decide_eq_false_iff_not] at hqt21_1
          refine wp_exit ?_
          (try simp only [Exit.then, Exit.inBlock, ↓reduceIte, Nat.reduceEqDiff])
          refine hK9 _ _ ?_
          refine wp_seq_k (fun K19 hK19 => ?_)
          refine wp_region_lit ?_
          refine sqv hf (r_move rfl) rfl rfl rfl ?_; clear hf fa; intro fa hf
          refine sqv hf (r_not rfl) rfl rfl rfl ?_; clear hf fa; intro fa hf
          apply wpList_nil
          (try simp only [Exit.then, Exit.inBlock, ↓reduceIte, Nat.reduceEqDiff])
          refine hK19 _ _ ?_
          refine wp_cond_split (t := (!fd)) (hf.ev rfl) (fun hqt65_1 => ?_) (fun hqt65_1 => ?_)
          · have hqt65_1b := hqt65_1
            try simp only [decide_eq_true_eq, Bool.and_eq_true, Bool.or_eq_true, Bool.not_eq_true', decide_eq_false_iff_not, ne_eq, Bool.not_eq_true] at hqt65_1
            refine wp_seq_k (fun K20 hK20 => ?_)
            refine wp_region_lit ?_
            refine sqv hf (r_assign rfl) rfl rfl rfl ?_; clear hf fa; intro fa hf
            refine sqv hf (r_assign rfl) rfl rfl rfl ?_; clear hf fa; intro fa hf
            apply wpList_nil
            (try simp only [Exit.then, Exit.inBlock, ↓reduceIte, Nat.reduceEqDiff])
            refine hK20 _ _ ?_
            refine wp_ret ?_
            (try simp only [Exit.then, Exit.inBlock])
            refine ret2 hf rfl rfl rfl ?_
            have hnn : findR L 0 256 = none := by
              rcases HF with h | h
              · rw [h.2.2.2, show 256 - k = 0 by (have hk3 : ¬ k < 256 := fun hk3 => hqt21_1 ⟨by omega, h.1⟩); omega]; unfold findR; rfl
              · rw [h.1] at hqt65_1; exact absurd hqt65_1 (by simp)
            have hn : decR (bl s).length (inner (bl s)) = none := by
              rw [Hs, hL]; obtain ⟨f2, rfl⟩ : ∃ f2, f = f2 + 1 := ⟨f - 1, by omega⟩
              rw [decR_none hL0 hnn]; rfl
            refine ⟨?_, hb⟩; unfold readR; rw [hn]; rfl
          · have hqt65_1b := hqt65_1
            replace hqt65_1 := Bool.eq_false_iff.1 hqt65_1
            try simp only [ne_eq, decide_eq_true_eq, Bool.and_eq_true, Bool.or_eq_true, Bool.not_eq_true', decide_eq_false_iff_not] at hqt65_1
            refine wp_skip ?_
            (try simp only [Exit.then, Exit.inBlock, ↓reduceIte, Nat.reduceEqDiff])
            refine hK7 _ _ ?_
            refine wp_region_lit ?_
            refine sqv hf (r_move rfl) rfl rfl rfl ?_; clear hf fa; intro fa hf
            refine sqv hf (r_add (C := (((n2 : Nat) : Int) + (1 : Int))) rfl rfl (by rw [IntKind.wrap_i64]; omega)) rfl rfl rfl ?_; clear hf fa; intro fa hf
            refine sqv hf (r_assign rfl) rfl rfl rfl ?_; clear hf fa; intro fa hf
            apply wpList_nil
            (try simp only [Exit.then, Exit.inBlock, ↓reduceIte, Nat.reduceEqDiff])
            obtain ⟨hfd, c, hc1, hc2, hc3⟩ : fd = true ∧ ∃ c, findR L 0 256 = some c ∧ bl o2 = bl o ++ [c] ∧ n2 + 1 = n + (sh c).length := by
              rcases HF with h | h
              · rw [h.1] at hqt65_1; exact absurd rfl hqt65_1
              · exact h
            have hshc := sh_len c
            refine hKL1 _ _ _ (by omega) ⟨(n2 + 1), (f - 1), o2, rfl, hf.sub ⟨rfl, rfl, (some_int (by first | rfl | omega)), trivial⟩, hb, by omega, by omega, by omega, (by
                        have h := Hs; rw [hL] at h; obtain ⟨f2, rfl⟩ : ∃ f2, f = f2 + 1 := ⟨f - 1, by omega⟩
                        rw [decR_some hL0 hc1, ← hc2, ← hL, List.drop_drop, show n - 1 + (sh c).length = n2 + 1 - 1 by omega] at h; exact h), by omega⟩
    · have hqt13_1b := hqt13_1
      replace hqt13_1 := Bool.eq_false_iff.1 hqt13_1
      try simp only [ne_eq, decide_eq_true_eq, Bool.and_eq_true, Bool.or_eq_true, Bool.not_eq_true', decide_eq_false_iff_not] at hqt13_1
      refine wp_exit ?_
      (try simp only [Exit.then, Exit.inBlock, ↓reduceIte, Nat.reduceEqDiff])
      refine hK3 _ _ ?_
      refine wp_seq_k (fun K21 hK21 => ?_)
      refine wp_seq_k (fun K22 hK22 => ?_)
      have hfin : decR (bl s).length (inner (bl s)) = some (bl o) := by
        have h := Hs; rw [inner_drop s n hn1, show s.size - 1 - n = 0 by omega, List.take_zero, decR_end] at h; simpa using h
      refine wp_region_lit ?_
      refine sqv hf (r_move rfl) rfl rfl rfl ?_; clear hf fa; intro fa hf
      refine sqdt hf (d_callB (vs := [(.string o)]) rfl Try.func20 (by kernel_rfl) (by kernel_rfl) (refShow_any o _ (by omega))) rfl rfl rfl ?_; clear hf fa; rintro fa _ w6 ⟨rfl, he4⟩ hf
      replace hb := hb.trans (Below.mono he4 hb.size)
      refine sqv hf (r_move rfl) rfl rfl rfl ?_; clear hf fa; intro fa hf
      refine sqv hf (r_sne rfl rfl) rfl rfl rfl ?_; clear hf fa; intro fa hf
      apply wpList_nil
      (try simp only [Exit.then, Exit.inBlock, ↓reduceIte, Nat.reduceEqDiff])
      refine hK22 _ _ ?_
      refine wp_cond_split (t := (decide ((strN (showL (bl o))) ≠ s))) (hf.ev rfl) (fun hqt69_1 => ?_) (fun hqt69_1 => ?_)
      · have hqt69_1b := hqt69_1
        try simp only [decide_eq_true_eq, Bool.and_eq_true, Bool.or_eq_true, Bool.not_eq_true', decide_eq_false_iff_not, ne_eq, Bool.not_eq_true] at hqt69_1
        refine wp_seq_k (fun K23 hK23 => ?_)
        refine wp_region_lit ?_
        refine sqv hf (r_assign rfl) rfl rfl rfl ?_; clear hf fa; intro fa hf
        refine sqv hf (r_assign rfl) rfl rfl rfl ?_; clear hf fa; intro fa hf
        apply wpList_nil
        (try simp only [Exit.then, Exit.inBlock, ↓reduceIte, Nat.reduceEqDiff])
        refine hK23 _ _ ?_
        refine wp_ret ?_
        (try simp only [Exit.then, Exit.inBlock])
        refine ret2 hf rfl rfl rfl ?_
        refine ⟨?_, hb⟩; unfold readR; rw [hfin]; simp only [readOf]; rw [if_neg (fun e => hqt69_1 (by rw [e, strN_bl]))]; rfl
      · have hqt69_1b := hqt69_1
        replace hqt69_1 := Bool.eq_false_iff.1 hqt69_1
        try simp only [ne_eq, decide_eq_true_eq, Bool.and_eq_true, Bool.or_eq_true, Bool.not_eq_true', decide_eq_false_iff_not] at hqt69_1
        refine wp_skip ?_
        (try simp only [Exit.then, Exit.inBlock, ↓reduceIte, Nat.reduceEqDiff])
        refine hK21 _ _ ?_
        refine wp_seq_k (fun K24 hK24 => ?_)
        refine wp_region_lit ?_
        refine sqv hf (r_move rfl) rfl rfl rfl ?_; clear hf fa; intro fa hf
        refine sqv hf (r_assign rfl) rfl rfl rfl ?_; clear hf fa; intro fa hf
        refine sqv hf (r_assign rfl) rfl rfl rfl ?_; clear hf fa; intro fa hf
        apply wpList_nil
        (try simp only [Exit.then, Exit.inBlock, ↓reduceIte, Nat.reduceEqDiff])
        refine hK24 _ _ ?_
        refine wp_ret ?_
        (try simp only [Exit.then, Exit.inBlock])
        refine ret2 hf rfl rfl rfl ?_
        refine ⟨?_, hb⟩; unfold readR; rw [hfin]; simp only [readOf]; rw [if_pos (by have h := Decidable.of_not_not hqt69_1; have h2 := congrArg bl h; rwa [bl_strN _ (showL_lt _ (bl_lt o))] at h2)]; simp only [strN_bl]

theorem read_shown (s : ByteArray) (w : World) (hs : s.size ≤ 30000) : Calls Try.prog 18 #[.string (strN (showL (bl s)))] w fun e w' => e = .returned (.tuple #[.string s, .bool true]) ∧ Below w.heap.size w w' := by
  have hl := flat_len (bl s)
  have h := read_any (strN (showL (bl s))) w (by rw [strN_size]; unfold showL; simp only [List.length_cons, List.length_append, List.length_nil]; rw [bl_length] at hl; omega)
  rw [bl_strN _ (showL_lt _ (bl_lt s)), (read_show (bl s) (bl_lt s)).1, strN_bl] at h
  exact h
theorem refRead_p (s : ByteArray) (w : World) (hs : s.size ≤ 100000) : Calls Try.prog 19 #[.string s] w fun e w' => e = .returned (.tuple #[.string (strN (readP (bl s)).1), .bool (readP (bl s)).2]) ∧ Below w.heap.size w w' := by
  have h := refRead_any s w hs
  rw [← (read_eq (bl s) (bl_lt s)).1] at h
  exact h

set_option maxHeartbeats 1000000 in
set_option maxRecDepth 100000 in
theorem shows_any (s t : ByteArray) (w : World) (hs : s.size ≤ maxLen) (ht : t.size ≤ maxLen) : Calls Try.prog 3 #[(.string s), (.string t)] w fun e w' => e = .returned (.bool true) ∧ Below w.heap.size w w' := by
  refine sx_enter (L := [(0, (.string s)), (1, (.string t))]) Try.func3 rfl rfl rfl rfl (fun fa hf => ?_)
  have hb : Below w.heap.size w w := Below.refl _ _
  refine wp_seq_k (fun K1 hK1 => ?_)
  refine wp_region_lit ?_
  refine sqv hf (r_assign rfl) rfl rfl rfl ?_; clear hf fa; intro fa hf
  apply wpList_nil
  (try simp only [Exit.then, Exit.inBlock, ↓reduceIte, Nat.reduceEqDiff])
  refine hK1 _ _ ?_
  refine wp_seq_k (fun K2 hK2 => ?_)
  refine wp_seq_k (fun K3 hK3 => ?_)
  refine wp_region_lit ?_
  refine sqdt hf (d_callB (vs := []) rfl Try.func16 (by kernel_rfl) (by kernel_rfl) (awake03_any _)) rfl rfl rfl ?_; clear hf fa; rintro fa _ w1 ⟨rfl, he1⟩ hf
  replace hb := hb.trans (Below.mono he1 hb.size)
  refine sqv hf (r_not rfl) rfl rfl rfl ?_; clear hf fa; intro fa hf
  apply wpList_nil
  (try simp only [Exit.then, Exit.inBlock, ↓reduceIte, Nat.reduceEqDiff])
  refine hK3 _ _ ?_
  refine wp_cond_false ((hf.ev rfl).trans (congrArg Value.bool (show (!true) = false from rfl))) ?_
  refine wp_skip ?_
  (try simp only [Exit.then, Exit.inBlock, ↓reduceIte, Nat.reduceEqDiff])
  refine hK2 _ _ ?_
  refine wp_seq_k (fun K4 hK4 => ?_)
  refine wp_seq_k (fun K5 hK5 => ?_)
  refine wp_region_lit ?_
  refine sqv hf (r_move rfl) rfl rfl rfl ?_; clear hf fa; intro fa hf
  refine sqv hf (r_lens rfl Try.underlying9) rfl rfl rfl ?_; clear hf fa; intro fa hf
  refine sqv hf (r_gt rfl rfl) rfl rfl rfl ?_; clear hf fa; intro fa hf
  refine sqv hf (r_move rfl) rfl rfl rfl ?_; clear hf fa; intro fa hf
  refine sqgF (act := (!(decide ((300 : Int) < ((s.size : Nat) : Int))))) (ag := true) (c := (decide ((300 : Int) < ((s.size : Nat) : Int)))) (v := (.string t)) hf rfl rfl rfl (fun hact => (r_move rfl)) rfl rfl ?_; clear hf fa; intro fa hf
  refine sqgF (act := (!(decide ((300 : Int) < ((s.size : Nat) : Int))))) (ag := true) (c := (decide ((300 : Int) < ((s.size : Nat) : Int)))) (v := (.int .i64 ((t.size : Nat) : Int))) hf rfl rfl rfl (fun hact => (r_lens (gb_ev hact rfl) Try.underlying9)) rfl rfl ?_; clear hf fa; intro fa hf
  refine sqgF (act := (!(decide ((300 : Int) < ((s.size : Nat) : Int))))) (ag := true) (c := (decide ((300 : Int) < ((s.size : Nat) : Int)))) (v := (.bool (decide ((300 : Int) < ((t.size : Nat) : Int))))) hf rfl rfl rfl (fun hact => (r_gt (gb_ev hact rfl) rfl)) rfl rfl ?_; clear hf fa; intro fa hf
  refine sqv hf (r_pickO (b := (decide ((300 : Int) < ((s.size : Nat) : Int)))) (e := (decide ((300 : Int) < ((t.size : Nat) : Int)))) rfl rfl rfl) rfl rfl rfl ?_; clear hf fa; intro fa hf
  apply wpList_nil
  (try simp only [Exit.then, Exit.inBlock, ↓reduceIte, Nat.reduceEqDiff])
  refine hK5 _ _ ?_
  refine wp_cond_split (t := ((decide ((300 : Int) < ((s.size : Nat) : Int))) || (decide ((300 : Int) < ((t.size : Nat) : Int))))) (hf.ev rfl) (fun hqt21_1 => ?_) (fun hqt21_1 => ?_)
  · have hqt21_1b := hqt21_1
    try simp only [decide_eq_true_eq, Bool.and_eq_true, Bool.or_eq_true, Bool.not_eq_true', decide_eq_false_iff_not, ne_eq, Bool.not_eq_true] at hqt21_1
    refine wp_seq_k (fun K6 hK6 => ?_)
    refine wp_region_lit ?_
    refine sqv hf (r_assign rfl) rfl rfl rfl ?_; clear hf fa; intro fa hf
    apply wpList_nil
    (try simp only [Exit.then, Exit.inBlock, ↓reduceIte, Nat.reduceEqDiff])
    refine hK6 _ _ ?_
    refine wp_ret ?_
    (try simp only [Exit.then, Exit.inBlock])
    refine ret1 hf rfl rfl ?_
    exact ⟨rfl, hb⟩
  · have hqt21_1b := hqt21_1
    replace hqt21_1 := Bool.eq_false_iff.1 hqt21_1
    try simp only [ne_eq, decide_eq_true_eq, Bool.and_eq_true, Bool.or_eq_true, Bool.not_eq_true', decide_eq_false_iff_not] at hqt21_1
    refine wp_skip ?_
    (try simp only [Exit.then, Exit.inBlock, ↓reduceIte, Nat.reduceEqDiff])
    refine hK4 _ _ ?_
    refine wp_seq_k (fun K7 hK7 => ?_)
    refine wp_region_lit ?_
    refine sqv hf (r_move rfl) rfl rfl rfl ?_; clear hf fa; intro fa hf
    refine sqdt hf (d_callB (vs := [(.string s)]) rfl Try.func17 (by kernel_rfl) (by kernel_rfl) (show_any s _ (by omega))) rfl rfl rfl ?_; clear hf fa; rintro fa _ w2 ⟨rfl, he2⟩ hf
    replace hb := hb.trans (Below.mono he2 hb.size)
    refine sqv hf (r_assign rfl) rfl rfl rfl ?_; clear hf fa; intro fa hf
    apply wpList_nil
    (try simp only [Exit.then, Exit.inBlock, ↓reduceIte, Nat.reduceEqDiff])
    refine hK7 _ _ ?_
    refine wp_seq_k (fun K8 hK8 => ?_)
    refine wp_region_lit ?_
    refine sqv hf (r_move rfl) rfl rfl rfl ?_; clear hf fa; intro fa hf
    refine sqdt hf (d_callB (vs := [(.string (strN (showL (bl s))))]) rfl Try.func18 (by kernel_rfl) (by kernel_rfl) (read_shown s _ (by omega))) rfl rfl rfl ?_; clear hf fa; rintro fa _ w3 ⟨rfl, he3⟩ hf
    replace hb := hb.trans (Below.mono he3 hb.size)
    refine sqv hf (r_move rfl) rfl rfl rfl ?_; clear hf fa; intro fa hf
    refine sqv hf (r_extract rfl (i := 0) rfl) rfl rfl rfl ?_; clear hf fa; intro fa hf
    refine sqv hf (r_extract rfl (i := 1) rfl) rfl rfl rfl ?_; clear hf fa; intro fa hf
    refine sqv hf (r_assign rfl) rfl rfl rfl ?_; clear hf fa; intro fa hf
    refine sqv hf (r_assign rfl) rfl rfl rfl ?_; clear hf fa; intro fa hf
    apply wpList_nil
    (try simp only [Exit.then, Exit.inBlock, ↓reduceIte, Nat.reduceEqDiff])
    refine hK8 _ _ ?_
    refine wp_seq_k (fun K9 hK9 => ?_)
    have hrp : (strN (readP (bl t)).1).size ≤ 300 := by rw [strN_size]; have h := readP_len (bl t) (bl_lt t); rw [bl_length] at h; omega
    refine wp_region_lit ?_
    refine sqv hf (r_move rfl) rfl rfl rfl ?_; clear hf fa; intro fa hf
    refine sqdt hf (d_callB (vs := [(.string t)]) rfl Try.func18 (by kernel_rfl) (by kernel_rfl) (read_any t _ (by omega))) rfl rfl rfl ?_; clear hf fa; rintro fa _ w4 ⟨rfl, he4⟩ hf
    replace hb := hb.trans (Below.mono he4 hb.size)
    refine sqv hf (r_move rfl) rfl rfl rfl ?_; clear hf fa; intro fa hf
    refine sqv hf (r_extract rfl (i := 0) rfl) rfl rfl rfl ?_; clear hf fa; intro fa hf
    refine sqv hf (r_extract rfl (i := 1) rfl) rfl rfl rfl ?_; clear hf fa; intro fa hf
    refine sqv hf (r_assign rfl) rfl rfl rfl ?_; clear hf fa; intro fa hf
    refine sqv hf (r_assign rfl) rfl rfl rfl ?_; clear hf fa; intro fa hf
    apply wpList_nil
    (try simp only [Exit.then, Exit.inBlock, ↓reduceIte, Nat.reduceEqDiff])
    refine hK9 _ _ ?_
    refine wp_seq_k (fun K10 hK10 => ?_)
    refine wp_region_lit ?_
    refine sqv hf (r_move rfl) rfl rfl rfl ?_; clear hf fa; intro fa hf
    refine sqdt hf (d_callB (vs := [(.string t)]) rfl Try.func19 (by kernel_rfl) (by kernel_rfl) (refRead_p t _ (by omega))) rfl rfl rfl ?_; clear hf fa; rintro fa _ w5 ⟨rfl, he5⟩ hf
    replace hb := hb.trans (Below.mono he5 hb.size)
    refine sqv hf (r_move rfl) rfl rfl rfl ?_; clear hf fa; intro fa hf
    refine sqv hf (r_extract rfl (i := 0) rfl) rfl rfl rfl ?_; clear hf fa; intro fa hf
    refine sqv hf (r_extract rfl (i := 1) rfl) rfl rfl rfl ?_; clear hf fa; intro fa hf
    refine sqv hf (r_assign rfl) rfl rfl rfl ?_; clear hf fa; intro fa hf
    refine sqv hf (r_assign rfl) rfl rfl rfl ?_; clear hf fa; intro fa hf
    apply wpList_nil
    (try simp only [Exit.then, Exit.inBlock, ↓reduceIte, Nat.reduceEqDiff])
    refine hK10 _ _ ?_
    refine wp_seq_k (fun K11 hK11 => ?_)
    refine wp_region_lit ?_
    refine sqv hf (r_move rfl) rfl rfl rfl ?_; clear hf fa; intro fa hf
    refine sqv hf (r_move rfl) rfl rfl rfl ?_; clear hf fa; intro fa hf
    refine sqdt hf (d_callB (vs := [(.string s)]) rfl Try.func20 (by kernel_rfl) (by kernel_rfl) (refShow_any s _ (by omega))) rfl rfl rfl ?_; clear hf fa; rintro fa _ w6 ⟨rfl, he6⟩ hf
    replace hb := hb.trans (Below.mono he6 hb.size)
    refine sqv hf (r_seq rfl rfl) rfl rfl rfl ?_; clear hf fa; intro fa hf
    refine sqv hf (r_move rfl) rfl rfl rfl ?_; clear hf fa; intro fa hf
    refine sqgT (act := (decide ((strN (showL (bl s))) = (strN (showL (bl s)))))) (ag := true) (c := (decide ((strN (showL (bl s))) = (strN (showL (bl s)))))) (v := (.bool true)) hf rfl rfl rfl (fun hact => (r_move rfl)) rfl rfl ?_; clear hf fa; intro fa hf
    refine sqv hf (r_pickA (b := (decide ((strN (showL (bl s))) = (strN (showL (bl s)))))) (e := true) rfl rfl rfl) rfl rfl rfl ?_; clear hf fa; intro fa hf
    refine sqv hf (r_move rfl) rfl rfl rfl ?_; clear hf fa; intro fa hf
    refine sqgT (act := ((decide ((strN (showL (bl s))) = (strN (showL (bl s))))) && true)) (ag := true) (c := ((decide ((strN (showL (bl s))) = (strN (showL (bl s))))) && true)) (v := (.string s)) hf rfl rfl rfl (fun hact => (r_move rfl)) rfl rfl ?_; clear hf fa; intro fa hf
    refine sqgT (act := ((decide ((strN (showL (bl s))) = (strN (showL (bl s))))) && true)) (ag := true) (c := ((decide ((strN (showL (bl s))) = (strN (showL (bl s))))) && true)) (v := (.string s)) hf rfl rfl rfl (fun hact => (r_move rfl)) rfl rfl ?_; clear hf fa; intro fa hf
    refine sqgT (act := ((decide ((strN (showL (bl s))) = (strN (showL (bl s))))) && true)) (ag := true) (c := ((decide ((strN (showL (bl s))) = (strN (showL (bl s))))) && true)) (v := (.bool (decide (s = s)))) hf rfl rfl rfl (fun hact => (r_seq (gb_ev hact rfl) (gb_ev hact rfl))) rfl rfl ?_; clear hf fa; intro fa hf
    refine sqv hf (r_pickA (b := ((decide ((strN (showL (bl s))) = (strN (showL (bl s))))) && true)) (e := (decide (s = s))) rfl rfl rfl) rfl rfl rfl ?_; clear hf fa; intro fa hf
    refine sqv hf (r_move rfl) rfl rfl rfl ?_; clear hf fa; intro fa hf
    refine sqgT (act := (((decide ((strN (showL (bl s))) = (strN (showL (bl s))))) && true) && (decide (s = s)))) (ag := true) (c := (((decide ((strN (showL (bl s))) = (strN (showL (bl s))))) && true) && (decide (s = s)))) (v := (.string (strN (readP (bl t)).1))) hf rfl rfl rfl (fun hact => (r_move rfl)) rfl rfl ?_; clear hf fa; intro fa hf
    refine sqgT (act := (((decide ((strN (showL (bl s))) = (strN (showL (bl s))))) && true) && (decide (s = s)))) (ag := true) (c := (((decide ((strN (showL (bl s))) = (strN (showL (bl s))))) && true) && (decide (s = s)))) (v := (.string (strN (readP (bl t)).1))) hf rfl rfl rfl (fun hact => (r_move rfl)) rfl rfl ?_; clear hf fa; intro fa hf
    refine sqgT (act := (((decide ((strN (showL (bl s))) = (strN (showL (bl s))))) && true) && (decide (s = s)))) (ag := true) (c := (((decide ((strN (showL (bl s))) = (strN (showL (bl s))))) && true) && (decide (s = s)))) (v := (.bool (decide ((strN (readP (bl t)).1) = (strN (readP (bl t)).1))))) hf rfl rfl rfl (fun hact => (r_seq (gb_ev hact rfl) (gb_ev hact rfl))) rfl rfl ?_; clear hf fa; intro fa hf
    refine sqv hf (r_pickA (b := (((decide ((strN (showL (bl s))) = (strN (showL (bl s))))) && true) && (decide (s = s)))) (e := (decide ((strN (readP (bl t)).1) = (strN (readP (bl t)).1)))) rfl rfl rfl) rfl rfl rfl ?_; clear hf fa; intro fa hf
    refine sqv hf (r_move rfl) rfl rfl rfl ?_; clear hf fa; intro fa hf
    refine sqgT (act := ((((decide ((strN (showL (bl s))) = (strN (showL (bl s))))) && true) && (decide (s = s))) && (decide ((strN (readP (bl t)).1) = (strN (readP (bl t)).1))))) (ag := true) (c := ((((decide ((strN (showL (bl s))) = (strN (showL (bl s))))) && true) && (decide (s = s))) && (decide ((strN (readP (bl t)).1) = (strN (readP (bl t)).1))))) (v := (.bool (readP (bl t)).2)) hf rfl rfl rfl (fun hact => (r_move rfl)) rfl rfl ?_; clear hf fa; intro fa hf
    refine sqgT (act := ((((decide ((strN (showL (bl s))) = (strN (showL (bl s))))) && true) && (decide (s = s))) && (decide ((strN (readP (bl t)).1) = (strN (readP (bl t)).1))))) (ag := true) (c := ((((decide ((strN (showL (bl s))) = (strN (showL (bl s))))) && true) && (decide (s = s))) && (decide ((strN (readP (bl t)).1) = (strN (readP (bl t)).1))))) (v := (.bool (readP (bl t)).2)) hf rfl rfl rfl (fun hact => (r_move rfl)) rfl rfl ?_; clear hf fa; intro fa hf
    refine sqgT (act := ((((decide ((strN (showL (bl s))) = (strN (showL (bl s))))) && true) && (decide (s = s))) && (decide ((strN (readP (bl t)).1) = (strN (readP (bl t)).1))))) (ag := true) (c := ((((decide ((strN (showL (bl s))) = (strN (showL (bl s))))) && true) && (decide (s = s))) && (decide ((strN (readP (bl t)).1) = (strN (readP (bl t)).1))))) (v := (.bool ((readP (bl t)).2 == (readP (bl t)).2))) hf rfl rfl rfl (fun hact => (r_beq Try.underlying4 (gb_ev hact rfl) (gb_ev hact rfl))) rfl rfl ?_; clear hf fa; intro fa hf
    refine sqv hf (r_pickA (b := ((((decide ((strN (showL (bl s))) = (strN (showL (bl s))))) && true) && (decide (s = s))) && (decide ((strN (readP (bl t)).1) = (strN (readP (bl t)).1))))) (e := ((readP (bl t)).2 == (readP (bl t)).2)) rfl rfl rfl) rfl rfl rfl ?_; clear hf fa; intro fa hf
    refine sqv hf (r_move rfl) rfl rfl rfl ?_; clear hf fa; intro fa hf
    refine sqgT (act := (((((decide ((strN (showL (bl s))) = (strN (showL (bl s))))) && true) && (decide (s = s))) && (decide ((strN (readP (bl t)).1) = (strN (readP (bl t)).1)))) && ((readP (bl t)).2 == (readP (bl t)).2))) (ag := true) (c := (((((decide ((strN (showL (bl s))) = (strN (showL (bl s))))) && true) && (decide (s = s))) && (decide ((strN (readP (bl t)).1) = (strN (readP (bl t)).1)))) && ((readP (bl t)).2 == (readP (bl t)).2))) (v := (.bool (readP (bl t)).2)) hf rfl rfl rfl (fun hact => (r_move rfl)) rfl rfl ?_; clear hf fa; intro fa hf
    refine sqgT (act := (((((decide ((strN (showL (bl s))) = (strN (showL (bl s))))) && true) && (decide (s = s))) && (decide ((strN (readP (bl t)).1) = (strN (readP (bl t)).1)))) && ((readP (bl t)).2 == (readP (bl t)).2))) (ag := true) (c := (((((decide ((strN (showL (bl s))) = (strN (showL (bl s))))) && true) && (decide (s = s))) && (decide ((strN (readP (bl t)).1) = (strN (readP (bl t)).1)))) && ((readP (bl t)).2 == (readP (bl t)).2))) (v := (.bool (!(readP (bl t)).2))) hf rfl rfl rfl (fun hact => (r_not (gb_ev hact rfl))) rfl rfl ?_; clear hf fa; intro fa hf
    refine sqgT (act := (((((decide ((strN (showL (bl s))) = (strN (showL (bl s))))) && true) && (decide (s = s))) && (decide ((strN (readP (bl t)).1) = (strN (readP (bl t)).1)))) && ((readP (bl t)).2 == (readP (bl t)).2))) (ag := true) (c := (((((decide ((strN (showL (bl s))) = (strN (showL (bl s))))) && true) && (decide (s = s))) && (decide ((strN (readP (bl t)).1) = (strN (readP (bl t)).1)))) && ((readP (bl t)).2 == (readP (bl t)).2))) (v := (.bool (!(readP (bl t)).2))) hf rfl rfl rfl (fun hact => (r_move (gb_ev hact rfl))) rfl rfl ?_; clear hf fa; intro fa hf
    refine sqgF (act := ((((((decide ((strN (showL (bl s))) = (strN (showL (bl s))))) && true) && (decide (s = s))) && (decide ((strN (readP (bl t)).1) = (strN (readP (bl t)).1)))) && ((readP (bl t)).2 == (readP (bl t)).2)) && !(!(readP (bl t)).2))) (ag := (((((decide ((strN (showL (bl s))) = (strN (showL (bl s))))) && true) && (decide (s = s))) && (decide ((strN (readP (bl t)).1) = (strN (readP (bl t)).1)))) && ((readP (bl t)).2 == (readP (bl t)).2))) (c := (!(readP (bl t)).2)) (v := (.string (strN (readP (bl t)).1))) hf rfl rfl rfl (fun hact => (r_move rfl)) rfl rfl ?_; clear hf fa; intro fa hf
    refine sqgd (R := fun vq wq => vq = gb ((((((decide ((strN (showL (bl s))) = (strN (showL (bl s))))) && true) && (decide (s = s))) && (decide ((strN (readP (bl t)).1) = (strN (readP (bl t)).1)))) && ((readP (bl t)).2 == (readP (bl t)).2)) && !(!(readP (bl t)).2)) (.string (strN (showL (bl (strN (readP (bl t)).1))))) ∧ Below w6.heap.size w6 wq) (act := ((((((decide ((strN (showL (bl s))) = (strN (showL (bl s))))) && true) && (decide (s = s))) && (decide ((strN (readP (bl t)).1) = (strN (readP (bl t)).1)))) && ((readP (bl t)).2 == (readP (bl t)).2)) && !(!(readP (bl t)).2))) (g := 25) (want := false) (ag := (((((decide ((strN (showL (bl s))) = (strN (showL (bl s))))) && true) && (decide (s = s))) && (decide ((strN (readP (bl t)).1) = (strN (readP (bl t)).1)))) && ((readP (bl t)).2 == (readP (bl t)).2))) (c := (!(readP (bl t)).2)) hf (by rfl) (by rfl) (act_F _ _) (fun hact => (d_callB (vs := [(.string (strN (readP (bl t)).1))]) (cons_ev (gb_ev hact rfl) rfl) Try.func17 (by kernel_rfl) (by kernel_rfl) (show_any (strN (readP (bl t)).1) _ (by have := hrp; omega))).mono (fun _ _ h => ⟨by rw [h.1, hact]; rfl, h.2⟩)) (fun h => ⟨by rw [h]; rfl, Below.refl _ _⟩) rfl ?_; clear hf fa; rintro fa _ w7 ⟨rfl, he7⟩ hf
    replace hb := hb.trans (Below.mono he7 hb.size)
    change Fr _ _ ((66, (gb ((((((decide ((strN (showL (bl s))) = (strN (showL (bl s))))) && true) && (decide (s = s))) && (decide ((strN (readP (bl t)).1) = (strN (readP (bl t)).1)))) && ((readP (bl t)).2 == (readP (bl t)).2)) && !(!(readP (bl t)).2)) (.string (strN (showL (bl (strN (readP (bl t)).1))))))) :: _) at hf
    refine sqgF (act := ((((((decide ((strN (showL (bl s))) = (strN (showL (bl s))))) && true) && (decide (s = s))) && (decide ((strN (readP (bl t)).1) = (strN (readP (bl t)).1)))) && ((readP (bl t)).2 == (readP (bl t)).2)) && !(!(readP (bl t)).2))) (ag := (((((decide ((strN (showL (bl s))) = (strN (showL (bl s))))) && true) && (decide (s = s))) && (decide ((strN (readP (bl t)).1) = (strN (readP (bl t)).1)))) && ((readP (bl t)).2 == (readP (bl t)).2))) (c := (!(readP (bl t)).2)) (v := (.string t)) hf rfl rfl rfl (fun hact => (r_move rfl)) rfl rfl ?_; clear hf fa; intro fa hf
    refine sqgF (act := ((((((decide ((strN (showL (bl s))) = (strN (showL (bl s))))) && true) && (decide (s = s))) && (decide ((strN (readP (bl t)).1) = (strN (readP (bl t)).1)))) && ((readP (bl t)).2 == (readP (bl t)).2)) && !(!(readP (bl t)).2))) (ag := (((((decide ((strN (showL (bl s))) = (strN (showL (bl s))))) && true) && (decide (s = s))) && (decide ((strN (readP (bl t)).1) = (strN (readP (bl t)).1)))) && ((readP (bl t)).2 == (readP (bl t)).2))) (c := (!(readP (bl t)).2)) (v := (.bool (decide ((strN (showL (bl (strN (readP (bl t)).1)))) = t)))) hf rfl rfl rfl (fun hact => (r_seq (gb_ev hact rfl) (gb_ev hact rfl))) rfl rfl ?_; clear hf fa; intro fa hf
    refine sqgT (act := (((((decide ((strN (showL (bl s))) = (strN (showL (bl s))))) && true) && (decide (s = s))) && (decide ((strN (readP (bl t)).1) = (strN (readP (bl t)).1)))) && ((readP (bl t)).2 == (readP (bl t)).2))) (ag := true) (c := (((((decide ((strN (showL (bl s))) = (strN (showL (bl s))))) && true) && (decide (s = s))) && (decide ((strN (readP (bl t)).1) = (strN (readP (bl t)).1)))) && ((readP (bl t)).2 == (readP (bl t)).2))) (v := (.bool ((!(readP (bl t)).2) || (decide ((strN (showL (bl (strN (readP (bl t)).1)))) = t))))) hf rfl rfl rfl (fun hact => (r_pickO2 (q := (((((decide ((strN (showL (bl s))) = (strN (showL (bl s))))) && true) && (decide (s = s))) && (decide ((strN (readP (bl t)).1) = (strN (readP (bl t)).1)))) && ((readP (bl t)).2 == (readP (bl t)).2))) (b := (!(readP (bl t)).2)) (e := (decide ((strN (showL (bl (strN (readP (bl t)).1)))) = t))) hact rfl rfl rfl)) rfl rfl ?_; clear hf fa; intro fa hf
    refine sqv hf (r_pickA (b := (((((decide ((strN (showL (bl s))) = (strN (showL (bl s))))) && true) && (decide (s = s))) && (decide ((strN (readP (bl t)).1) = (strN (readP (bl t)).1)))) && ((readP (bl t)).2 == (readP (bl t)).2))) (e := ((!(readP (bl t)).2) || (decide ((strN (showL (bl (strN (readP (bl t)).1)))) = t)))) rfl rfl rfl) rfl rfl rfl ?_; clear hf fa; intro fa hf
    refine sqv hf (r_assign rfl) rfl rfl rfl ?_; clear hf fa; intro fa hf
    apply wpList_nil
    (try simp only [Exit.then, Exit.inBlock, ↓reduceIte, Nat.reduceEqDiff])
    refine hK11 _ _ ?_
    refine wp_ret ?_
    (try simp only [Exit.then, Exit.inBlock])
    refine ret1 hf rfl rfl ?_
    refine ⟨congrArg (fun b => Ending.returned (.bool b)) ?_, hb⟩
    have hok := readP_ok t
    cases hbb : (readP (bl t)).2 with
    | false => simp
    | true => rw [hok hbb]; simp
end Go.Proofs.Ytahgkfekggkjnaa
