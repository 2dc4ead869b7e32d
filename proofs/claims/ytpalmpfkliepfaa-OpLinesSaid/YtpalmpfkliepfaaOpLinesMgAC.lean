/- What is proved here: Number: what a text is of digits, by the program. What is proved here: Digits and Number, by the document. What is proved here: a builder's WriteByte, off the kit's shelf. What is proved here: Contains at one byte; a builder of bytes. What is proved here: types of values: which may be, and their names, by the program and by the document. What is proved here: strings.Join (laid by the kit's shelf). What is proved here: names of types and texts, by the program and by the document. What is proved here: values: Cut and Right. What is proved here: Cut at one byte; Value, by the program and by the document. What is proved here: ReadValue, by the program and by the document. What is proved here: bytes as hex digits, by the program and by the document. What is proved here: bytes read from hex digits, by the program and by the document. -/
import Derived.Test.YtpalmpfkliepfaaOpLinesMgAB
import Derived.Shelf.Strings.Builder1
import Derived.Shelf.Strings.OnBuilder
namespace Go.Proofs.Ytpalmpfkliepfaa
open Go.RowKit Ut
set_option linter.unusedVariables false
set_option linter.unusedSimpArgs false
theorem bl_get {u : ByteArray} {k : Nat} (h : k < u.size) : (bl u)[k]? = some (sbt u k) := by
  have h2 : k < (bl u).length := by rw [bl_length]; exact h
  rw [List.getElem?_eq_getElem h2, ← bl_sbt u k h, List.getD_eq_getElem?_getD, List.getElem?_eq_getElem h2]; rfl
theorem bl_take {u : ByteArray} {k : Nat} (h : k < u.size) : (bl u).take (k + 1) = (bl u).take k ++ [sbt u k] := by
  rw [List.take_add_one, bl_get h]; rfl
theorem bl_head {u : ByteArray} (h : 0 < u.size) : (bl u).head? = some (sbt u 0) := by rw [List.head?_eq_getElem?, bl_get h]
theorem bl_nil {u : ByteArray} : bl u = [] ↔ u.size = 0 := by rw [← bl_length, List.length_eq_zero_iff]
theorem emp_iff {u : ByteArray} : u = ⟨#[]⟩ ↔ u.size = 0 := by rw [← bl_nil]; exact ⟨fun h => by rw [h]; rfl, fun h => bl_inj h⟩
theorem numT_bad0 {lo : Bool} {u : ByteArray} (h : u.size = 0 ∨ 19 < u.size) : numT lo (bl u) = (0, false) := by
  unfold numT
  rw [if_pos]
  rcases h with h | h
  · exact .inl (bl_nil.2 h)
  · exact .inr (.inl (by rw [bl_length]; exact h))
theorem numT_bad3 {lo : Bool} {u : ByteArray} (h0 : 0 < u.size) (h : sbt u 0 = 48) (h2 : lo = true ∨ 1 < u.size) : numT lo (bl u) = (0, false) := by
  unfold numT
  rw [if_pos]
  exact .inr (.inr ⟨by rw [bl_head h0, h], by rw [bl_length]; exact h2⟩)
theorem numT_bad4 {lo : Bool} {u : ByteArray} {k : Nat} (h0 : k < u.size) (h : ¬ (48 ≤ sbt u k ∧ sbt u k ≤ 57)) : numT lo (bl u) = (0, false) := by
  unfold numT
  split
  · rfl
  · rw [if_neg (fun h2 => h (h2 _ (List.mem_of_getElem? (bl_get h0))))]
theorem numT_go {lo : Bool} {u : ByteArray} {v : Nat} (h0 : ¬ u.size = 0) (h1 : ¬ 19 < u.size) (h2 : ¬ (sbt u 0 = 48 ∧ (lo = true ∨ 1 < u.size))) (hd : ∀ c ∈ bl u, 48 ≤ c ∧ c ≤ 57) (hv : v = valL (bl u)) :
    numT lo (bl u) = if lo = true ∧ v ≤ 9223372036854775808 then (-(v : Int), true) else if lo = false ∧ v < 9223372036854775808 then ((v : Int), true) else (0, false) := by
  unfold numT
  rw [if_neg, if_pos hd, hv]
  rintro (h3 | h3 | ⟨h3, h4⟩)
  · exact h0 (bl_nil.1 h3)
  · rw [bl_length] at h3; exact h1 h3
  · rw [bl_head (by omega)] at h3
    rw [bl_length] at h4
    exact h2 ⟨Option.some.inj h3, h4⟩
theorem numP_cut {s u : ByteArray} {lo : Bool} (hu : cutS s ⟨#[45]⟩ = u) (hlo : hasP s ⟨#[45]⟩ = lo) : numP (bl s) = numT lo (bl u) := by
  have h1 : bl (cutS s ⟨#[45]⟩) = if (bl s).head? = some 45 then (bl s).tail else bl s := cutS_one s 45
  have h2 : hasP s ⟨#[45]⟩ = decide ((bl s).head? = some 45) := hasP_one s 45
  rw [hu] at h1
  rw [hlo] at h2
  unfold numP
  rw [h1, h2]
  by_cases h : (bl s).head? = some 45
  · rw [if_pos h, if_pos h, decide_eq_true h]
  · rw [if_neg h, if_neg h, decide_eq_false h]

set_option maxHeartbeats 1000000 in
set_option maxRecDepth 100000 in
theorem number_any (s : ByteArray) (w : World) (hs : s.size ≤ 100000) : Calls Try.prog 25 #[(.string s)] w fun e w' => e = .returned (.tuple #[.int .i64 (numP (bl s)).1, .bool (numP (bl s)).2]) ∧ Below w.heap.size w w' := by
  obtain ⟨u, hu⟩ : ∃ u, cutS s ⟨#[45]⟩ = u := ⟨_, rfl⟩
  obtain ⟨lo, hlo⟩ : ∃ lo, hasP s ⟨#[45]⟩ = lo := ⟨_, rfl⟩
  have hul := cutS_len s ⟨#[45]⟩; rw [hu] at hul
  have hnum := numP_cut hu hlo
  refine sx_enter (L := [(0, (.string s))]) Try.func25 rfl rfl rfl rfl (fun fa hf => ?_)
  have hb : Below w.heap.size w w := Below.refl _ _
  refine wp_seq_k (fun K1 hK1 => ?_)
  refine wp_region_lit ?_
  refine sqv hf (r_assign rfl) rfl rfl rfl ?_; clear hf fa; intro fa hf
  refine sqv hf (r_assign rfl) rfl rfl rfl ?_; clear hf fa; intro fa hf
  apply wpList_nil
  (try simp only [Exit.then, Exit.inBlock, ↓reduceIte, Nat.reduceEqDiff])
  refine hK1 _ _ ?_
  refine wp_seq_k (fun K2 hK2 => ?_)
  refine wp_region_lit ?_
  refine sqv hf (r_move rfl) rfl rfl rfl ?_; clear hf fa; intro fa hf
  refine sqdt hf (d_callS (vs := [(.string s), (.string ⟨#[45]⟩)]) rfl Try.func63 (by kernel_rfl) (by kernel_rfl) (by have h := cutPrefix_any s ⟨#[45]⟩ w; rw [hu, hlo] at h; exact h)) rfl rfl rfl ?_; clear hf fa; rintro fa _ _ ⟨rfl, rfl⟩ hf
  refine sqv hf (r_move rfl) rfl rfl rfl ?_; clear hf fa; intro fa hf
  refine sqv hf (r_extract rfl (i := 0) rfl) rfl rfl rfl ?_; clear hf fa; intro fa hf
  refine sqv hf (r_extract rfl (i := 1) rfl) rfl rfl rfl ?_; clear hf fa; intro fa hf
  refine sqv hf (r_assign rfl) rfl rfl rfl ?_; clear hf fa; intro fa hf
  refine sqv hf (r_assign rfl) rfl rfl rfl ?_; clear hf fa; intro fa hf
  apply wpList_nil
  (try simp only [Exit.then, Exit.inBlock, ↓reduceIte, Nat.reduceEqDiff])
  refine hK2 _ _ ?_
  refine wp_seq_k (fun K3 hK3 => ?_)
  refine wp_region_lit ?_
  refine sqv hf (r_assign rfl) rfl rfl rfl ?_; clear hf fa; intro fa hf
  apply wpList_nil
  (try simp only [Exit.then, Exit.inBlock, ↓reduceIte, Nat.reduceEqDiff])
  refine hK3 _ _ ?_
  refine wp_seq_k (fun K4 hK4 => ?_)
  refine wp_seq_k (fun K5 hK5 => ?_)
  by_cases hsp1 : u.size = 0
  · have hsp1b : decide (u.size = 0) = true := decide_eq_true hsp1
    refine wp_region_lit ?_
    refine sqv hf (r_move rfl) rfl rfl rfl ?_; clear hf fa; intro fa hf
    refine sqv hf (Runs.veq (r_seq rfl rfl) (congrArg Value.bool (show _ = true from (decide_eq_true (emp_iff.2 hsp1))))) rfl rfl rfl ?_; clear hf fa; intro fa hf
    refine sqv hf (r_move rfl) rfl rfl rfl ?_; clear hf fa; intro fa hf
    refine sqgF (act := false) (ag := true) (c := true) (v := .bool false) hf rfl rfl rfl (fun hact => by cases hact) rfl rfl ?_; clear hf fa; intro fa hf
    refine sqgF (act := false) (ag := true) (c := true) (v := .bool false) hf rfl rfl rfl (fun hact => by cases hact) rfl rfl ?_; clear hf fa; intro fa hf
    refine sqgF (act := false) (ag := true) (c := true) (v := .bool false) hf rfl rfl rfl (fun hact => by cases hact) rfl rfl ?_; clear hf fa; intro fa hf
    refine sqv hf (r_pick (b := true) rfl rfl rfl rfl) rfl rfl rfl ?_; clear hf fa; intro fa hf
    refine sqv hf (r_move rfl) rfl rfl rfl ?_; clear hf fa; intro fa hf
    refine sqgF (act := false) (ag := true) (c := true) (v := .bool false) hf rfl rfl rfl (fun hact => by cases hact) rfl rfl ?_; clear hf fa; intro fa hf
    refine sqgF (act := false) (ag := true) (c := true) (v := .bool false) hf rfl rfl rfl (fun hact => by cases hact) rfl rfl ?_; clear hf fa; intro fa hf
    refine sqgF (act := false) (ag := true) (c := true) (v := .bool false) hf rfl rfl rfl (fun hact => by cases hact) rfl rfl ?_; clear hf fa; intro fa hf
    refine sqgF (act := false) (ag := true) (c := true) (v := .bool false) hf rfl rfl rfl (fun hact => by cases hact) rfl rfl ?_; clear hf fa; intro fa hf
    refine sqgT (act := false) (ag := false) (c := false) (v := .bool false) hf rfl rfl rfl (fun hact => by cases hact) rfl rfl ?_; clear hf fa; intro fa hf
    refine sqgT (act := false) (ag := false) (c := false) (v := .bool false) hf rfl rfl rfl (fun hact => by cases hact) rfl rfl ?_; clear hf fa; intro fa hf
    refine sqgF (act := false) (ag := false) (c := false) (v := .bool false) hf rfl rfl rfl (fun hact => by cases hact) rfl rfl ?_; clear hf fa; intro fa hf
    refine sqgF (act := false) (ag := false) (c := false) (v := .bool false) hf rfl rfl rfl (fun hact => by cases hact) rfl rfl ?_; clear hf fa; intro fa hf
    refine sqgF (act := false) (ag := false) (c := false) (v := .bool false) hf rfl rfl rfl (fun hact => by cases hact) rfl rfl ?_; clear hf fa; intro fa hf
    refine sqgT (act := false) (ag := false) (c := false) (v := .bool false) hf rfl rfl rfl (fun hact => by cases hact) rfl rfl ?_; clear hf fa; intro fa hf
    refine sqgF (act := false) (ag := true) (c := true) (v := .bool false) hf rfl rfl rfl (fun hact => by cases hact) rfl rfl ?_; clear hf fa; intro fa hf
    refine sqv hf (r_pick (b := true) rfl rfl rfl rfl) rfl rfl rfl ?_; clear hf fa; intro fa hf
    apply wpList_nil
    (try simp only [Exit.then, Exit.inBlock, ↓reduceIte, Nat.reduceEqDiff])
    refine hK5 _ _ ?_
    refine wp_cond_true (hf.ev rfl) ?_
    refine wp_seq_k (fun K6 hK6 => ?_)
    refine wp_region_lit ?_
    refine sqv hf (r_assign rfl) rfl rfl rfl ?_; clear hf fa; intro fa hf
    refine sqv hf (r_assign rfl) rfl rfl rfl ?_; clear hf fa; intro fa hf
    apply wpList_nil
    (try simp only [Exit.then, Exit.inBlock, ↓reduceIte, Nat.reduceEqDiff])
    refine hK6 _ _ ?_
    refine wp_ret ?_
    (try simp only [Exit.then, Exit.inBlock])
    refine ret2 hf rfl rfl rfl ?_
    rw [hnum, numT_bad0 (.inl hsp1)]; exact ⟨rfl, hb⟩
  · have hsp1b : decide (u.size = 0) = false := decide_eq_false hsp1
    refine wp_region_lit ?_
    refine sqv hf (r_move rfl) rfl rfl rfl ?_; clear hf fa; intro fa hf
    refine sqv hf (Runs.veq (r_seq rfl rfl) (congrArg Value.bool (show _ = false from (decide_eq_false (fun e => hsp1 (emp_iff.1 e)))))) rfl rfl rfl ?_; clear hf fa; intro fa hf
    refine sqv hf (r_move rfl) rfl rfl rfl ?_; clear hf fa; intro fa hf
    refine sqgd (act := true) (g := 2) (want := false) (ag := true) (c := false) hf (by rfl) (by rfl) rfl (fun _ =>  Runs.does (R := fun vq wq => vq = (.string u) ∧ w = wq) (r_move rfl) ⟨rfl, rfl⟩) (fun h => by cases h) rfl ?_; clear hf fa; rintro fa _ _ ⟨rfl, rfl⟩ hf
    change Fr _ _ ((16, (.string u)) :: _) at hf
    refine sqgd (act := true) (g := 2) (want := false) (ag := true) (c := false) hf (by rfl) (by rfl) rfl (fun _ =>  Runs.does (R := fun vq wq => vq = (.int .i64 ((u.size : Nat) : Int)) ∧ w = wq) (r_lens rfl Try.underlying9) ⟨rfl, rfl⟩) (fun h => by cases h) rfl ?_; clear hf fa; rintro fa _ _ ⟨rfl, rfl⟩ hf
    change Fr _ _ ((17, (.int .i64 ((u.size : Nat) : Int))) :: _) at hf
    refine sqgd (act := true) (g := 2) (want := false) (ag := true) (c := false) hf (by rfl) (by rfl) rfl (fun _ =>  Runs.does (R := fun vq wq => vq = (.bool (decide ((19 : Int) < ((u.size : Nat) : Int)))) ∧ w = wq) (r_gt rfl rfl) ⟨rfl, rfl⟩) (fun h => by cases h) rfl ?_; clear hf fa; rintro fa _ _ ⟨rfl, rfl⟩ hf
    change Fr _ _ ((18, (.bool (decide ((19 : Int) < ((u.size : Nat) : Int))))) :: _) at hf
    refine sqv hf (r_pick (b := false) rfl rfl rfl rfl) rfl rfl rfl ?_; clear hf fa; intro fa hf
    refine sqv hf (r_move rfl) rfl rfl rfl ?_; clear hf fa; intro fa hf
    refine sqgF (act := (!(decide ((19 : Int) < ((u.size : Nat) : Int))))) (ag := true) (c := (decide ((19 : Int) < ((u.size : Nat) : Int)))) (v := (.string u)) hf rfl rfl rfl (fun hact => (r_move rfl)) rfl rfl ?_; clear hf fa; intro fa hf
    refine sqgF (act := (!(decide ((19 : Int) < ((u.size : Nat) : Int))))) (ag := true) (c := (decide ((19 : Int) < ((u.size : Nat) : Int)))) (v := (.int .u8 ((sbt u 0 : Nat) : Int))) hf rfl rfl rfl (fun hact => (by have hact0 := hact; (try simp only [Bool.and_eq_true, Bool.not_eq_true', Bool.or_eq_false_iff, Bool.or_eq_true, Bool.and_eq_false_iff, ne_eq, decide_eq_true_eq, decide_eq_false_iff_not] at hact0); exact (r_sindexD (j := 0) (gb_ev hact rfl) rfl Try.underlying9 rfl (by omega)))) rfl rfl ?_; clear hf fa; intro fa hf
    refine sqgF (act := (!(decide ((19 : Int) < ((u.size : Nat) : Int))))) (ag := true) (c := (decide ((19 : Int) < ((u.size : Nat) : Int)))) (v := (.bool (decide (((sbt u 0 : Nat) : Int) = (48 : Int))))) hf rfl rfl rfl (fun hact => (r_eq (gb_ev hact rfl) rfl)) rfl rfl ?_; clear hf fa; intro fa hf
    refine sqgF (act := (!(decide ((19 : Int) < ((u.size : Nat) : Int))))) (ag := true) (c := (decide ((19 : Int) < ((u.size : Nat) : Int)))) (v := (.bool (decide (((sbt u 0 : Nat) : Int) = (48 : Int))))) hf rfl rfl rfl (fun hact => (r_move (gb_ev hact rfl))) rfl rfl ?_; clear hf fa; intro fa hf
    refine sqgT (act := ((!(decide ((19 : Int) < ((u.size : Nat) : Int)))) && (decide (((sbt u 0 : Nat) : Int) = (48 : Int))))) (ag := (!(decide ((19 : Int) < ((u.size : Nat) : Int))))) (c := (decide (((sbt u 0 : Nat) : Int) = (48 : Int)))) (v := (.bool lo)) hf rfl rfl rfl (fun hact => (r_move rfl)) rfl rfl ?_; clear hf fa; intro fa hf
    refine sqgT (act := ((!(decide ((19 : Int) < ((u.size : Nat) : Int)))) && (decide (((sbt u 0 : Nat) : Int) = (48 : Int))))) (ag := (!(decide ((19 : Int) < ((u.size : Nat) : Int))))) (c := (decide (((sbt u 0 : Nat) : Int) = (48 : Int)))) (v := (.bool lo)) hf rfl rfl rfl (fun hact => (r_move (gb_ev hact rfl))) rfl rfl ?_; clear hf fa; intro fa hf
    refine sqgF (act := (((!(decide ((19 : Int) < ((u.size : Nat) : Int)))) && (decide (((sbt u 0 : Nat) : Int) = (48 : Int)))) && !lo)) (ag := ((!(decide ((19 : Int) < ((u.size : Nat) : Int)))) && (decide (((sbt u 0 : Nat) : Int) = (48 : Int))))) (c := lo) (v := (.string u)) hf rfl rfl rfl (fun hact => (r_move rfl)) rfl rfl ?_; clear hf fa; intro fa hf
    refine sqgF (act := (((!(decide ((19 : Int) < ((u.size : Nat) : Int)))) && (decide (((sbt u 0 : Nat) : Int) = (48 : Int)))) && !lo)) (ag := ((!(decide ((19 : Int) < ((u.size : Nat) : Int)))) && (decide (((sbt u 0 : Nat) : Int) = (48 : Int))))) (c := lo) (v := (.int .i64 ((u.size : Nat) : Int))) hf rfl rfl rfl (fun hact => (r_lens (gb_ev hact rfl) Try.underlying9)) rfl rfl ?_; clear hf fa; intro fa hf
    refine sqgF (act := (((!(decide ((19 : Int) < ((u.size : Nat) : Int)))) && (decide (((sbt u 0 : Nat) : Int) = (48 : Int)))) && !lo)) (ag := ((!(decide ((19 : Int) < ((u.size : Nat) : Int)))) && (decide (((sbt u 0 : Nat) : Int) = (48 : Int))))) (c := lo) (v := (.bool (decide ((1 : Int) < ((u.size : Nat) : Int))))) hf rfl rfl rfl (fun hact => (r_gt (gb_ev hact rfl) rfl)) rfl rfl ?_; clear hf fa; intro fa hf
    refine sqgT (act := ((!(decide ((19 : Int) < ((u.size : Nat) : Int)))) && (decide (((sbt u 0 : Nat) : Int) = (48 : Int))))) (ag := (!(decide ((19 : Int) < ((u.size : Nat) : Int))))) (c := (decide (((sbt u 0 : Nat) : Int) = (48 : Int)))) (v := (.bool (lo || (decide ((1 : Int) < ((u.size : Nat) : Int)))))) hf rfl rfl rfl (fun hact => (r_pickO2 (q := ((!(decide ((19 : Int) < ((u.size : Nat) : Int)))) && (decide (((sbt u 0 : Nat) : Int) = (48 : Int))))) (b := lo) (e := (decide ((1 : Int) < ((u.size : Nat) : Int)))) hact rfl rfl rfl)) rfl rfl ?_; clear hf fa; intro fa hf
    refine sqgF (act := (!(decide ((19 : Int) < ((u.size : Nat) : Int))))) (ag := true) (c := (decide ((19 : Int) < ((u.size : Nat) : Int)))) (v := (.bool ((decide (((sbt u 0 : Nat) : Int) = (48 : Int))) && (lo || (decide ((1 : Int) < ((u.size : Nat) : Int))))))) hf rfl rfl rfl (fun hact => (r_pickA2 (q := (!(decide ((19 : Int) < ((u.size : Nat) : Int))))) (b := (decide (((sbt u 0 : Nat) : Int) = (48 : Int)))) (e := (lo || (decide ((1 : Int) < ((u.size : Nat) : Int))))) hact rfl rfl rfl)) rfl rfl ?_; clear hf fa; intro fa hf
    refine sqv hf (r_pickO (b := (decide ((19 : Int) < ((u.size : Nat) : Int)))) (e := ((decide (((sbt u 0 : Nat) : Int) = (48 : Int))) && (lo || (decide ((1 : Int) < ((u.size : Nat) : Int)))))) rfl rfl rfl) rfl rfl rfl ?_; clear hf fa; intro fa hf
    apply wpList_nil
    (try simp only [Exit.then, Exit.inBlock, ↓reduceIte, Nat.reduceEqDiff])
    refine hK5 _ _ ?_
    refine wp_cond_split (t := ((decide ((19 : Int) < ((u.size : Nat) : Int))) || ((decide (((sbt u 0 : Nat) : Int) = (48 : Int))) && (lo || (decide ((1 : Int) < ((u.size : Nat) : Int))))))) (hf.ev rfl) (fun hqt32_2 => ?_) (fun hqt32_2 => ?_)
    · have hqt32_2b := hqt32_2
      try simp only [decide_eq_true_eq, Bool.and_eq_true, Bool.or_eq_true, Bool.not_eq_true', decide_eq_false_iff_not, ne_eq, Bool.not_eq_true] at hqt32_2
      refine wp_seq_k (fun K7 hK7 => ?_)
      refine wp_region_lit ?_
      refine sqv hf (r_assign rfl) rfl rfl rfl ?_; clear hf fa; intro fa hf
      refine sqv hf (r_assign rfl) rfl rfl rfl ?_; clear hf fa; intro fa hf
      apply wpList_nil
      (try simp only [Exit.then, Exit.inBlock, ↓reduceIte, Nat.reduceEqDiff])
      refine hK7 _ _ ?_
      refine wp_ret ?_
      (try simp only [Exit.then, Exit.inBlock])
      refine ret2 hf rfl rfl rfl ?_
      rw [hnum, show numT lo (bl u) = (0, false) from by rcases hqt32_2 with h | ⟨h1, h2⟩; exact numT_bad0 (.inr (by omega)); exact numT_bad3 (by omega) (by omega) (h2.imp id (by omega))]; exact ⟨rfl, hb⟩
    · have hqt32_2b := hqt32_2
      replace hqt32_2 := Bool.eq_false_iff.1 hqt32_2
      try simp only [ne_eq, decide_eq_true_eq, Bool.and_eq_true, Bool.or_eq_true, Bool.not_eq_true', decide_eq_false_iff_not] at hqt32_2
      refine wp_skip ?_
      (try simp only [Exit.then, Exit.inBlock, ↓reduceIte, Nat.reduceEqDiff])
      refine hK4 _ _ ?_
      refine wp_seq_k (fun K8 hK8 => ?_)
      refine wp_seq_k (fun K9 hK9 => ?_)
      refine wp_region_lit ?_
      refine sqv hf (r_move rfl) rfl rfl rfl ?_; clear hf fa; intro fa hf
      refine sqv hf (r_lens rfl Try.underlying9) rfl rfl rfl ?_; clear hf fa; intro fa hf
      refine sqv hf (r_move rfl) rfl rfl rfl ?_; clear hf fa; intro fa hf
      apply wpList_nil
      (try simp only [Exit.then, Exit.inBlock, ↓reduceIte, Nat.reduceEqDiff])
      refine hK9 _ _ ?_
      refine wp_block ?_
      refine wp_loop_k (fun mq fa wr => ∃ (k : Nat) (v : Nat), mq = u.size - k ∧ Fr 75 fa [(4, (.string u)), (5, (.bool lo)), (6, (.int .u64 ((v : Nat) : Int))), (34, (.int .i64 ((u.size : Nat) : Int))), (35, (.int .i64 ((k : Nat) : Int)))] ∧ Below w.heap.size w wr ∧ (k ≤ u.size) ∧ (v = valL ((bl u).take k)) ∧ (∀ c ∈ (bl u).take k, 48 ≤ c ∧ c ≤ 57) ∧ (v < 10 ^ k)) ?_ ?_
      · skip
        exact ⟨_, 0, 0, rfl, hf.sub ⟨rfl, rfl, (some_int (by first | rfl | omega)), rfl, (some_int (by first | rfl | omega)), trivial⟩, hb, by omega, rfl, (by intro c hc; cases hc), by decide⟩
      · skip
        clear hf fa; intro mq1 fa w1 hI KL1 hKL1
        clear hb
        obtain ⟨k, v, hmq1, hf, hb, hk, hv, hd, hvb⟩ := hI
        refine wp_seq_k (fun K10 hK10 => ?_)
        refine wp_region_lit ?_
        refine sqv hf (r_lt rfl rfl) rfl rfl rfl ?_; clear hf fa; intro fa hf
        apply wpList_nil
        (try simp only [Exit.then, Exit.inBlock, ↓reduceIte, Nat.reduceEqDiff])
        refine hK10 _ _ ?_
        refine wp_seq_k (fun K11 hK11 => ?_)
        refine wp_cond_split (t := (decide (((k : Nat) : Int) < ((u.size : Nat) : Int)))) (hf.ev rfl) (fun hqt36_1 => ?_) (fun hqt36_1 => ?_)
        · have hqt36_1b := hqt36_1
          try simp only [decide_eq_true_eq, Bool.and_eq_true, Bool.or_eq_true, Bool.not_eq_true', decide_eq_false_iff_not, ne_eq, Bool.not_eq_true] at hqt36_1
          refine wp_skip ?_
          (try simp only [Exit.then, Exit.inBlock, ↓reduceIte, Nat.reduceEqDiff])
          refine hK11 _ _ ?_
          refine wp_seq_k (fun K12 hK12 => ?_)
          refine wp_block ?_
          refine wp_seq_k (fun K13 hK13 => ?_)
          refine wp_region_lit ?_
          refine sqv hf (r_move rfl) rfl rfl rfl ?_; clear hf fa; intro fa hf
          refine sqv hf (r_assign rfl) rfl rfl rfl ?_; clear hf fa; intro fa hf
          apply wpList_nil
          (try simp only [Exit.then, Exit.inBlock, ↓reduceIte, Nat.reduceEqDiff])
          refine hK13 _ _ ?_
          refine wp_seq_k (fun K14 hK14 => ?_)
          refine wp_seq_k (fun K15 hK15 => ?_)
          have hsb := sbt_lt u k
          refine wp_region_lit ?_
          refine sqv hf (r_move rfl) rfl rfl rfl ?_; clear hf fa; intro fa hf
          refine sqv hf (r_move rfl) rfl rfl rfl ?_; clear hf fa; intro fa hf
          refine sqv hf (r_sindexD (j := k) rfl rfl Try.underlying9 rfl (by omega)) rfl rfl rfl ?_; clear hf fa; intro fa hf
          refine sqv hf (r_lt rfl rfl) rfl rfl rfl ?_; clear hf fa; intro fa hf
          refine sqv hf (r_move rfl) rfl rfl rfl ?_; clear hf fa; intro fa hf
          refine sqgF (act := (!(decide (((sbt u k : Nat) : Int) < (48 : Int))))) (ag := true) (c := (decide (((sbt u k : Nat) : Int) < (48 : Int)))) (v := (.string u)) hf rfl rfl rfl (fun hact => (r_move rfl)) rfl rfl ?_; clear hf fa; intro fa hf
          refine sqgF (act := (!(decide (((sbt u k : Nat) : Int) < (48 : Int))))) (ag := true) (c := (decide (((sbt u k : Nat) : Int) < (48 : Int)))) (v := (.int .i64 ((k : Nat) : Int))) hf rfl rfl rfl (fun hact => (r_move rfl)) rfl rfl ?_; clear hf fa; intro fa hf
          refine sqgF (act := (!(decide (((sbt u k : Nat) : Int) < (48 : Int))))) (ag := true) (c := (decide (((sbt u k : Nat) : Int) < (48 : Int)))) (v := (.int .u8 ((sbt u k : Nat) : Int))) hf rfl rfl rfl (fun hact => (by have hact0 := hact; (try simp only [Bool.and_eq_true, Bool.not_eq_true', Bool.or_eq_false_iff, Bool.or_eq_true, Bool.and_eq_false_iff, ne_eq, decide_eq_true_eq, decide_eq_false_iff_not] at hact0); exact (r_sindexD (j := k) (gb_ev hact rfl) (gb_ev hact rfl) Try.underlying9 rfl (by omega)))) rfl rfl ?_; clear hf fa; intro fa hf
          refine sqgF (act := (!(decide (((sbt u k : Nat) : Int) < (48 : Int))))) (ag := true) (c := (decide (((sbt u k : Nat) : Int) < (48 : Int)))) (v := (.bool (decide ((57 : Int) < ((sbt u k : Nat) : Int))))) hf rfl rfl rfl (fun hact => (r_gt (gb_ev hact rfl) rfl)) rfl rfl ?_; clear hf fa; intro fa hf
          refine sqv hf (r_pickO (b := (decide (((sbt u k : Nat) : Int) < (48 : Int)))) (e := (decide ((57 : Int) < ((sbt u k : Nat) : Int)))) rfl rfl rfl) rfl rfl rfl ?_; clear hf fa; intro fa hf
          apply wpList_nil
          (try simp only [Exit.then, Exit.inBlock, ↓reduceIte, Nat.reduceEqDiff])
          refine hK15 _ _ ?_
          refine wp_cond_split (t := ((decide (((sbt u k : Nat) : Int) < (48 : Int))) || (decide ((57 : Int) < ((sbt u k : Nat) : Int))))) (hf.ev rfl) (fun hqt47_1 => ?_) (fun hqt47_1 => ?_)
          · have hqt47_1b := hqt47_1
            try simp only [decide_eq_true_eq, Bool.and_eq_true, Bool.or_eq_true, Bool.not_eq_true', decide_eq_false_iff_not, ne_eq, Bool.not_eq_true] at hqt47_1
            refine wp_seq_k (fun K16 hK16 => ?_)
            refine wp_region_lit ?_
            refine sqv hf (r_assign rfl) rfl rfl rfl ?_; clear hf fa; intro fa hf
            refine sqv hf (r_assign rfl) rfl rfl rfl ?_; clear hf fa; intro fa hf
            apply wpList_nil
            (try simp only [Exit.then, Exit.inBlock, ↓reduceIte, Nat.reduceEqDiff])
            refine hK16 _ _ ?_
            refine wp_ret ?_
            (try simp only [Exit.then, Exit.inBlock])
            refine ret2 hf rfl rfl rfl ?_
            rw [hnum, numT_bad4 (k := k) (by omega) (by omega)]; exact ⟨rfl, hb⟩
          · have hqt47_1b := hqt47_1
            replace hqt47_1 := Bool.eq_false_iff.1 hqt47_1
            try simp only [ne_eq, decide_eq_true_eq, Bool.and_eq_true, Bool.or_eq_true, Bool.not_eq_true', decide_eq_false_iff_not] at hqt47_1
            refine wp_skip ?_
            (try simp only [Exit.then, Exit.inBlock, ↓reduceIte, Nat.reduceEqDiff])
            refine hK14 _ _ ?_
            have hsb := sbt_lt u k; have hp18 : 10 ^ k ≤ 10 ^ 18 := Nat.pow_le_pow_right (by decide) (by omega)
            refine wp_region_lit ?_
            refine sqv hf (r_move rfl) rfl rfl rfl ?_; clear hf fa; intro fa hf
            refine sqv hf (r_mul (C := (((v : Nat) : Int) * (10 : Int))) rfl rfl (by rw [IntKind.wrap_u64]; omega)) rfl rfl rfl ?_; clear hf fa; intro fa hf
            refine sqv hf (r_move rfl) rfl rfl rfl ?_; clear hf fa; intro fa hf
            refine sqv hf (r_move rfl) rfl rfl rfl ?_; clear hf fa; intro fa hf
            refine sqv hf (r_sindexD (j := k) rfl rfl Try.underlying9 rfl (by omega)) rfl rfl rfl ?_; clear hf fa; intro fa hf
            refine sqv hf (r_sub (C := (((sbt u k : Nat) : Int) - (48 : Int))) rfl rfl (by rw [IntKind.wrap_u8]; omega)) rfl rfl rfl ?_; clear hf fa; intro fa hf
            refine sqv hf (r_conv (C := (((sbt u k - 48) : Nat) : Int)) rfl Try.underlying5 Try.underlying63 (by rw [IntKind.wrap_u64]; omega)) rfl rfl rfl ?_; clear hf fa; intro fa hf
            refine sqv hf (r_add (C := (((v * 10 + (sbt u k - 48)) : Nat) : Int)) rfl rfl (by rw [IntKind.wrap_u64]; omega)) rfl rfl rfl ?_; clear hf fa; intro fa hf
            refine sqv hf (r_assign rfl) rfl rfl rfl ?_; clear hf fa; intro fa hf
            apply wpList_nil
            (try simp only [Exit.then, Exit.inBlock, ↓reduceIte, Nat.reduceEqDiff])
            refine hK12 _ _ ?_
            refine wp_region_lit ?_
            refine sqv hf (r_add (C := (((k : Nat) : Int) + (1 : Int))) rfl rfl (by rw [IntKind.wrap_i64]; omega)) rfl rfl rfl ?_; clear hf fa; intro fa hf
            refine sqv hf (r_move rfl) rfl rfl rfl ?_; clear hf fa; intro fa hf
            apply wpList_nil
            (try simp only [Exit.then, Exit.inBlock, ↓reduceIte, Nat.reduceEqDiff])
            refine hKL1 _ _ _ (by omega) ⟨(k + 1), (v * 10 + (sbt u k - 48)), rfl, hf.sub ⟨rfl, rfl, rfl, rfl, (some_int (by first | rfl | omega)), trivial⟩, hb, by omega, by rw [bl_take (by omega), valL_app, ← hv], (by rw [bl_take (by omega)]; intro c hc; rcases List.mem_append.1 hc with hc | hc; exact hd c hc; simp only [List.mem_singleton] at hc; subst hc; omega), (by rw [Nat.pow_succ]; omega)⟩
        · have hqt36_1b := hqt36_1
          replace hqt36_1 := Bool.eq_false_iff.1 hqt36_1
          try simp only [ne_eq, decide_eq_true_eq, Bool.and_eq_true, Bool.or_eq_true, Bool.not_eq_true', decide_eq_false_iff_not] at hqt36_1
          refine wp_exit ?_
          (try simp only [Exit.then, Exit.inBlock, ↓reduceIte, Nat.reduceEqDiff])
          refine hK8 _ _ ?_
          refine wp_seq_k (fun K17 hK17 => ?_)
          refine wp_block ?_
          refine wp_seq_k (fun K18 hK18 => ?_)
          refine wp_region_lit ?_
          refine sqv hf (r_move rfl) rfl rfl rfl ?_; clear hf fa; intro fa hf
          refine sqv hf (r_move rfl) rfl rfl rfl ?_; clear hf fa; intro fa hf
          refine sqgT (act := lo) (ag := true) (c := lo) (v := (.int .u64 ((v : Nat) : Int))) hf rfl rfl rfl (fun hact => (r_move rfl)) rfl rfl ?_; clear hf fa; intro fa hf
          refine sqgT (act := lo) (ag := true) (c := lo) (v := (.bool (decide (((v : Nat) : Int) ≤ (9223372036854775808 : Int))))) hf rfl rfl rfl (fun hact => (r_le (gb_ev hact rfl) rfl)) rfl rfl ?_; clear hf fa; intro fa hf
          refine sqv hf (r_pickA (b := lo) (e := (decide (((v : Nat) : Int) ≤ (9223372036854775808 : Int)))) rfl rfl rfl) rfl rfl rfl ?_; clear hf fa; intro fa hf
          refine sqv hf (r_assign rfl) rfl rfl rfl ?_; clear hf fa; intro fa hf
          apply wpList_nil
          (try simp only [Exit.then, Exit.inBlock, ↓reduceIte, Nat.reduceEqDiff])
          refine hK18 _ _ ?_
          refine wp_cond_split (t := (lo && (decide (((v : Nat) : Int) ≤ (9223372036854775808 : Int))))) (hf.ev rfl) (fun hqt57_1 => ?_) (fun hqt57_1 => ?_)
          · have hqt57_1b := hqt57_1
            try simp only [decide_eq_true_eq, Bool.and_eq_true, Bool.or_eq_true, Bool.not_eq_true', decide_eq_false_iff_not, ne_eq, Bool.not_eq_true] at hqt57_1
            refine wp_seq_k (fun K19 hK19 => ?_)
            refine wp_region_lit ?_
            refine sqv hf (r_move rfl) rfl rfl rfl ?_; clear hf fa; intro fa hf
            refine sqv hf (r_neg (C := (if v = 0 then 0 else 18446744073709551616 - ((v : Nat) : Int))) rfl (by rw [IntKind.wrap_u64]; split <;> omega)) rfl rfl rfl ?_; clear hf fa; intro fa hf
            refine sqv hf (r_conv (C := (-((v : Nat) : Int))) rfl Try.underlying63 Try.underlying3 (by rw [IntKind.wrap_i64]; split <;> omega)) rfl rfl rfl ?_; clear hf fa; intro fa hf
            refine sqv hf (r_assign rfl) rfl rfl rfl ?_; clear hf fa; intro fa hf
            refine sqv hf (r_assign rfl) rfl rfl rfl ?_; clear hf fa; intro fa hf
            apply wpList_nil
            (try simp only [Exit.then, Exit.inBlock, ↓reduceIte, Nat.reduceEqDiff])
            refine hK19 _ _ ?_
            refine wp_ret ?_
            (try simp only [Exit.then, Exit.inBlock])
            refine ret2 hf rfl rfl rfl ?_
            have hgo := numT_go (lo := lo) (u := u) (v := v) hsp1 (by omega) (fun h => hqt32_2 (.inr ⟨by omega, h.2.imp id (by omega)⟩)) (by rwa [List.take_of_length_le (by rw [bl_length]; omega)] at hd) (by rwa [List.take_of_length_le (by rw [bl_length]; omega)] at hv)
            rw [hnum, hgo]
            rw [if_pos ⟨hqt57_1.1, by have h := hqt57_1.2; omega⟩]; exact ⟨rfl, hb⟩
          · have hqt57_1b := hqt57_1
            replace hqt57_1 := Bool.eq_false_iff.1 hqt57_1
            try simp only [ne_eq, decide_eq_true_eq, Bool.and_eq_true, Bool.or_eq_true, Bool.not_eq_true', decide_eq_false_iff_not] at hqt57_1
            refine wp_seq_k (fun K20 hK20 => ?_)
            refine wp_region_lit ?_
            refine sqv hf (r_move rfl) rfl rfl rfl ?_; clear hf fa; intro fa hf
            refine sqv hf (r_not rfl) rfl rfl rfl ?_; clear hf fa; intro fa hf
            refine sqv hf (r_move rfl) rfl rfl rfl ?_; clear hf fa; intro fa hf
            refine sqgT (act := (!lo)) (ag := true) (c := (!lo)) (v := (.int .u64 ((v : Nat) : Int))) hf rfl rfl rfl (fun hact => (r_move rfl)) rfl rfl ?_; clear hf fa; intro fa hf
            refine sqgT (act := (!lo)) (ag := true) (c := (!lo)) (v := (.bool (decide (((v : Nat) : Int) < (9223372036854775808 : Int))))) hf rfl rfl rfl (fun hact => (r_lt (gb_ev hact rfl) rfl)) rfl rfl ?_; clear hf fa; intro fa hf
            refine sqv hf (r_pickA (b := (!lo)) (e := (decide (((v : Nat) : Int) < (9223372036854775808 : Int)))) rfl rfl rfl) rfl rfl rfl ?_; clear hf fa; intro fa hf
            refine sqv hf (r_assign rfl) rfl rfl rfl ?_; clear hf fa; intro fa hf
            apply wpList_nil
            (try simp only [Exit.then, Exit.inBlock, ↓reduceIte, Nat.reduceEqDiff])
            refine hK20 _ _ ?_
            refine wp_cond_split (t := ((!lo) && (decide (((v : Nat) : Int) < (9223372036854775808 : Int))))) (hf.ev rfl) (fun hqt66_1 => ?_) (fun hqt66_1 => ?_)
            · have hqt66_1b := hqt66_1
              try simp only [decide_eq_true_eq, Bool.and_eq_true, Bool.or_eq_true, Bool.not_eq_true', decide_eq_false_iff_not, ne_eq, Bool.not_eq_true] at hqt66_1
              refine wp_seq_k (fun K21 hK21 => ?_)
              refine wp_region_lit ?_
              refine sqv hf (r_move rfl) rfl rfl rfl ?_; clear hf fa; intro fa hf
              refine sqv hf (r_conv (C := ((v : Nat) : Int)) rfl Try.underlying63 Try.underlying3 (by rw [IntKind.wrap_i64]; omega)) rfl rfl rfl ?_; clear hf fa; intro fa hf
              refine sqv hf (r_assign rfl) rfl rfl rfl ?_; clear hf fa; intro fa hf
              refine sqv hf (r_assign rfl) rfl rfl rfl ?_; clear hf fa; intro fa hf
              apply wpList_nil
              (try simp only [Exit.then, Exit.inBlock, ↓reduceIte, Nat.reduceEqDiff])
              refine hK21 _ _ ?_
              refine wp_ret ?_
              (try simp only [Exit.then, Exit.inBlock])
              refine ret2 hf rfl rfl rfl ?_
              have hgo := numT_go (lo := lo) (u := u) (v := v) hsp1 (by omega) (fun h => hqt32_2 (.inr ⟨by omega, h.2.imp id (by omega)⟩)) (by rwa [List.take_of_length_le (by rw [bl_length]; omega)] at hd) (by rwa [List.take_of_length_le (by rw [bl_length]; omega)] at hv)
              rw [hnum, hgo]
              rw [if_neg (fun h => hqt57_1 ⟨h.1, by omega⟩)]
              rw [if_pos ⟨hqt66_1.1, by have h := hqt66_1.2; omega⟩]; exact ⟨rfl, hb⟩
            · have hqt66_1b := hqt66_1
              replace hqt66_1 := Bool.eq_false_iff.1 hqt66_1
              try simp only [ne_eq, decide_eq_true_eq, Bool.and_eq_true, Bool.or_eq_true, Bool.not_eq_true', decide_eq_false_iff_not] at hqt66_1
              refine wp_skip ?_
              (try simp only [Exit.then, Exit.inBlock, ↓reduceIte, Nat.reduceEqDiff])
              refine hK17 _ _ ?_
              refine wp_seq_k (fun K22 hK22 => ?_)
              refine wp_region_lit ?_
              refine sqv hf (r_assign rfl) rfl rfl rfl ?_; clear hf fa; intro fa hf
              refine sqv hf (r_assign rfl) rfl rfl rfl ?_; clear hf fa; intro fa hf
              apply wpList_nil
              (try simp only [Exit.then, Exit.inBlock, ↓reduceIte, Nat.reduceEqDiff])
              refine hK22 _ _ ?_
              refine wp_ret ?_
              (try simp only [Exit.then, Exit.inBlock])
              refine ret2 hf rfl rfl rfl ?_
              have hgo := numT_go (lo := lo) (u := u) (v := v) hsp1 (by omega) (fun h => hqt32_2 (.inr ⟨by omega, h.2.imp id (by omega)⟩)) (by rwa [List.take_of_length_le (by rw [bl_length]; omega)] at hd) (by rwa [List.take_of_length_le (by rw [bl_length]; omega)] at hv)
              rw [hnum, hgo]
              rw [if_neg (fun h => hqt57_1 ⟨h.1, by omega⟩)]
              rw [if_neg (fun h => hqt66_1 ⟨h.1, by omega⟩)]; exact ⟨rfl, hb⟩
end Go.Proofs.Ytpalmpfkliepfaa

namespace Go.Proofs.Ytpalmpfkliepfaa
open Go.RowKit Ut
set_option linter.unusedVariables false
set_option linter.unusedSimpArgs false
theorem dS_zero : dS 0 = ⟨#[48]⟩ := by unfold dS digB; rw [if_neg (by omega), show (0 : Int).natAbs = 0 from rfl, natB_lt (by decide)]; rfl
def natZ (n : Nat) : List Nat := if n = 0 then [] else natB n
theorem natZ_step {n : Nat} (h : n ≠ 0) : natZ n = natZ (n / 10) ++ [48 + n % 10] := by
  unfold natZ
  rw [if_neg h]
  by_cases h2 : n < 10
  · rw [if_pos (by omega), natB_lt h2, show n % 10 = n by omega]; rfl
  · rw [if_neg (by omega), natB_ge h2]
theorem tmod10 (m : Int) : (m < 0 → Int.tmod m 10 = -((m.natAbs % 10 : Nat) : Int)) ∧ (0 ≤ m → Int.tmod m 10 = ((m.natAbs % 10 : Nat) : Int)) := by
  constructor
  · intro h
    obtain ⟨a, rfl⟩ : ∃ a : Nat, m = -(a : Int) := ⟨m.natAbs, by omega⟩
    rw [Int.neg_tmod, Int.natAbs_neg, Int.natAbs_natCast]; rfl
  · intro h
    obtain ⟨a, rfl⟩ : ∃ a : Nat, m = (a : Int) := ⟨m.natAbs, by omega⟩
    rw [Int.natAbs_natCast]; rfl
theorem tdiv10 (m : Int) : (m < 0 → Int.tdiv m 10 = -((m.natAbs / 10 : Nat) : Int)) ∧ (0 ≤ m → Int.tdiv m 10 = ((m.natAbs / 10 : Nat) : Int)) := by
  constructor
  · intro h
    obtain ⟨a, rfl⟩ : ∃ a : Nat, m = -(a : Int) := ⟨m.natAbs, by omega⟩
    rw [Int.neg_tdiv, Int.natAbs_neg, Int.natAbs_natCast]; rfl
  · intro h
    obtain ⟨a, rfl⟩ : ∃ a : Nat, m = (a : Int) := ⟨m.natAbs, by omega⟩
    rw [Int.natAbs_natCast]; rfl
theorem bl_cons1 (x : Nat) (hx : x < 256) (o : ByteArray) : bl (strOfNums [((x : Nat) : Int)] ++ o) = x :: bl o := by
  rw [bl_app]
  show bl (strN [x]) ++ _ = _
  rw [bl_strN _ (by intro y hy; simp only [List.mem_singleton] at hy; omega)]; rfl
set_option maxHeartbeats 1000000 in
set_option maxRecDepth 100000 in
theorem rdigits_any (n : Int) (w : World) (h : inI n) : Calls Try.prog 33 #[(.int .i64 n)] w fun e w' => e = .returned (.string (dS n)) ∧ Below w.heap.size w w' := by
  unfold inI at h
  refine sx_enter (L := [(0, (.int .i64 n))]) Try.func33 rfl rfl rfl rfl (fun fa hf => ?_)
  have hb : Below w.heap.size w w := Below.refl _ _
  refine wp_seq_k (fun K1 hK1 => ?_)
  refine wp_region_lit ?_
  refine sqv hf (r_assign rfl) rfl rfl rfl ?_; clear hf fa; intro fa hf
  apply wpList_nil
  (try simp only [Exit.then, Exit.inBlock, ↓reduceIte, Nat.reduceEqDiff])
  refine hK1 _ _ ?_
  refine wp_seq_k (fun K2 hK2 => ?_)
  refine wp_region_lit ?_
  refine sqv hf (r_move rfl) rfl rfl rfl ?_; clear hf fa; intro fa hf
  refine sqv hf (r_lt rfl rfl) rfl rfl rfl ?_; clear hf fa; intro fa hf
  refine sqv hf (r_assign rfl) rfl rfl rfl ?_; clear hf fa; intro fa hf
  refine sqv hf (r_assign rfl) rfl rfl rfl ?_; clear hf fa; intro fa hf
  apply wpList_nil
  (try simp only [Exit.then, Exit.inBlock, ↓reduceIte, Nat.reduceEqDiff])
  refine hK2 _ _ ?_
  refine wp_seq_k (fun K3 hK3 => ?_)
  refine wp_seq_k (fun K4 hK4 => ?_)
  refine wp_region_lit ?_
  refine sqv hf (r_move rfl) rfl rfl rfl ?_; clear hf fa; intro fa hf
  refine sqv hf (r_eq rfl rfl) rfl rfl rfl ?_; clear hf fa; intro fa hf
  apply wpList_nil
  (try simp only [Exit.then, Exit.inBlock, ↓reduceIte, Nat.reduceEqDiff])
  refine hK4 _ _ ?_
  refine wp_cond_split (t := (decide (n = (0 : Int)))) (hf.ev rfl) (fun hqt9_1 => ?_) (fun hqt9_1 => ?_)
  · have hqt9_1b := hqt9_1
    try simp only [decide_eq_true_eq, Bool.and_eq_true, Bool.or_eq_true, Bool.not_eq_true', decide_eq_false_iff_not, ne_eq, Bool.not_eq_true] at hqt9_1
    refine wp_seq_k (fun K5 hK5 => ?_)
    refine wp_region_lit ?_
    refine sqv hf (r_assign rfl) rfl rfl rfl ?_; clear hf fa; intro fa hf
    apply wpList_nil
    (try simp only [Exit.then, Exit.inBlock, ↓reduceIte, Nat.reduceEqDiff])
    refine hK5 _ _ ?_
    refine wp_ret ?_
    (try simp only [Exit.then, Exit.inBlock])
    refine ret1 hf rfl rfl ?_
    refine ⟨?_, hb⟩; rw [show n = 0 from by omega, dS_zero]
  · have hqt9_1b := hqt9_1
    replace hqt9_1 := Bool.eq_false_iff.1 hqt9_1
    try simp only [ne_eq, decide_eq_true_eq, Bool.and_eq_true, Bool.or_eq_true, Bool.not_eq_true', decide_eq_false_iff_not] at hqt9_1
    refine wp_skip ?_
    (try simp only [Exit.then, Exit.inBlock, ↓reduceIte, Nat.reduceEqDiff])
    refine hK3 _ _ ?_
    refine wp_seq_k (fun K6 hK6 => ?_)
    refine wp_block ?_
    refine wp_loop_k (fun mq fa wr => ∃ (m : Int) (o : ByteArray), mq = m.natAbs ∧ Fr 31 fa [(0, (.int .i64 m)), (3, (.string o)), (4, (.bool (decide ((n) < (0 : Int)))))] ∧ Below w.heap.size w wr ∧ ((n < 0 → m ≤ 0) ∧ (0 < n → 0 ≤ m)) ∧ (m.natAbs ≤ n.natAbs) ∧ (natB n.natAbs = natZ m.natAbs ++ bl o)) ?_ ?_
    · skip
      exact ⟨_, n, (⟨#[]⟩ : ByteArray), rfl, hf.sub ⟨rfl, (some_str (by first | rfl | assumption | simp)), rfl, trivial⟩, hb, by omega, by omega, (by unfold natZ; rw [if_neg (by omega)]; exact (List.append_nil _).symm)⟩
    · skip
      clear hf fa; intro mq1 fa w1 hI KL1 hKL1
      clear hb
      obtain ⟨m, o, hmq1, hf, hb, hms, hma, Hs⟩ := hI
      have hol : o.size ≤ 19 := by have h1 := natB_len 19 n.natAbs (by decide) (by omega); have h2 := congrArg List.length Hs; rw [List.length_append, bl_length] at h2; omega
      obtain ⟨d, hd⟩ : ∃ d, Int.tmod m 10 = d := ⟨_, rfl⟩
      have hd1 := tmod10 m; rw [hd] at hd1
      have hd2 := tdiv10 m
      refine wp_seq_k (fun K7 hK7 => ?_)
      refine wp_seq_k (fun K8 hK8 => ?_)
      refine wp_region_lit ?_
      refine sqv hf (r_move rfl) rfl rfl rfl ?_; clear hf fa; intro fa hf
      refine sqv hf (r_ne rfl rfl) rfl rfl rfl ?_; clear hf fa; intro fa hf
      apply wpList_nil
      (try simp only [Exit.then, Exit.inBlock, ↓reduceIte, Nat.reduceEqDiff])
      refine hK8 _ _ ?_
      refine wp_cond_split (t := (decide (m ≠ (0 : Int)))) (hf.ev rfl) (fun hqt11_1 => ?_) (fun hqt11_1 => ?_)
      · have hqt11_1b := hqt11_1
        try simp only [decide_eq_true_eq, Bool.and_eq_true, Bool.or_eq_true, Bool.not_eq_true', decide_eq_false_iff_not, ne_eq, Bool.not_eq_true] at hqt11_1
        refine wp_skip ?_
        (try simp only [Exit.then, Exit.inBlock, ↓reduceIte, Nat.reduceEqDiff])
        refine hK7 _ _ ?_
        refine wp_block ?_
        refine wp_seq_k (fun K9 hK9 => ?_)
        refine wp_region_lit ?_
        refine sqv hf (r_move rfl) rfl rfl rfl ?_; clear hf fa; intro fa hf
        refine sqv hf (r_rem (C := d) rfl rfl (by omega) hd) rfl rfl rfl ?_; clear hf fa; intro fa hf
        refine sqv hf (r_assign rfl) rfl rfl rfl ?_; clear hf fa; intro fa hf
        apply wpList_nil
        (try simp only [Exit.then, Exit.inBlock, ↓reduceIte, Nat.reduceEqDiff])
        refine hK9 _ _ ?_
        refine wp_seq_k (fun K10 hK10 => ?_)
        refine wp_seq_k (fun K11 hK11 => ?_)
        refine wp_region_lit ?_
        refine sqv hf (r_move rfl) rfl rfl rfl ?_; clear hf fa; intro fa hf
        refine sqv hf (r_lt rfl rfl) rfl rfl rfl ?_; clear hf fa; intro fa hf
        apply wpList_nil
        (try simp only [Exit.then, Exit.inBlock, ↓reduceIte, Nat.reduceEqDiff])
        refine hK11 _ _ ?_
        refine wp_cond_split (t := (decide (d < (0 : Int)))) (hf.ev rfl) (fun hqt15_1 => ?_) (fun hqt15_1 => ?_)
        · have hqt15_1b := hqt15_1
          try simp only [decide_eq_true_eq, Bool.and_eq_true, Bool.or_eq_true, Bool.not_eq_true', decide_eq_false_iff_not, ne_eq, Bool.not_eq_true] at hqt15_1
          refine wp_region_lit ?_
          refine sqv hf (r_move rfl) rfl rfl rfl ?_; clear hf fa; intro fa hf
          refine sqv hf (r_neg (C := (((m.natAbs % 10) : Nat) : Int)) rfl (by rw [IntKind.wrap_i64]; omega)) rfl rfl rfl ?_; clear hf fa; intro fa hf
          refine sqv hf (r_assign rfl) rfl rfl rfl ?_; clear hf fa; intro fa hf
          apply wpList_nil
          (try simp only [Exit.then, Exit.inBlock, ↓reduceIte, Nat.reduceEqDiff])
          refine hK10 _ _ ?_
          refine wp_seq_k (fun K12 hK12 => ?_)
          refine wp_region_lit ?_
          refine sqv hf (r_move rfl) rfl rfl rfl ?_; clear hf fa; intro fa hf
          refine sqv hf (r_add (C := (((48 + m.natAbs % 10) : Nat) : Int)) rfl rfl (by rw [IntKind.wrap_i64]; omega)) rfl rfl rfl ?_; clear hf fa; intro fa hf
          refine sqv hf (r_conv (C := (((48 + m.natAbs % 10) : Nat) : Int)) rfl Try.underlying3 Try.underlying5 (by rw [IntKind.wrap_u8]; omega)) rfl rfl rfl ?_; clear hf fa; intro fa hf
          refine sqdt hf (d_bslice (z := (.int .u8 (0 : Int))) (sz := 1) (vs := [(0, (.int .u8 (((48 + m.natAbs % 10) : Nat) : Int)))]) (cs := #[(.int .u8 (((48 + m.natAbs % 10) : Nat) : Int))]) rfl Try.underlying43 (by kernel_rfl) rfl (by kernel_rfl)) rfl rfl rfl ?_; clear hf fa; rintro fa _ w2 ⟨b1, rfl, hle1, hk1, he1⟩ hf
          have hBb1 : w.heap.size ≤ b1 := Nat.le_trans hb.size hle1
          replace hb := hb.trans (Below.mono he1 hb.size)
          refine sqv hf (r_rowstr rfl Try.underlying43 Try.underlying5 Try.underlying9 (Row.of_new (k := 1) (V := vInt .u8) (l := [(((48 + m.natAbs % 10) : Nat) : Int)]) hk1 (Nat.le_refl _) rfl rfl (Nat.le_of_ble_eq_true rfl))) rfl rfl rfl ?_; clear hf fa; intro fa hf
          refine sqv hf (r_move rfl) rfl rfl rfl ?_; clear hf fa; intro fa hf
          refine sqv hf (r_sadd rfl rfl (by have := strOfNums_size [(((48 + m.natAbs % 10) : Nat) : Int)]; (try simp only [List.length_cons, List.length_nil, List.length_append] at this); omega)) rfl rfl rfl ?_; clear hf fa; intro fa hf
          refine sqv hf (r_assign rfl) rfl rfl rfl ?_; clear hf fa; intro fa hf
          apply wpList_nil
          (try simp only [Exit.then, Exit.inBlock, ↓reduceIte, Nat.reduceEqDiff])
          refine hK12 _ _ ?_
          refine wp_region_lit ?_
          refine sqv hf (r_move rfl) rfl rfl rfl ?_; clear hf fa; intro fa hf
          refine sqv hf (r_quo (C := ((if m < 0 then -((m.natAbs / 10 : Nat) : Int) else ((m.natAbs / 10 : Nat) : Int)))) rfl rfl (by omega) (by rw [IntKind.wrap_i64]; split <;> omega)) rfl rfl rfl ?_; clear hf fa; intro fa hf
          refine sqv hf (r_assign rfl) rfl rfl rfl ?_; clear hf fa; intro fa hf
          apply wpList_nil
          (try simp only [Exit.then, Exit.inBlock, ↓reduceIte, Nat.reduceEqDiff])
          refine hKL1 _ _ _ (by split <;> omega) ⟨(if m < 0 then -((m.natAbs / 10 : Nat) : Int) else ((m.natAbs / 10 : Nat) : Int)), ((strOfNums [(((48 + m.natAbs % 10) : Nat) : Int)]) ++ o), rfl, hf.sub ⟨(some_int (by first | rfl | omega)), rfl, rfl, trivial⟩, hb, by split <;> omega, by split <;> omega, (by rw [Hs, natZ_step (by omega), show (if m < 0 then -((m.natAbs / 10 : Nat) : Int) else ((m.natAbs / 10 : Nat) : Int)).natAbs = m.natAbs / 10 by split <;> omega, bl_cons1 _ (by omega)]; simp)⟩
        · have hqt15_1b := hqt15_1
          replace hqt15_1 := Bool.eq_false_iff.1 hqt15_1
          try simp only [ne_eq, decide_eq_true_eq, Bool.and_eq_true, Bool.or_eq_true, Bool.not_eq_true', decide_eq_false_iff_not] at hqt15_1
          refine wp_skip ?_
          (try simp only [Exit.then, Exit.inBlock, ↓reduceIte, Nat.reduceEqDiff])
          refine hK10 _ _ ?_
          refine wp_seq_k (fun K13 hK13 => ?_)
          refine wp_region_lit ?_
          refine sqv hf (r_move rfl) rfl rfl rfl ?_; clear hf fa; intro fa hf
          refine sqv hf (r_add (C := (((48 + m.natAbs % 10) : Nat) : Int)) rfl rfl (by rw [IntKind.wrap_i64]; omega)) rfl rfl rfl ?_; clear hf fa; intro fa hf
          refine sqv hf (r_conv (C := (((48 + m.natAbs % 10) : Nat) : Int)) rfl Try.underlying3 Try.underlying5 (by rw [IntKind.wrap_u8]; omega)) rfl rfl rfl ?_; clear hf fa; intro fa hf
          refine sqdt hf (d_bslice (z := (.int .u8 (0 : Int))) (sz := 1) (vs := [(0, (.int .u8 (((48 + m.natAbs % 10) : Nat) : Int)))]) (cs := #[(.int .u8 (((48 + m.natAbs % 10) : Nat) : Int))]) rfl Try.underlying43 (by kernel_rfl) rfl (by kernel_rfl)) rfl rfl rfl ?_; clear hf fa; rintro fa _ w3 ⟨b2, rfl, hle2, hk2, he2⟩ hf
          have hBb2 : w.heap.size ≤ b2 := Nat.le_trans hb.size hle2
          replace hb := hb.trans (Below.mono he2 hb.size)
          refine sqv hf (r_rowstr rfl Try.underlying43 Try.underlying5 Try.underlying9 (Row.of_new (k := 1) (V := vInt .u8) (l := [(((48 + m.natAbs % 10) : Nat) : Int)]) hk2 (Nat.le_refl _) rfl rfl (Nat.le_of_ble_eq_true rfl))) rfl rfl rfl ?_; clear hf fa; intro fa hf
          refine sqv hf (r_move rfl) rfl rfl rfl ?_; clear hf fa; intro fa hf
          refine sqv hf (r_sadd rfl rfl (by have := strOfNums_size [(((48 + m.natAbs % 10) : Nat) : Int)]; (try simp only [List.length_cons, List.length_nil, List.length_append] at this); omega)) rfl rfl rfl ?_; clear hf fa; intro fa hf
          refine sqv hf (r_assign rfl) rfl rfl rfl ?_; clear hf fa; intro fa hf
          apply wpList_nil
          (try simp only [Exit.then, Exit.inBlock, ↓reduceIte, Nat.reduceEqDiff])
          refine hK13 _ _ ?_
          refine wp_region_lit ?_
          refine sqv hf (r_move rfl) rfl rfl rfl ?_; clear hf fa; intro fa hf
          refine sqv hf (r_quo (C := ((if m < 0 then -((m.natAbs / 10 : Nat) : Int) else ((m.natAbs / 10 : Nat) : Int)))) rfl rfl (by omega) (by rw [IntKind.wrap_i64]; split <;> omega)) rfl rfl rfl ?_; clear hf fa; intro fa hf
          refine sqv hf (r_assign rfl) rfl rfl rfl ?_; clear hf fa; intro fa hf
          apply wpList_nil
          (try simp only [Exit.then, Exit.inBlock, ↓reduceIte, Nat.reduceEqDiff])
          refine hKL1 _ _ _ (by split <;> omega) ⟨(if m < 0 then -((m.natAbs / 10 : Nat) : Int) else ((m.natAbs / 10 : Nat) : Int)), ((strOfNums [(((48 + m.natAbs % 10) : Nat) : Int)]) ++ o), rfl, hf.sub ⟨(some_int (by first | rfl | omega)), rfl, rfl, trivial⟩, hb, by split <;> omega, by split <;> omega, (by rw [Hs, natZ_step (by omega), show (if m < 0 then -((m.natAbs / 10 : Nat) : Int) else ((m.natAbs / 10 : Nat) : Int)).natAbs = m.natAbs / 10 by split <;> omega, bl_cons1 _ (by omega)]; simp)⟩
      · have hqt11_1b := hqt11_1
        replace hqt11_1 := Bool.eq_false_iff.1 hqt11_1
        try simp only [ne_eq, decide_eq_true_eq, Bool.and_eq_true, Bool.or_eq_true, Bool.not_eq_true', decide_eq_false_iff_not] at hqt11_1
        refine wp_exit ?_
        (try simp only [Exit.then, Exit.inBlock, ↓reduceIte, Nat.reduceEqDiff])
        refine hK6 _ _ ?_
        refine wp_seq_k (fun K14 hK14 => ?_)
        refine wp_seq_k (fun K15 hK15 => ?_)
        refine wp_region_lit ?_
        refine sqv hf (r_move rfl) rfl rfl rfl ?_; clear hf fa; intro fa hf
        apply wpList_nil
        (try simp only [Exit.then, Exit.inBlock, ↓reduceIte, Nat.reduceEqDiff])
        refine hK15 _ _ ?_
        refine wp_cond_split (t := (decide ((n) < (0 : Int)))) (hf.ev rfl) (fun hqt27_1 => ?_) (fun hqt27_1 => ?_)
        · have hqt27_1b := hqt27_1
          try simp only [decide_eq_true_eq, Bool.and_eq_true, Bool.or_eq_true, Bool.not_eq_true', decide_eq_false_iff_not, ne_eq, Bool.not_eq_true] at hqt27_1
          refine wp_seq_k (fun K16 hK16 => ?_)
          refine wp_region_lit ?_
          refine sqv hf (r_move rfl) rfl rfl rfl ?_; clear hf fa; intro fa hf
          refine sqv hf (r_sadd rfl rfl (by have : ((⟨#[45]⟩) : ByteArray).size = 1 := rfl; omega)) rfl rfl rfl ?_; clear hf fa; intro fa hf
          refine sqv hf (r_assign rfl) rfl rfl rfl ?_; clear hf fa; intro fa hf
          apply wpList_nil
          (try simp only [Exit.then, Exit.inBlock, ↓reduceIte, Nat.reduceEqDiff])
          refine hK16 _ _ ?_
          refine wp_ret ?_
          (try simp only [Exit.then, Exit.inBlock])
          refine ret1 hf rfl rfl ?_
          have hfin : natB n.natAbs = bl o := by rw [Hs, show m.natAbs = 0 by omega]; rfl
          refine ⟨?_, hb⟩; congr 2; rw [← dS_neg (by omega)]; congr 1; unfold nS; rw [hfin, strN_bl]
        · have hqt27_1b := hqt27_1
          replace hqt27_1 := Bool.eq_false_iff.1 hqt27_1
          try simp only [ne_eq, decide_eq_true_eq, Bool.and_eq_true, Bool.or_eq_true, Bool.not_eq_true', decide_eq_false_iff_not] at hqt27_1
          refine wp_skip ?_
          (try simp only [Exit.then, Exit.inBlock, ↓reduceIte, Nat.reduceEqDiff])
          refine hK14 _ _ ?_
          refine wp_seq_k (fun K17 hK17 => ?_)
          refine wp_region_lit ?_
          refine sqv hf (r_move rfl) rfl rfl rfl ?_; clear hf fa; intro fa hf
          refine sqv hf (r_assign rfl) rfl rfl rfl ?_; clear hf fa; intro fa hf
          apply wpList_nil
          (try simp only [Exit.then, Exit.inBlock, ↓reduceIte, Nat.reduceEqDiff])
          refine hK17 _ _ ?_
          refine wp_ret ?_
          (try simp only [Exit.then, Exit.inBlock])
          refine ret1 hf rfl rfl ?_
          have hfin : natB n.natAbs = bl o := by rw [Hs, show m.natAbs = 0 by omega]; rfl
          refine ⟨?_, hb⟩; congr 2; rw [← dS_pos (by omega)]; unfold nS; rw [hfin, strN_bl]

end Go.Proofs.Ytpalmpfkliepfaa

namespace Go.Proofs.Ytpalmpfkliepfaa
open Go.Shelf Go.RowKit
def sh_lays167_ren : Go.Shelf.Ren := ⟨fun | 167 => 68 | 240 => 89 | 276 => 104 | n => n, fun | 0 => 0 | 4 => 4 | 5 => 5 | 9 => 9 | 20 => 20 | 37 => 43 | 70 => 125 | 72 => 127 | 75 => 129 | 80 => 47 | 164 => 152 | n => n, fun | n => n⟩
theorem sh_lays167 : Go.Proofs.Lays.n167 Try.prog sh_lays167_ren := {
  mixed := by kernel_rfl
  f167 := Try.func68.trans (congrArg some (by kernel_rfl))
  f240 := Try.func89.trans (congrArg some (by kernel_rfl))
  f276 := Try.func104.trans (congrArg some (by kernel_rfl))
  t0 := Try.underlying0
  a0 := Try.isAgg0
  z0 := Try.sizeOf0
  v0 := Try.zeroValue0
  t4 := Try.underlying4
  a4 := Try.isAgg4
  z4 := Try.sizeOf4
  v4 := Try.zeroValue4
  t5 := Try.underlying5
  a5 := Try.isAgg5
  z5 := Try.sizeOf5
  v5 := Try.zeroValue5
  t9 := Try.underlying9
  a9 := Try.isAgg9
  z9 := Try.sizeOf9
  v9 := Try.zeroValue9
  t20 := Try.underlying20
  a20 := Try.isAgg20
  z20 := Try.sizeOf20
  v20 := Try.zeroValue20
  t37 := Try.underlying43
  a37 := Try.isAgg43
  z37 := Try.sizeOf43
  v37 := Try.zeroValue43
  t70 := Try.underlying125
  a70 := Try.isAgg125
  z70 := Try.sizeOf125
  v70 := Try.zeroValue125
  t72 := Try.underlying127
  a72 := Try.isAgg127
  z72 := Try.sizeOf127
  v72 := Try.zeroValue127
  t75 := Try.underlying129
  a75 := Try.isAgg129
  z75 := Try.sizeOf129
  v75 := Try.zeroValue129
  t164 := Try.underlying152
  a164 := Try.isAgg152
  z164 := Try.sizeOf152
  v164 := Try.zeroValue152 }
theorem sh_Builder_Extra_167 : Builder.Extra Try.prog sh_lays167_ren := {
  sizeBuilder := by kernel_rfl
  liesBuilder := by kernel_rfl
  t5 := Try.underlying5
  a5 := Try.isAgg5
  z5 := Try.sizeOf5
  v5 := Try.zeroValue5
  infoByte := by kernel_rfl
  cellsByte := by kernel_rfl
  sizeByte := by kernel_rfl
  neB5 := by decide }
theorem sh_Builder_WriteByte (B b : Nat) (bs : List Value) (c : Int) (w : World) (h : Lib.IsBuilder 127 5 B b bs w) (hlen : bs.length + 1 ≤ 140737488355328) (hBw : B ≤ w.heap.size) :
    Calls Try.prog 68 #[.pointer (some ⟨b, 0, none⟩), .int .u8 c] w fun e w' => e = .returned .nilIface ∧ (Lib.BuilderAt 127 5 B b (.pointer (some ⟨b, 0, none⟩)) (bs ++ [.int .u8 c]) w' ∧ Below B w w') := Any.Builder_WriteByte sh_lays167 sh_Builder_Extra_167 B b bs c w h hlen hBw
end Go.Proofs.Ytpalmpfkliepfaa

namespace Go.Proofs.Ytpalmpfkliepfaa
open Go.RowKit Ut
set_option linter.unusedVariables false
set_option linter.unusedSimpArgs false

theorem contains_any (s : ByteArray) (c : UInt8) (w : World) : Calls Try.prog 55 #[.string s, .string ⟨#[c]⟩] w fun e w' => e = .returned (.bool (decide (posB s c.toNat < s.size))) ∧ w = w' := by
  refine (sh_strings_Contains_one s c w).mono fun e w' h => ⟨?_, h.2.symm⟩
  rw [h.1, indexByte_eq]
  congr 3
  unfold posB bl
  show _ = ((s.data.toList.map UInt8.toNat).idxOf c.toNat < s.data.size)
  rw [Array.length_toList]
  split
  · rename_i h; simp; exact h
  · rename_i h; simp; exact Nat.le_of_not_lt h
/-- A builder that holds these bytes. -/
def BlT (B b : Nat) (l : List Int) (w : World) : Prop := Lib.IsBuilder 127 5 B b (l.map (Value.int .u8)) w
theorem BlT.new {B b : Nat} {w : World} (hB : B ≤ b) (h : w.heap[b]? = some (.cells #[.pointer none, .slice none 0 0] 127 (0, 0))) : BlT B b [] w :=
  .inl ⟨hB, _, h, World.ownsRow_nil _ _ _ _, by intro e; cases e⟩
theorem bwrite_any (B b : Nat) (l : List Int) (c : Int) (w : World) (h : BlT B b l w) (hl : l.length < 100000000) (hB : B ≤ w.heap.size) : Calls Try.prog 68 #[.pointer (some ⟨b, 0, none⟩), .int .u8 c] w fun e w' => e = .returned .nilIface ∧ BlT B b (l ++ [c]) w' ∧ Below B w w' := by
  refine (sh_Builder_WriteByte B b _ c w h (by rw [List.length_map]; omega) hB).mono fun e w' h => ⟨h.1, ?_, h.2.2⟩
  unfold BlT
  rw [List.map_append]
  exact .inr h.2.1
theorem bstring_any (B b : Nat) (l : List Int) (w : World) (h : BlT B b l w) (hl : ∀ x ∈ l, 0 ≤ x ∧ x < 256) (hB : B ≤ w.heap.size) : Calls Try.prog 69 #[.pointer (some ⟨b, 0, none⟩)] w fun e w' => e = .returned (.string (strOfNums l)) ∧ Below B w w' := by
  refine sh_Builder_String_any B b (l.map fun n => UInt8.ofNat n.toNat) w ?_ hB
  unfold BlT at h
  rw [show Lib.byteCells (l.map fun n => UInt8.ofNat n.toNat) = l.map (Value.int .u8) from ?_]
  · exact h
  · unfold Lib.byteCells
    rw [List.map_map]
    apply List.map_congr_left
    intro x hx
    have := hl x hx
    simp
    omega
end Go.Proofs.Ytpalmpfkliepfaa

namespace Go.Proofs.Ytpalmpfkliepfaa
open Go.RowKit
set_option linter.unusedVariables false
set_option linter.unusedSimpArgs false
def tvalP (b : Int) : Int :=
  bif (decide (b = (127 : Int))) then (0 : Int)
  else bif (decide (b = (126 : Int))) then (0 : Int)
  else bif (decide (b = (125 : Int))) then (8 : Int)
  else bif (decide (b = (124 : Int))) then (8 : Int)
  else (7 : Int)

set_option maxHeartbeats 1000000 in
set_option maxRecDepth 100000 in
theorem tval_any (b : Int) (w : World)  : Calls Try.prog 85 #[(.int .u8 b)] w fun e w' => e = .returned (.int .i64 ((tvalP b))) ∧ w = w' := by
  refine sx_enter (L := [(0, (.int .u8 b))]) Try.func85 rfl rfl rfl rfl (fun fa hf => ?_)
  have hb : Below w.heap.size w w := Below.refl _ _
  refine wp_seq_k (fun K1 hK1 => ?_)
  refine wp_region_lit ?_
  refine sqv hf (r_assign rfl) rfl rfl rfl ?_; clear hf fa; intro fa hf
  apply wpList_nil
  (try simp only [Exit.then, Exit.inBlock, ↓reduceIte, Nat.reduceEqDiff])
  refine hK1 _ _ ?_
  refine wp_seq_k (fun K2 hK2 => ?_)
  refine wp_seq_k (fun K3 hK3 => ?_)
  refine wp_region_lit ?_
  refine sqv hf (r_move rfl) rfl rfl rfl ?_; clear hf fa; intro fa hf
  apply wpList_nil
  (try simp only [Exit.then, Exit.inBlock, ↓reduceIte, Nat.reduceEqDiff])
  refine hK3 _ _ ?_
  refine wp_block ?_
  refine wp_seq_k (fun K4 hK4 => ?_)
  refine wp_seq_k (fun K5 hK5 => ?_)
  refine wp_region_lit ?_
  refine sqv hf (r_eq rfl rfl) rfl rfl rfl ?_; clear hf fa; intro fa hf
  refine sqv hf (r_assign rfl) rfl rfl rfl ?_; clear hf fa; intro fa hf
  apply wpList_nil
  (try simp only [Exit.then, Exit.inBlock, ↓reduceIte, Nat.reduceEqDiff])
  refine hK5 _ _ ?_
  refine wp_cond_split (t := (decide (b = (127 : Int)))) (hf.ev rfl) (fun hqt4_1 => ?_) (fun hqt4_1 => ?_)
  · have hqt4_1b := hqt4_1
    try simp only [decide_eq_true_eq, Bool.and_eq_true, Bool.or_eq_true, Bool.not_eq_true', decide_eq_false_iff_not, ne_eq, Bool.not_eq_true] at hqt4_1
    refine wp_skip ?_
    (try simp only [Exit.then, Exit.inBlock, ↓reduceIte, Nat.reduceEqDiff])
    refine hK4 _ _ ?_
    refine wp_cond_true ((hf.ev rfl).trans (congrArg Value.bool (show (decide (b = (127 : Int))) = true from hqt4_1b))) ?_
    refine wp_seq_k (fun K6 hK6 => ?_)
    refine wp_region_lit ?_
    refine sqv hf (r_assign rfl) rfl rfl rfl ?_; clear hf fa; intro fa hf
    apply wpList_nil
    (try simp only [Exit.then, Exit.inBlock, ↓reduceIte, Nat.reduceEqDiff])
    refine hK6 _ _ ?_
    refine wp_ret ?_
    (try simp only [Exit.then, Exit.inBlock])
    refine ret1 hf rfl rfl ?_
    refine ⟨?_, rfl⟩; unfold tvalP; rw [hqt4_1b]; (try rfl)
  · have hqt4_1b := hqt4_1
    replace hqt4_1 := Bool.eq_false_iff.1 hqt4_1
    try simp only [ne_eq, decide_eq_true_eq, Bool.and_eq_true, Bool.or_eq_true, Bool.not_eq_true', decide_eq_false_iff_not] at hqt4_1
    refine wp_region_lit ?_
    refine sqv hf (r_eq rfl rfl) rfl rfl rfl ?_; clear hf fa; intro fa hf
    refine sqv hf (r_assign rfl) rfl rfl rfl ?_; clear hf fa; intro fa hf
    apply wpList_nil
    (try simp only [Exit.then, Exit.inBlock, ↓reduceIte, Nat.reduceEqDiff])
    refine hK4 _ _ ?_
    refine wp_cond_split (t := (decide (b = (126 : Int)))) (hf.ev rfl) (fun hqt4_3 => ?_) (fun hqt4_3 => ?_)
    · have hqt4_3b := hqt4_3
      try simp only [decide_eq_true_eq, Bool.and_eq_true, Bool.or_eq_true, Bool.not_eq_true', decide_eq_false_iff_not, ne_eq, Bool.not_eq_true] at hqt4_3
      refine wp_seq_k (fun K7 hK7 => ?_)
      refine wp_region_lit ?_
      refine sqv hf (r_assign rfl) rfl rfl rfl ?_; clear hf fa; intro fa hf
      apply wpList_nil
      (try simp only [Exit.then, Exit.inBlock, ↓reduceIte, Nat.reduceEqDiff])
      refine hK7 _ _ ?_
      refine wp_ret ?_
      (try simp only [Exit.then, Exit.inBlock])
      refine ret1 hf rfl rfl ?_
      refine ⟨?_, rfl⟩; unfold tvalP; rw [hqt4_1b, hqt4_3b]; (try rfl)
    · have hqt4_3b := hqt4_3
      replace hqt4_3 := Bool.eq_false_iff.1 hqt4_3
      try simp only [ne_eq, decide_eq_true_eq, Bool.and_eq_true, Bool.or_eq_true, Bool.not_eq_true', decide_eq_false_iff_not] at hqt4_3
      refine wp_seq_k (fun K8 hK8 => ?_)
      refine wp_seq_k (fun K9 hK9 => ?_)
      refine wp_region_lit ?_
      refine sqv hf (r_eq rfl rfl) rfl rfl rfl ?_; clear hf fa; intro fa hf
      refine sqv hf (r_assign rfl) rfl rfl rfl ?_; clear hf fa; intro fa hf
      apply wpList_nil
      (try simp only [Exit.then, Exit.inBlock, ↓reduceIte, Nat.reduceEqDiff])
      refine hK9 _ _ ?_
      refine wp_cond_split (t := (decide (b = (125 : Int)))) (hf.ev rfl) (fun hqt7_1 => ?_) (fun hqt7_1 => ?_)
      · have hqt7_1b := hqt7_1
        try simp only [decide_eq_true_eq, Bool.and_eq_true, Bool.or_eq_true, Bool.not_eq_true', decide_eq_false_iff_not, ne_eq, Bool.not_eq_true] at hqt7_1
        refine wp_skip ?_
        (try simp only [Exit.then, Exit.inBlock, ↓reduceIte, Nat.reduceEqDiff])
        refine hK8 _ _ ?_
        refine wp_cond_true ((hf.ev rfl).trans (congrArg Value.bool (show (decide (b = (125 : Int))) = true from hqt7_1b))) ?_
        refine wp_seq_k (fun K10 hK10 => ?_)
        refine wp_region_lit ?_
        refine sqv hf (r_assign rfl) rfl rfl rfl ?_; clear hf fa; intro fa hf
        apply wpList_nil
        (try simp only [Exit.then, Exit.inBlock, ↓reduceIte, Nat.reduceEqDiff])
        refine hK10 _ _ ?_
        refine wp_ret ?_
        (try simp only [Exit.then, Exit.inBlock])
        refine ret1 hf rfl rfl ?_
        refine ⟨?_, rfl⟩; unfold tvalP; rw [hqt4_1b, hqt4_3b, hqt7_1b]; (try rfl)
      · have hqt7_1b := hqt7_1
        replace hqt7_1 := Bool.eq_false_iff.1 hqt7_1
        try simp only [ne_eq, decide_eq_true_eq, Bool.and_eq_true, Bool.or_eq_true, Bool.not_eq_true', decide_eq_false_iff_not] at hqt7_1
        refine wp_region_lit ?_
        refine sqv hf (r_eq rfl rfl) rfl rfl rfl ?_; clear hf fa; intro fa hf
        refine sqv hf (r_assign rfl) rfl rfl rfl ?_; clear hf fa; intro fa hf
        apply wpList_nil
        (try simp only [Exit.then, Exit.inBlock, ↓reduceIte, Nat.reduceEqDiff])
        refine hK8 _ _ ?_
        refine wp_cond_split (t := (decide (b = (124 : Int)))) (hf.ev rfl) (fun hqt7_3 => ?_) (fun hqt7_3 => ?_)
        · have hqt7_3b := hqt7_3
          try simp only [decide_eq_true_eq, Bool.and_eq_true, Bool.or_eq_true, Bool.not_eq_true', decide_eq_false_iff_not, ne_eq, Bool.not_eq_true] at hqt7_3
          refine wp_seq_k (fun K11 hK11 => ?_)
          refine wp_region_lit ?_
          refine sqv hf (r_assign rfl) rfl rfl rfl ?_; clear hf fa; intro fa hf
          apply wpList_nil
          (try simp only [Exit.then, Exit.inBlock, ↓reduceIte, Nat.reduceEqDiff])
          refine hK11 _ _ ?_
          refine wp_ret ?_
          (try simp only [Exit.then, Exit.inBlock])
          refine ret1 hf rfl rfl ?_
          refine ⟨?_, rfl⟩; unfold tvalP; rw [hqt4_1b, hqt4_3b, hqt7_1b, hqt7_3b]; (try rfl)
        · have hqt7_3b := hqt7_3
          replace hqt7_3 := Bool.eq_false_iff.1 hqt7_3
          try simp only [ne_eq, decide_eq_true_eq, Bool.and_eq_true, Bool.or_eq_true, Bool.not_eq_true', decide_eq_false_iff_not] at hqt7_3
          refine wp_skip ?_
          (try simp only [Exit.then, Exit.inBlock, ↓reduceIte, Nat.reduceEqDiff])
          refine hK2 _ _ ?_
          refine wp_seq_k (fun K12 hK12 => ?_)
          refine wp_region_lit ?_
          refine sqv hf (r_assign rfl) rfl rfl rfl ?_; clear hf fa; intro fa hf
          apply wpList_nil
          (try simp only [Exit.then, Exit.inBlock, ↓reduceIte, Nat.reduceEqDiff])
          refine hK12 _ _ ?_
          refine wp_ret ?_
          (try simp only [Exit.then, Exit.inBlock])
          refine ret1 hf rfl rfl ?_
          refine ⟨?_, rfl⟩; unfold tvalP; rw [hqt4_1b, hqt4_3b, hqt7_1b, hqt7_3b]; (try rfl)

def rvalP (b : Int) : Int :=
  bif ((decide (b = (127 : Int))) || (decide (b = (126 : Int)))) then (0 : Int)
  else bif ((decide (b = (125 : Int))) || (decide (b = (124 : Int)))) then (8 : Int)
  else (7 : Int)

set_option maxHeartbeats 1000000 in
set_option maxRecDepth 100000 in
theorem rval_any (b : Int) (w : World)  : Calls Try.prog 52 #[(.int .i64 b)] w fun e w' => e = .returned (.int .i64 ((rvalP b))) ∧ w = w' := by
  refine sx_enter (L := [(0, (.int .i64 b))]) Try.func52 rfl rfl rfl rfl (fun fa hf => ?_)
  have hb : Below w.heap.size w w := Below.refl _ _
  refine wp_seq_k (fun K1 hK1 => ?_)
  refine wp_region_lit ?_
  refine sqv hf (r_assign rfl) rfl rfl rfl ?_; clear hf fa; intro fa hf
  apply wpList_nil
  (try simp only [Exit.then, Exit.inBlock, ↓reduceIte, Nat.reduceEqDiff])
  refine hK1 _ _ ?_
  refine wp_seq_k (fun K2 hK2 => ?_)
  refine wp_seq_k (fun K3 hK3 => ?_)
  refine wp_region_lit ?_
  refine sqv hf (r_move rfl) rfl rfl rfl ?_; clear hf fa; intro fa hf
  refine sqv hf (r_eq rfl rfl) rfl rfl rfl ?_; clear hf fa; intro fa hf
  refine sqv hf (r_move rfl) rfl rfl rfl ?_; clear hf fa; intro fa hf
  refine sqgF (act := (!(decide (b = (127 : Int))))) (ag := true) (c := (decide (b = (127 : Int)))) (v := (.int .i64 b)) hf rfl rfl rfl (fun hact => (r_move rfl)) rfl rfl ?_; clear hf fa; intro fa hf
  refine sqgF (act := (!(decide (b = (127 : Int))))) (ag := true) (c := (decide (b = (127 : Int)))) (v := (.bool (decide (b = (126 : Int))))) hf rfl rfl rfl (fun hact => (r_eq (gb_ev hact rfl) rfl)) rfl rfl ?_; clear hf fa; intro fa hf
  refine sqv hf (r_pickO (b := (decide (b = (127 : Int)))) (e := (decide (b = (126 : Int)))) rfl rfl rfl) rfl rfl rfl ?_; clear hf fa; intro fa hf
  apply wpList_nil
  (try simp only [Exit.then, Exit.inBlock, ↓reduceIte, Nat.reduceEqDiff])
  refine hK3 _ _ ?_
  refine wp_cond_split (t := ((decide (b = (127 : Int))) || (decide (b = (126 : Int))))) (hf.ev rfl) (fun hqt8_1 => ?_) (fun hqt8_1 => ?_)
  · have hqt8_1b := hqt8_1
    try simp only [decide_eq_true_eq, Bool.and_eq_true, Bool.or_eq_true, Bool.not_eq_true', decide_eq_false_iff_not, ne_eq, Bool.not_eq_true] at hqt8_1
    refine wp_seq_k (fun K4 hK4 => ?_)
    refine wp_region_lit ?_
    refine sqv hf (r_assign rfl) rfl rfl rfl ?_; clear hf fa; intro fa hf
    apply wpList_nil
    (try simp only [Exit.then, Exit.inBlock, ↓reduceIte, Nat.reduceEqDiff])
    refine hK4 _ _ ?_
    refine wp_ret ?_
    (try simp only [Exit.then, Exit.inBlock])
    refine ret1 hf rfl rfl ?_
    refine ⟨?_, rfl⟩; unfold rvalP; rw [hqt8_1b]; (try rfl)
  · have hqt8_1b := hqt8_1
    replace hqt8_1 := Bool.eq_false_iff.1 hqt8_1
    try simp only [ne_eq, decide_eq_true_eq, Bool.and_eq_true, Bool.or_eq_true, Bool.not_eq_true', decide_eq_false_iff_not] at hqt8_1
    refine wp_skip ?_
    (try simp only [Exit.then, Exit.inBlock, ↓reduceIte, Nat.reduceEqDiff])
    refine hK2 _ _ ?_
    refine wp_seq_k (fun K5 hK5 => ?_)
    refine wp_seq_k (fun K6 hK6 => ?_)
    refine wp_region_lit ?_
    refine sqv hf (r_move rfl) rfl rfl rfl ?_; clear hf fa; intro fa hf
    refine sqv hf (r_eq rfl rfl) rfl rfl rfl ?_; clear hf fa; intro fa hf
    refine sqv hf (r_move rfl) rfl rfl rfl ?_; clear hf fa; intro fa hf
    refine sqgF (act := (!(decide (b = (125 : Int))))) (ag := true) (c := (decide (b = (125 : Int)))) (v := (.int .i64 b)) hf rfl rfl rfl (fun hact => (r_move rfl)) rfl rfl ?_; clear hf fa; intro fa hf
    refine sqgF (act := (!(decide (b = (125 : Int))))) (ag := true) (c := (decide (b = (125 : Int)))) (v := (.bool (decide (b = (124 : Int))))) hf rfl rfl rfl (fun hact => (r_eq (gb_ev hact rfl) rfl)) rfl rfl ?_; clear hf fa; intro fa hf
    refine sqv hf (r_pickO (b := (decide (b = (125 : Int)))) (e := (decide (b = (124 : Int)))) rfl rfl rfl) rfl rfl rfl ?_; clear hf fa; intro fa hf
    apply wpList_nil
    (try simp only [Exit.then, Exit.inBlock, ↓reduceIte, Nat.reduceEqDiff])
    refine hK6 _ _ ?_
    refine wp_cond_split (t := ((decide (b = (125 : Int))) || (decide (b = (124 : Int))))) (hf.ev rfl) (fun hqt14_1 => ?_) (fun hqt14_1 => ?_)
    · have hqt14_1b := hqt14_1
      try simp only [decide_eq_true_eq, Bool.and_eq_true, Bool.or_eq_true, Bool.not_eq_true', decide_eq_false_iff_not, ne_eq, Bool.not_eq_true] at hqt14_1
      refine wp_seq_k (fun K7 hK7 => ?_)
      refine wp_region_lit ?_
      refine sqv hf (r_assign rfl) rfl rfl rfl ?_; clear hf fa; intro fa hf
      apply wpList_nil
      (try simp only [Exit.then, Exit.inBlock, ↓reduceIte, Nat.reduceEqDiff])
      refine hK7 _ _ ?_
      refine wp_ret ?_
      (try simp only [Exit.then, Exit.inBlock])
      refine ret1 hf rfl rfl ?_
      refine ⟨?_, rfl⟩; unfold rvalP; rw [hqt8_1b, hqt14_1b]; (try rfl)
    · have hqt14_1b := hqt14_1
      replace hqt14_1 := Bool.eq_false_iff.1 hqt14_1
      try simp only [ne_eq, decide_eq_true_eq, Bool.and_eq_true, Bool.or_eq_true, Bool.not_eq_true', decide_eq_false_iff_not] at hqt14_1
      refine wp_skip ?_
      (try simp only [Exit.then, Exit.inBlock, ↓reduceIte, Nat.reduceEqDiff])
      refine hK5 _ _ ?_
      refine wp_seq_k (fun K8 hK8 => ?_)
      refine wp_region_lit ?_
      refine sqv hf (r_assign rfl) rfl rfl rfl ?_; clear hf fa; intro fa hf
      apply wpList_nil
      (try simp only [Exit.then, Exit.inBlock, ↓reduceIte, Nat.reduceEqDiff])
      refine hK8 _ _ ?_
      refine wp_ret ?_
      (try simp only [Exit.then, Exit.inBlock])
      refine ret1 hf rfl rfl ?_
      refine ⟨?_, rfl⟩; unfold rvalP; rw [hqt8_1b, hqt14_1b]; (try rfl)

def tnameP (b : Int) : ByteArray :=
  bif (decide (b = (127 : Int))) then ⟨#[105, 51, 50]⟩
  else bif (decide (b = (126 : Int))) then ⟨#[105, 54, 52]⟩
  else bif (decide (b = (125 : Int))) then ⟨#[102, 51, 50]⟩
  else bif (decide (b = (124 : Int))) then ⟨#[102, 54, 52]⟩
  else bif (decide (b = (112 : Int))) then ⟨#[102, 117, 110, 99, 114, 101, 102]⟩
  else ⟨#[63]⟩

set_option maxHeartbeats 1000000 in
set_option maxRecDepth 100000 in
theorem tname_any (b : Int) (w : World)  : Calls Try.prog 70 #[(.int .u8 b)] w fun e w' => e = .returned (.string (tnameP b)) ∧ w = w' := by
  refine sx_enter (L := [(0, (.int .u8 b))]) Try.func70 rfl rfl rfl rfl (fun fa hf => ?_)
  have hb : Below w.heap.size w w := Below.refl _ _
  refine wp_seq_k (fun K1 hK1 => ?_)
  refine wp_region_lit ?_
  refine sqv hf (r_assign rfl) rfl rfl rfl ?_; clear hf fa; intro fa hf
  apply wpList_nil
  (try simp only [Exit.then, Exit.inBlock, ↓reduceIte, Nat.reduceEqDiff])
  refine hK1 _ _ ?_
  refine wp_seq_k (fun K2 hK2 => ?_)
  refine wp_seq_k (fun K3 hK3 => ?_)
  refine wp_region_lit ?_
  refine sqv hf (r_move rfl) rfl rfl rfl ?_; clear hf fa; intro fa hf
  apply wpList_nil
  (try simp only [Exit.then, Exit.inBlock, ↓reduceIte, Nat.reduceEqDiff])
  refine hK3 _ _ ?_
  refine wp_block ?_
  refine wp_seq_k (fun K4 hK4 => ?_)
  refine wp_region_lit ?_
  refine sqv hf (r_eq rfl rfl) rfl rfl rfl ?_; clear hf fa; intro fa hf
  refine sqv hf (r_assign rfl) rfl rfl rfl ?_; clear hf fa; intro fa hf
  apply wpList_nil
  (try simp only [Exit.then, Exit.inBlock, ↓reduceIte, Nat.reduceEqDiff])
  refine hK4 _ _ ?_
  refine wp_cond_split (t := (decide (b = (127 : Int)))) (hf.ev rfl) (fun hqt4_1 => ?_) (fun hqt4_1 => ?_)
  · have hqt4_1b := hqt4_1
    try simp only [decide_eq_true_eq, Bool.and_eq_true, Bool.or_eq_true, Bool.not_eq_true', decide_eq_false_iff_not, ne_eq, Bool.not_eq_true] at hqt4_1
    refine wp_seq_k (fun K5 hK5 => ?_)
    refine wp_region_lit ?_
    refine sqv hf (r_assign rfl) rfl rfl rfl ?_; clear hf fa; intro fa hf
    apply wpList_nil
    (try simp only [Exit.then, Exit.inBlock, ↓reduceIte, Nat.reduceEqDiff])
    refine hK5 _ _ ?_
    refine wp_ret ?_
    (try simp only [Exit.then, Exit.inBlock])
    refine ret1 hf rfl rfl ?_
    refine ⟨?_, rfl⟩; unfold tnameP; rw [hqt4_1b]; (try rfl)
  · have hqt4_1b := hqt4_1
    replace hqt4_1 := Bool.eq_false_iff.1 hqt4_1
    try simp only [ne_eq, decide_eq_true_eq, Bool.and_eq_true, Bool.or_eq_true, Bool.not_eq_true', decide_eq_false_iff_not] at hqt4_1
    refine wp_seq_k (fun K6 hK6 => ?_)
    refine wp_region_lit ?_
    refine sqv hf (r_eq rfl rfl) rfl rfl rfl ?_; clear hf fa; intro fa hf
    refine sqv hf (r_assign rfl) rfl rfl rfl ?_; clear hf fa; intro fa hf
    apply wpList_nil
    (try simp only [Exit.then, Exit.inBlock, ↓reduceIte, Nat.reduceEqDiff])
    refine hK6 _ _ ?_
    refine wp_cond_split (t := (decide (b = (126 : Int)))) (hf.ev rfl) (fun hqt6_1 => ?_) (fun hqt6_1 => ?_)
    · have hqt6_1b := hqt6_1
      try simp only [decide_eq_true_eq, Bool.and_eq_true, Bool.or_eq_true, Bool.not_eq_true', decide_eq_false_iff_not, ne_eq, Bool.not_eq_true] at hqt6_1
      refine wp_seq_k (fun K7 hK7 => ?_)
      refine wp_region_lit ?_
      refine sqv hf (r_assign rfl) rfl rfl rfl ?_; clear hf fa; intro fa hf
      apply wpList_nil
      (try simp only [Exit.then, Exit.inBlock, ↓reduceIte, Nat.reduceEqDiff])
      refine hK7 _ _ ?_
      refine wp_ret ?_
      (try simp only [Exit.then, Exit.inBlock])
      refine ret1 hf rfl rfl ?_
      refine ⟨?_, rfl⟩; unfold tnameP; rw [hqt4_1b, hqt6_1b]; (try rfl)
    · have hqt6_1b := hqt6_1
      replace hqt6_1 := Bool.eq_false_iff.1 hqt6_1
      try simp only [ne_eq, decide_eq_true_eq, Bool.and_eq_true, Bool.or_eq_true, Bool.not_eq_true', decide_eq_false_iff_not] at hqt6_1
      refine wp_seq_k (fun K8 hK8 => ?_)
      refine wp_region_lit ?_
      refine sqv hf (r_eq rfl rfl) rfl rfl rfl ?_; clear hf fa; intro fa hf
      refine sqv hf (r_assign rfl) rfl rfl rfl ?_; clear hf fa; intro fa hf
      apply wpList_nil
      (try simp only [Exit.then, Exit.inBlock, ↓reduceIte, Nat.reduceEqDiff])
      refine hK8 _ _ ?_
      refine wp_cond_split (t := (decide (b = (125 : Int)))) (hf.ev rfl) (fun hqt8_1 => ?_) (fun hqt8_1 => ?_)
      · have hqt8_1b := hqt8_1
        try simp only [decide_eq_true_eq, Bool.and_eq_true, Bool.or_eq_true, Bool.not_eq_true', decide_eq_false_iff_not, ne_eq, Bool.not_eq_true] at hqt8_1
        refine wp_seq_k (fun K9 hK9 => ?_)
        refine wp_region_lit ?_
        refine sqv hf (r_assign rfl) rfl rfl rfl ?_; clear hf fa; intro fa hf
        apply wpList_nil
        (try simp only [Exit.then, Exit.inBlock, ↓reduceIte, Nat.reduceEqDiff])
        refine hK9 _ _ ?_
        refine wp_ret ?_
        (try simp only [Exit.then, Exit.inBlock])
        refine ret1 hf rfl rfl ?_
        refine ⟨?_, rfl⟩; unfold tnameP; rw [hqt4_1b, hqt6_1b, hqt8_1b]; (try rfl)
      · have hqt8_1b := hqt8_1
        replace hqt8_1 := Bool.eq_false_iff.1 hqt8_1
        try simp only [ne_eq, decide_eq_true_eq, Bool.and_eq_true, Bool.or_eq_true, Bool.not_eq_true', decide_eq_false_iff_not] at hqt8_1
        refine wp_seq_k (fun K10 hK10 => ?_)
        refine wp_region_lit ?_
        refine sqv hf (r_eq rfl rfl) rfl rfl rfl ?_; clear hf fa; intro fa hf
        refine sqv hf (r_assign rfl) rfl rfl rfl ?_; clear hf fa; intro fa hf
        apply wpList_nil
        (try simp only [Exit.then, Exit.inBlock, ↓reduceIte, Nat.reduceEqDiff])
        refine hK10 _ _ ?_
        refine wp_cond_split (t := (decide (b = (124 : Int)))) (hf.ev rfl) (fun hqt10_1 => ?_) (fun hqt10_1 => ?_)
        · have hqt10_1b := hqt10_1
          try simp only [decide_eq_true_eq, Bool.and_eq_true, Bool.or_eq_true, Bool.not_eq_true', decide_eq_false_iff_not, ne_eq, Bool.not_eq_true] at hqt10_1
          refine wp_seq_k (fun K11 hK11 => ?_)
          refine wp_region_lit ?_
          refine sqv hf (r_assign rfl) rfl rfl rfl ?_; clear hf fa; intro fa hf
          apply wpList_nil
          (try simp only [Exit.then, Exit.inBlock, ↓reduceIte, Nat.reduceEqDiff])
          refine hK11 _ _ ?_
          refine wp_ret ?_
          (try simp only [Exit.then, Exit.inBlock])
          refine ret1 hf rfl rfl ?_
          refine ⟨?_, rfl⟩; unfold tnameP; rw [hqt4_1b, hqt6_1b, hqt8_1b, hqt10_1b]; (try rfl)
        · have hqt10_1b := hqt10_1
          replace hqt10_1 := Bool.eq_false_iff.1 hqt10_1
          try simp only [ne_eq, decide_eq_true_eq, Bool.and_eq_true, Bool.or_eq_true, Bool.not_eq_true', decide_eq_false_iff_not] at hqt10_1
          refine wp_seq_k (fun K12 hK12 => ?_)
          refine wp_region_lit ?_
          refine sqv hf (r_eq rfl rfl) rfl rfl rfl ?_; clear hf fa; intro fa hf
          refine sqv hf (r_assign rfl) rfl rfl rfl ?_; clear hf fa; intro fa hf
          apply wpList_nil
          (try simp only [Exit.then, Exit.inBlock, ↓reduceIte, Nat.reduceEqDiff])
          refine hK12 _ _ ?_
          refine wp_cond_split (t := (decide (b = (112 : Int)))) (hf.ev rfl) (fun hqt12_1 => ?_) (fun hqt12_1 => ?_)
          · have hqt12_1b := hqt12_1
            try simp only [decide_eq_true_eq, Bool.and_eq_true, Bool.or_eq_true, Bool.not_eq_true', decide_eq_false_iff_not, ne_eq, Bool.not_eq_true] at hqt12_1
            refine wp_seq_k (fun K13 hK13 => ?_)
            refine wp_region_lit ?_
            refine sqv hf (r_assign rfl) rfl rfl rfl ?_; clear hf fa; intro fa hf
            apply wpList_nil
            (try simp only [Exit.then, Exit.inBlock, ↓reduceIte, Nat.reduceEqDiff])
            refine hK13 _ _ ?_
            refine wp_ret ?_
            (try simp only [Exit.then, Exit.inBlock])
            refine ret1 hf rfl rfl ?_
            refine ⟨?_, rfl⟩; unfold tnameP; rw [hqt4_1b, hqt6_1b, hqt8_1b, hqt10_1b, hqt12_1b]; (try rfl)
          · have hqt12_1b := hqt12_1
            replace hqt12_1 := Bool.eq_false_iff.1 hqt12_1
            try simp only [ne_eq, decide_eq_true_eq, Bool.and_eq_true, Bool.or_eq_true, Bool.not_eq_true', decide_eq_false_iff_not] at hqt12_1
            refine wp_skip ?_
            (try simp only [Exit.then, Exit.inBlock, ↓reduceIte, Nat.reduceEqDiff])
            refine hK2 _ _ ?_
            refine wp_seq_k (fun K14 hK14 => ?_)
            refine wp_region_lit ?_
            refine sqv hf (r_assign rfl) rfl rfl rfl ?_; clear hf fa; intro fa hf
            apply wpList_nil
            (try simp only [Exit.then, Exit.inBlock, ↓reduceIte, Nat.reduceEqDiff])
            refine hK14 _ _ ?_
            refine wp_ret ?_
            (try simp only [Exit.then, Exit.inBlock])
            refine ret1 hf rfl rfl ?_
            refine ⟨?_, rfl⟩; unfold tnameP; rw [hqt4_1b, hqt6_1b, hqt8_1b, hqt10_1b, hqt12_1b]; (try rfl)

theorem rval_eq (b : Int) : rvalP b = tvalP b := by
  unfold rvalP tvalP
  by_cases h1 : b = 127
  · simp [h1]
  · by_cases h2 : b = 126
    · simp [h2]
    · by_cases h3 : b = 125
      · simp [h3]
      · by_cases h4 : b = 124
        · simp [h4]
        · simp [h1, h2, h3, h4]
theorem rval2_any (b : Int) (w : World) : Calls Try.prog 52 #[.int .i64 b] w fun e w' => e = .returned (.int .i64 (tvalP b)) ∧ w = w' := by
  have h := rval_any b w
  rw [rval_eq] at h
  exact h
theorem drop_at {α : Type} {l : List α} {k : Nat} {y : α} (h : l[k]? = some y) : l.drop k = y :: l.drop (k + 1) := by
  obtain ⟨hk, rfl⟩ := List.getElem?_eq_some_iff.1 h
  exact List.drop_eq_getElem_cons hk
end Go.Proofs.Ytpalmpfkliepfaa

namespace Go.Proofs.Ytpalmpfkliepfaa
open Go.Shelf Go.RowKit
end Go.Proofs.Ytpalmpfkliepfaa

namespace Go.Proofs.Ytpalmpfkliepfaa
open Go.RowKit
set_option linter.unusedVariables false
set_option linter.unusedSimpArgs false
def namesL (l : List Int) : List ByteArray := l.map tnameP
@[simp] theorem namesL_nil : namesL [] = [] := rfl
theorem tname_le (b : Int) : (tnameP b).size ≤ 7 := by
  unfold tnameP
  generalize decide (b = 127) = a1
  generalize decide (b = 126) = a2
  generalize decide (b = 125) = a3
  generalize decide (b = 124) = a4
  generalize decide (b = 112) = a5
  cases a1 <;> cases a2 <;> cases a3 <;> cases a4 <;> cases a5 <;> decide
def rnameP (b : Int) : ByteArray :=
  bif ((decide ((124 : Int) ≤ b)) && (decide (b ≤ (127 : Int)))) then ([⟨#[105, 51, 50]⟩, ⟨#[105, 54, 52]⟩, ⟨#[102, 51, 50]⟩, ⟨#[102, 54, 52]⟩].getD (127 - (b).toNat) (⟨#[]⟩ : ByteArray))
  else bif (decide (b = (112 : Int))) then ⟨#[102, 117, 110, 99, 114, 101, 102]⟩
  else ⟨#[63]⟩

set_option maxHeartbeats 1000000 in
set_option maxRecDepth 100000 in
theorem rname_any (b : Int) (w : World) (hb0 : -1000 ≤ b ∧ b ≤ 1000) : Calls Try.prog 71 #[(.int .i64 b)] w fun e w' => e = .returned (.string (rnameP b)) ∧ Below w.heap.size w w' := by
  refine sx_enter (L := [(0, (.int .i64 b))]) Try.func71 rfl rfl rfl rfl (fun fa hf => ?_)
  have hb : Below w.heap.size w w := Below.refl _ _
  refine wp_seq_k (fun K1 hK1 => ?_)
  refine wp_region_lit ?_
  refine sqv hf (r_assign rfl) rfl rfl rfl ?_; clear hf fa; intro fa hf
  apply wpList_nil
  (try simp only [Exit.then, Exit.inBlock, ↓reduceIte, Nat.reduceEqDiff])
  refine hK1 _ _ ?_
  refine wp_seq_k (fun K2 hK2 => ?_)
  refine wp_region_lit ?_
  refine sqdt hf (d_bslice (z := (.string ⟨#[]⟩)) (sz := 1) (vs := [(0, (.string ⟨#[105, 51, 50]⟩)), (1, (.string ⟨#[105, 54, 52]⟩)), (2, (.string ⟨#[102, 51, 50]⟩)), (3, (.string ⟨#[102, 54, 52]⟩))]) (cs := #[(.string ⟨#[105, 51, 50]⟩), (.string ⟨#[105, 54, 52]⟩), (.string ⟨#[102, 51, 50]⟩), (.string ⟨#[102, 54, 52]⟩)]) rfl Try.underlying32 (by kernel_rfl) rfl (by kernel_rfl)) rfl rfl rfl ?_; clear hf fa; rintro fa _ w1 ⟨b1, rfl, hle1, hk1, he1⟩ hf
  have hBb1 : w.heap.size ≤ b1 := Nat.le_trans hb.size hle1
  replace hb := hb.trans (Below.mono he1 hb.size)
  refine sqv hf (r_assign rfl) rfl rfl rfl ?_; clear hf fa; intro fa hf
  apply wpList_nil
  (try simp only [Exit.then, Exit.inBlock, ↓reduceIte, Nat.reduceEqDiff])
  refine hK2 _ _ ?_
  refine wp_seq_k (fun K3 hK3 => ?_)
  refine wp_seq_k (fun K4 hK4 => ?_)
  refine wp_region_lit ?_
  refine sqv hf (r_move rfl) rfl rfl rfl ?_; clear hf fa; intro fa hf
  refine sqv hf (r_ge rfl rfl) rfl rfl rfl ?_; clear hf fa; intro fa hf
  refine sqv hf (r_move rfl) rfl rfl rfl ?_; clear hf fa; intro fa hf
  refine sqgT (act := (decide ((124 : Int) ≤ b))) (ag := true) (c := (decide ((124 : Int) ≤ b))) (v := (.int .i64 b)) hf rfl rfl rfl (fun hact => (r_move rfl)) rfl rfl ?_; clear hf fa; intro fa hf
  refine sqgT (act := (decide ((124 : Int) ≤ b))) (ag := true) (c := (decide ((124 : Int) ≤ b))) (v := (.bool (decide (b ≤ (127 : Int))))) hf rfl rfl rfl (fun hact => (r_le (gb_ev hact rfl) rfl)) rfl rfl ?_; clear hf fa; intro fa hf
  refine sqv hf (r_pickA (b := (decide ((124 : Int) ≤ b))) (e := (decide (b ≤ (127 : Int)))) rfl rfl rfl) rfl rfl rfl ?_; clear hf fa; intro fa hf
  apply wpList_nil
  (try simp only [Exit.then, Exit.inBlock, ↓reduceIte, Nat.reduceEqDiff])
  refine hK4 _ _ ?_
  refine wp_cond_split (t := ((decide ((124 : Int) ≤ b)) && (decide (b ≤ (127 : Int))))) (hf.ev rfl) (fun hqt10_1 => ?_) (fun hqt10_1 => ?_)
  · have hqt10_1b := hqt10_1
    try simp only [decide_eq_true_eq, Bool.and_eq_true, Bool.or_eq_true, Bool.not_eq_true', decide_eq_false_iff_not, ne_eq, Bool.not_eq_true] at hqt10_1
    refine wp_seq_k (fun K5 hK5 => ?_)
    have hr1 := Row.of_new (k := 1) (V := vStr) (l := [⟨#[105, 51, 50]⟩, ⟨#[105, 54, 52]⟩, ⟨#[102, 51, 50]⟩, ⟨#[102, 54, 52]⟩]) (base := w.heap.size) hk1 (by omega) rfl rfl (Nat.le_of_ble_eq_true rfl)
    skip
    refine wp_region_lit ?_
    refine sqv hf (r_move rfl) rfl rfl rfl ?_; clear hf fa; intro fa hf
    refine sqv hf (r_move rfl) rfl rfl rfl ?_; clear hf fa; intro fa hf
    refine sqv hf (r_sub (C := ((127 : Int) - b)) rfl rfl (by rw [IntKind.wrap_i64]; omega)) rfl rfl rfl ?_; clear hf fa; intro fa hf
    have hy1 := getD_at (l := [⟨#[105, 51, 50]⟩, ⟨#[105, 54, 52]⟩, ⟨#[102, 51, 50]⟩, ⟨#[102, 54, 52]⟩]) (j := (127 - (b).toNat)) (⟨#[]⟩ : ByteArray) (by first | omega | (simp only [Sl.list_length, List.length_set, List.length_take, List.length_append, List.length_replicate, List.length_cons, List.length_nil, List.length_map, nums_len]; omega))
    have hel1 := RdS.at (Row.rd (by intros; rfl) hr1) hy1
    obtain ⟨_, _, hab, hlr1, hel1⟩ := hel1
    cases hab
    refine sqv hf (r_ixa (sz := 1) (j := (127 - (b).toNat)) rfl rfl Try.underlying32 (by kernel_rfl) (by omega) (by omega) rfl) rfl rfl rfl ?_; clear hf fa; intro fa hf
    refine sqv hf (r_load (v := (.string ([⟨#[105, 51, 50]⟩, ⟨#[105, 54, 52]⟩, ⟨#[102, 51, 50]⟩, ⟨#[102, 54, 52]⟩].getD (127 - (b).toNat) (⟨#[]⟩ : ByteArray)))) rfl Try.underlying9 rfl (cellsAt_cell hel1 (i := 0) rfl rfl)) rfl rfl rfl ?_; clear hf fa; intro fa hf
    refine sqv hf (r_assign rfl) rfl rfl rfl ?_; clear hf fa; intro fa hf
    apply wpList_nil
    (try simp only [Exit.then, Exit.inBlock, ↓reduceIte, Nat.reduceEqDiff])
    refine hK5 _ _ ?_
    refine wp_ret ?_
    (try simp only [Exit.then, Exit.inBlock])
    refine ret1 hf rfl rfl ?_
    refine ⟨?_, hb⟩; unfold rnameP; rw [hqt10_1b]; (try rfl)
  · have hqt10_1b := hqt10_1
    replace hqt10_1 := Bool.eq_false_iff.1 hqt10_1
    try simp only [ne_eq, decide_eq_true_eq, Bool.and_eq_true, Bool.or_eq_true, Bool.not_eq_true', decide_eq_false_iff_not] at hqt10_1
    refine wp_skip ?_
    (try simp only [Exit.then, Exit.inBlock, ↓reduceIte, Nat.reduceEqDiff])
    refine hK3 _ _ ?_
    refine wp_seq_k (fun K6 hK6 => ?_)
    refine wp_seq_k (fun K7 hK7 => ?_)
    refine wp_region_lit ?_
    refine sqv hf (r_move rfl) rfl rfl rfl ?_; clear hf fa; intro fa hf
    refine sqv hf (r_eq rfl rfl) rfl rfl rfl ?_; clear hf fa; intro fa hf
    apply wpList_nil
    (try simp only [Exit.then, Exit.inBlock, ↓reduceIte, Nat.reduceEqDiff])
    refine hK7 _ _ ?_
    refine wp_cond_split (t := (decide (b = (112 : Int)))) (hf.ev rfl) (fun hqt17_1 => ?_) (fun hqt17_1 => ?_)
    · have hqt17_1b := hqt17_1
      try simp only [decide_eq_true_eq, Bool.and_eq_true, Bool.or_eq_true, Bool.not_eq_true', decide_eq_false_iff_not, ne_eq, Bool.not_eq_true] at hqt17_1
      refine wp_seq_k (fun K8 hK8 => ?_)
      refine wp_region_lit ?_
      refine sqv hf (r_assign rfl) rfl rfl rfl ?_; clear hf fa; intro fa hf
      apply wpList_nil
      (try simp only [Exit.then, Exit.inBlock, ↓reduceIte, Nat.reduceEqDiff])
      refine hK8 _ _ ?_
      refine wp_ret ?_
      (try simp only [Exit.then, Exit.inBlock])
      refine ret1 hf rfl rfl ?_
      refine ⟨?_, hb⟩; unfold rnameP; rw [hqt10_1b, hqt17_1b]; (try rfl)
    · have hqt17_1b := hqt17_1
      replace hqt17_1 := Bool.eq_false_iff.1 hqt17_1
      try simp only [ne_eq, decide_eq_true_eq, Bool.and_eq_true, Bool.or_eq_true, Bool.not_eq_true', decide_eq_false_iff_not] at hqt17_1
      refine wp_skip ?_
      (try simp only [Exit.then, Exit.inBlock, ↓reduceIte, Nat.reduceEqDiff])
      refine hK6 _ _ ?_
      refine wp_seq_k (fun K9 hK9 => ?_)
      refine wp_region_lit ?_
      refine sqv hf (r_assign rfl) rfl rfl rfl ?_; clear hf fa; intro fa hf
      apply wpList_nil
      (try simp only [Exit.then, Exit.inBlock, ↓reduceIte, Nat.reduceEqDiff])
      refine hK9 _ _ ?_
      refine wp_ret ?_
      (try simp only [Exit.then, Exit.inBlock])
      refine ret1 hf rfl rfl ?_
      refine ⟨?_, hb⟩; unfold rnameP; rw [hqt10_1b, hqt17_1b]; (try rfl)

theorem rname_eq (b : Int) : rnameP b = tnameP b := by
  unfold rnameP tnameP
  by_cases h1 : b = 127
  · subst h1; decide
  · by_cases h2 : b = 126
    · subst h2; decide
    · by_cases h3 : b = 125
      · subst h3; decide
      · by_cases h4 : b = 124
        · subst h4; decide
        · have h5 : (decide (124 ≤ b) && decide (b ≤ 127)) = false := by simp; omega
          rw [h5]; simp [h1, h2, h3, h4]
theorem rname2_any (b : Int) (w : World) (hb0 : -1000 ≤ b ∧ b ≤ 1000) : Calls Try.prog 71 #[.int .i64 b] w fun e w' => e = .returned (.string (tnameP b)) ∧ Below w.heap.size w w' := by
  have h := rname_any b w hb0
  rw [rname_eq] at h
  exact h
def byteR (s : ByteArray) : List Int → Int
  | [] => 0
  | b :: l => if tnameP b = s then b else byteR s l
def byteP (s : ByteArray) : Int := byteR s [127, 126, 125, 124, 112]
theorem byte_rng (s : ByteArray) : 0 ≤ byteP s ∧ byteP s < 256 := by
  unfold byteP byteR byteR byteR byteR byteR byteR
  split; decide
  split; decide
  split; decide
  split; decide
  split <;> decide

set_option maxHeartbeats 1000000 in
set_option maxRecDepth 100000 in
theorem byte_any (s : ByteArray) (w : World) : Calls Try.prog 65 #[(.string s)] w fun e w' => e = .returned (.int .u8 (byteP s)) ∧ Below w.heap.size w w' := by
  refine sx_enter (L := [(0, (.string s))]) Try.func65 rfl rfl rfl rfl (fun fa hf => ?_)
  have hb : Below w.heap.size w w := Below.refl _ _
  refine wp_seq_k (fun K1 hK1 => ?_)
  refine wp_region_lit ?_
  refine sqv hf (r_assign rfl) rfl rfl rfl ?_; clear hf fa; intro fa hf
  apply wpList_nil
  (try simp only [Exit.then, Exit.inBlock, ↓reduceIte, Nat.reduceEqDiff])
  refine hK1 _ _ ?_
  refine wp_seq_k (fun K2 hK2 => ?_)
  refine wp_seq_k (fun K3 hK3 => ?_)
  refine wp_region_lit ?_
  refine sqdt hf (d_bslice (z := (.int .u8 (0 : Int))) (sz := 1) (vs := [(0, (.int .u8 (127 : Int))), (1, (.int .u8 (126 : Int))), (2, (.int .u8 (125 : Int))), (3, (.int .u8 (124 : Int))), (4, (.int .u8 (112 : Int)))]) (cs := #[(.int .u8 (127 : Int)), (.int .u8 (126 : Int)), (.int .u8 (125 : Int)), (.int .u8 (124 : Int)), (.int .u8 (112 : Int))]) rfl Try.underlying43 (by kernel_rfl) rfl (by kernel_rfl)) rfl rfl rfl ?_; clear hf fa; rintro fa _ w1 ⟨b1, rfl, hle1, hk1, he1⟩ hf
  have hBb1 : w.heap.size ≤ b1 := Nat.le_trans hb.size hle1
  replace hb := hb.trans (Below.mono he1 hb.size)
  refine sqv hf (r_lensl rfl Try.underlying43) rfl rfl rfl ?_; clear hf fa; intro fa hf
  have hr1 := Row.of_new (k := 1) (V := (vInt .u8)) (l := [(127 : Int), (126 : Int), (125 : Int), (124 : Int), (112 : Int)]) (base := w.heap.size) hk1 (by omega) rfl rfl (Nat.le_of_ble_eq_true rfl)
  refine sqv hf (r_move rfl) rfl rfl rfl ?_; clear hf fa; intro fa hf
  apply wpList_nil
  (try simp only [Exit.then, Exit.inBlock, ↓reduceIte, Nat.reduceEqDiff])
  refine hK3 _ _ ?_
  refine wp_block ?_
  refine wp_loop_k (fun mq fa wr => ∃ (k : Nat), mq = 5 - k ∧ Fr 17 fa [(0, (.string s)), (6, (.int .i64 (5 : Int))), (7, (.int .i64 ((k : Nat) : Int))), (5, (.slice (some ⟨b1, 0, none⟩) 5 5))] ∧ Below w.heap.size w wr ∧ Row 1 (vInt .u8) 5 (w.heap.size) wr (.slice (some ⟨b1, 0, none⟩) (5) 5) [(127 : Int), (126 : Int), (125 : Int), (124 : Int), (112 : Int)] ∧ (k ≤ 5) ∧ (byteP s = byteR s ([(127 : Int), (126 : Int), (125 : Int), (124 : Int), (112 : Int)].drop k))) ?_ ?_
  · skip
    exact ⟨_, 0, rfl, hf.sub ⟨rfl, rfl, (some_int (by first | rfl | omega)), rfl, trivial⟩, hb, hr1, by omega, rfl⟩
  · skip
    clear hf fa; intro mq1 fa w2 hI KL1 hKL1
    clear hb
    clear hr1
    obtain ⟨k, hmq1, hf, hb, hrhr1, hk, Hs⟩ := hI
    have hcrhr1 := Row.caps hrhr1
    refine wp_seq_k (fun K4 hK4 => ?_)
    refine wp_region_lit ?_
    refine sqv hf (r_lt rfl rfl) rfl rfl rfl ?_; clear hf fa; intro fa hf
    apply wpList_nil
    (try simp only [Exit.then, Exit.inBlock, ↓reduceIte, Nat.reduceEqDiff])
    refine hK4 _ _ ?_
    refine wp_seq_k (fun K5 hK5 => ?_)
    refine wp_cond_split (t := (decide (((k : Nat) : Int) < (5 : Int)))) (hf.ev rfl) (fun hqt8_1 => ?_) (fun hqt8_1 => ?_)
    · have hqt8_1b := hqt8_1
      try simp only [decide_eq_true_eq, Bool.and_eq_true, Bool.or_eq_true, Bool.not_eq_true', decide_eq_false_iff_not, ne_eq, Bool.not_eq_true] at hqt8_1
      refine wp_skip ?_
      (try simp only [Exit.then, Exit.inBlock, ↓reduceIte, Nat.reduceEqDiff])
      refine hK5 _ _ ?_
      refine wp_seq_k (fun K6 hK6 => ?_)
      refine wp_block ?_
      refine wp_seq_k (fun K7 hK7 => ?_)
      obtain ⟨yb, hyB⟩ : ∃ x, ([(127 : Int), (126 : Int), (125 : Int), (124 : Int), (112 : Int)])[k]? = some x := ⟨_, List.getElem?_eq_getElem (by simp only [List.length_cons, List.length_nil]; omega)⟩
      have hyr : 0 ≤ yb ∧ yb < 256 := by have := List.mem_of_getElem? hyB; simp at this; omega
      refine wp_region_lit ?_
      have hy1 : ([(127 : Int), (126 : Int), (125 : Int), (124 : Int), (112 : Int)])[k]? = some yb := hyB
      have hel1 := RdS.at (Row.rd (by intros; rfl) hrhr1) hy1
      obtain ⟨_, _, hab, hlr1, hel1⟩ := hel1
      cases hab
      refine sqv hf (r_ixa (sz := 1) (j := k) rfl rfl Try.underlying43 (by kernel_rfl) rfl (by omega) rfl) rfl rfl rfl ?_; clear hf fa; intro fa hf
      refine sqv hf (r_load (v := (.int .u8 yb)) rfl Try.underlying5 rfl (cellsAt_cell hel1 (i := 0) rfl rfl)) rfl rfl rfl ?_; clear hf fa; intro fa hf
      refine sqv hf (r_assign rfl) rfl rfl rfl ?_; clear hf fa; intro fa hf
      apply wpList_nil
      (try simp only [Exit.then, Exit.inBlock, ↓reduceIte, Nat.reduceEqDiff])
      refine hK7 _ _ ?_
      refine wp_seq_k (fun K8 hK8 => ?_)
      refine wp_region_lit ?_
      refine sqv hf (r_move rfl) rfl rfl rfl ?_; clear hf fa; intro fa hf
      refine sqdt hf (d_callS (vs := [(.int .u8 yb)]) rfl Try.func70 (by kernel_rfl) (by kernel_rfl) (tname_any yb _)) rfl rfl rfl ?_; clear hf fa; rintro fa _ _ ⟨rfl, rfl⟩ hf
      refine sqv hf (r_move rfl) rfl rfl rfl ?_; clear hf fa; intro fa hf
      refine sqv hf (r_seq rfl rfl) rfl rfl rfl ?_; clear hf fa; intro fa hf
      apply wpList_nil
      (try simp only [Exit.then, Exit.inBlock, ↓reduceIte, Nat.reduceEqDiff])
      refine hK8 _ _ ?_
      refine wp_cond_split (t := (decide ((tnameP yb) = s))) (hf.ev rfl) (fun hqt14_1 => ?_) (fun hqt14_1 => ?_)
      · have hqt14_1b := hqt14_1
        try simp only [decide_eq_true_eq, Bool.and_eq_true, Bool.or_eq_true, Bool.not_eq_true', decide_eq_false_iff_not, ne_eq, Bool.not_eq_true] at hqt14_1
        refine wp_seq_k (fun K9 hK9 => ?_)
        refine wp_region_lit ?_
        refine sqv hf (r_move rfl) rfl rfl rfl ?_; clear hf fa; intro fa hf
        refine sqv hf (r_assign rfl) rfl rfl rfl ?_; clear hf fa; intro fa hf
        apply wpList_nil
        (try simp only [Exit.then, Exit.inBlock, ↓reduceIte, Nat.reduceEqDiff])
        refine hK9 _ _ ?_
        refine wp_ret ?_
        (try simp only [Exit.then, Exit.inBlock])
        refine ret1 hf rfl rfl ?_
        refine ⟨congrArg (fun n => Ending.returned (.int .u8 n)) ?_, hb⟩; rw [Hs, drop_at hyB, byteR, if_pos hqt14_1]
      · have hqt14_1b := hqt14_1
        replace hqt14_1 := Bool.eq_false_iff.1 hqt14_1
        try simp only [ne_eq, decide_eq_true_eq, Bool.and_eq_true, Bool.or_eq_true, Bool.not_eq_true', decide_eq_false_iff_not] at hqt14_1
        refine wp_skip ?_
        (try simp only [Exit.then, Exit.inBlock, ↓reduceIte, Nat.reduceEqDiff])
        refine hK6 _ _ ?_
        refine wp_region_lit ?_
        refine sqv hf (r_add (C := (((k : Nat) : Int) + (1 : Int))) rfl rfl (by rw [IntKind.wrap_i64]; omega)) rfl rfl rfl ?_; clear hf fa; intro fa hf
        refine sqv hf (r_move rfl) rfl rfl rfl ?_; clear hf fa; intro fa hf
        apply wpList_nil
        (try simp only [Exit.then, Exit.inBlock, ↓reduceIte, Nat.reduceEqDiff])
        refine hKL1 _ _ _ (by omega) ⟨(k + 1), rfl, hf.sub ⟨rfl, rfl, (some_int (by first | rfl | omega)), rfl, trivial⟩, hb, hrhr1, by omega, (by have h := Hs; rw [drop_at hyB, byteR, if_neg hqt14_1] at h; exact h)⟩
    · have hqt8_1b := hqt8_1
      replace hqt8_1 := Bool.eq_false_iff.1 hqt8_1
      try simp only [ne_eq, decide_eq_true_eq, Bool.and_eq_true, Bool.or_eq_true, Bool.not_eq_true', decide_eq_false_iff_not] at hqt8_1
      refine wp_exit ?_
      (try simp only [Exit.then, Exit.inBlock, ↓reduceIte, Nat.reduceEqDiff])
      refine hK2 _ _ ?_
      refine wp_seq_k (fun K10 hK10 => ?_)
      refine wp_region_lit ?_
      refine sqv hf (r_assign rfl) rfl rfl rfl ?_; clear hf fa; intro fa hf
      apply wpList_nil
      (try simp only [Exit.then, Exit.inBlock, ↓reduceIte, Nat.reduceEqDiff])
      refine hK10 _ _ ?_
      refine wp_ret ?_
      (try simp only [Exit.then, Exit.inBlock])
      refine ret1 hf rfl rfl ?_
      refine ⟨congrArg (fun n => Ending.returned (.int .u8 n)) ?_, hb⟩; obtain rfl : k = 5 := by omega
      rw [Hs]; rfl
end Go.Proofs.Ytpalmpfkliepfaa

namespace Go.Proofs.Ytpalmpfkliepfaa
open Go.RowKit
set_option linter.unusedVariables false
set_option linter.unusedSimpArgs false
def tcutP (v : MVal) : MVal :=
  bif (decide (v.1 = (127 : Int))) then (v.1, (v.2.1 % 4294967296), ())
  else v

set_option maxHeartbeats 1000000 in
set_option maxRecDepth 100000 in
theorem tcut_any (v : MVal) (w : World) (hv1 : 0 ≤ v.1 ∧ v.1 < 256) (hv2 : 0 ≤ v.2.1 ∧ v.2.1 < 18446744073709551616) : Calls Try.prog 64 #[(.agg #[(.int .u8 v.1), (.int .u64 v.2.1)])] w fun e w' => e = .returned (.agg #[(.int .u8 ((tcutP v).1)), (.int .u64 ((tcutP v).2.1))]) ∧ Below w.heap.size w w' := by
  refine sx_enter (L := [(0, (.agg #[(.int .u8 v.1), (.int .u64 v.2.1)]))]) Try.func64 rfl rfl rfl rfl (fun fa hf => ?_)
  have hb : Below w.heap.size w w := Below.refl _ _
  refine wp_seq_k (fun K1 hK1 => ?_)
  refine wp_region_lit ?_
  refine sqdt hf (d_box (cs := #[(.int .u8 v.1), (.int .u64 v.2.1)]) rfl rfl) rfl rfl rfl ?_; clear hf fa; rintro fa _ w1 ⟨b1, rfl, hle1, hk1, he1⟩ hf
  have hBb1 : w.heap.size ≤ b1 := Nat.le_trans hb.size hle1
  replace hb := hb.trans (Below.mono he1 hb.size)
  refine sqdt hf (d_alloc (z := (.agg #[(.int .u8 (0 : Int)), (.int .u64 (0 : Int))])) (cs := #[(.int .u8 (0 : Int)), (.int .u64 (0 : Int))]) (by kernel_rfl) rfl) rfl rfl rfl ?_; clear hf fa; rintro fa _ w2 ⟨b2, rfl, hle2, hk2, he2⟩ hf
  have hBb2 : w.heap.size ≤ b2 := Nat.le_trans hb.size hle2
  have : b1 < b2 := Nat.lt_of_lt_of_le (blk_lt hk1) hle2
  replace hk1 := blk_ext hk1 he2
  replace hb := hb.trans (Below.mono he2 hb.size)
  apply wpList_nil
  (try simp only [Exit.then, Exit.inBlock, ↓reduceIte, Nat.reduceEqDiff])
  refine hK1 _ _ ?_
  refine wp_seq_k (fun K2 hK2 => ?_)
  refine wp_seq_k (fun K3 hK3 => ?_)
  refine wp_region_lit ?_
  refine sqv hf (r_fa rfl Try.underlying65 (f := 0) (q := 0) rfl (by kernel_rfl) rfl) rfl rfl rfl ?_; clear hf fa; intro fa hf
  refine sqv hf (r_load (v := (.int .u8 v.1)) rfl Try.underlying5 rfl (cell_blk hk1 rfl)) rfl rfl rfl ?_; clear hf fa; intro fa hf
  refine sqv hf (r_eq rfl rfl) rfl rfl rfl ?_; clear hf fa; intro fa hf
  apply wpList_nil
  (try simp only [Exit.then, Exit.inBlock, ↓reduceIte, Nat.reduceEqDiff])
  refine hK3 _ _ ?_
  refine wp_cond_split (t := (decide (v.1 = (127 : Int)))) (hf.ev rfl) (fun hqt5_1 => ?_) (fun hqt5_1 => ?_)
  · have hqt5_1b := hqt5_1
    try simp only [decide_eq_true_eq, Bool.and_eq_true, Bool.or_eq_true, Bool.not_eq_true', decide_eq_false_iff_not, ne_eq, Bool.not_eq_true] at hqt5_1
    refine wp_region_lit ?_
    refine sqv hf (r_fa rfl Try.underlying65 (f := 1) (q := 1) rfl (by kernel_rfl) rfl) rfl rfl rfl ?_; clear hf fa; intro fa hf
    refine sqv hf (r_load (v := (.int .u64 v.2.1)) rfl Try.underlying63 rfl (cell_blk hk1 rfl)) rfl rfl rfl ?_; clear hf fa; intro fa hf
    refine sqv hf (r_conv (C := ((v.2.1 % 4294967296))) rfl Try.underlying63 Try.underlying31 (by rw [IntKind.wrap_u32])) rfl rfl rfl ?_; clear hf fa; intro fa hf
    refine sqv hf (r_conv (C := ((v.2.1 % 4294967296))) rfl Try.underlying31 Try.underlying63 (by rw [IntKind.wrap_u64]; omega)) rfl rfl rfl ?_; clear hf fa; intro fa hf
    refine sqv hf (r_fa rfl Try.underlying65 (f := 1) (q := 1) rfl (by kernel_rfl) rfl) rfl rfl rfl ?_; clear hf fa; intro fa hf
    refine sqn hf (d_storeK (T := 65) (v := (.int .u64 ((v.2.1 % 4294967296)))) (cs := #[(.int .u8 v.1), (.int .u64 v.2.1)]) (cs' := #[(.int .u8 v.1), (.int .u64 ((v.2.1 % 4294967296)))]) rfl rfl (by kernel_rfl) (by kernel_rfl) hk1 (by kernel_rfl) (by kernel_rfl)) rfl rfl ?_; clear hf fa; rintro fa _ w3 ⟨hk3, hg1⟩ hf
    replace hk2 := blk_grown hk2 hg1 (by omega)
    replace hb := hb.trans (grown_below hg1 hb.size hBb1)
    apply wpList_nil
    (try simp only [Exit.then, Exit.inBlock, ↓reduceIte, Nat.reduceEqDiff])
    refine hK2 _ _ ?_
    refine wp_seq_k (fun K4 hK4 => ?_)
    refine wp_region_lit ?_
    refine sqv hf (r_loadA (cs := [(.int .u8 v.1), (.int .u64 ((v.2.1 % 4294967296)))]) rfl Try.underlying65 rfl (by kernel_rfl) (cellsAt_blk hk3)) rfl rfl rfl ?_; clear hf fa; intro fa hf
    refine sqn hf (d_storeK (T := 65) (v := (.agg #[(.int .u8 v.1), (.int .u64 ((v.2.1 % 4294967296)))])) (cs := #[(.int .u8 (0 : Int)), (.int .u64 (0 : Int))]) (cs' := #[(.int .u8 v.1), (.int .u64 ((v.2.1 % 4294967296)))]) rfl rfl (by kernel_rfl) (by kernel_rfl) hk2 (by kernel_rfl) (by kernel_rfl)) rfl rfl ?_; clear hf fa; rintro fa _ w4 ⟨hk4, hg2⟩ hf
    replace hk3 := blk_grown hk3 hg2 (by omega)
    replace hb := hb.trans (grown_below hg2 hb.size hBb2)
    apply wpList_nil
    (try simp only [Exit.then, Exit.inBlock, ↓reduceIte, Nat.reduceEqDiff])
    refine hK4 _ _ ?_
    refine wp_ret ?_
    (try simp only [Exit.then, Exit.inBlock])
    refine retC hf rfl rfl hk4 Try.underlying65 rfl (by kernel_rfl) ?_
    refine ⟨?_, hb⟩; unfold tcutP; rw [hqt5_1b]; (try rfl)
  · have hqt5_1b := hqt5_1
    replace hqt5_1 := Bool.eq_false_iff.1 hqt5_1
    try simp only [ne_eq, decide_eq_true_eq, Bool.and_eq_true, Bool.or_eq_true, Bool.not_eq_true', decide_eq_false_iff_not] at hqt5_1
    refine wp_skip ?_
    (try simp only [Exit.then, Exit.inBlock, ↓reduceIte, Nat.reduceEqDiff])
    refine hK2 _ _ ?_
    refine wp_seq_k (fun K5 hK5 => ?_)
    refine wp_region_lit ?_
    refine sqv hf (r_loadA (cs := [(.int .u8 v.1), (.int .u64 v.2.1)]) rfl Try.underlying65 rfl (by kernel_rfl) (cellsAt_blk hk1)) rfl rfl rfl ?_; clear hf fa; intro fa hf
    refine sqn hf (d_storeK (T := 65) (v := (.agg #[(.int .u8 v.1), (.int .u64 v.2.1)])) (cs := #[(.int .u8 (0 : Int)), (.int .u64 (0 : Int))]) (cs' := #[(.int .u8 v.1), (.int .u64 v.2.1)]) rfl rfl (by kernel_rfl) (by kernel_rfl) hk2 (by kernel_rfl) (by kernel_rfl)) rfl rfl ?_; clear hf fa; rintro fa _ w5 ⟨hk5, hg3⟩ hf
    replace hk1 := blk_grown hk1 hg3 (by omega)
    replace hb := hb.trans (grown_below hg3 hb.size hBb2)
    apply wpList_nil
    (try simp only [Exit.then, Exit.inBlock, ↓reduceIte, Nat.reduceEqDiff])
    refine hK5 _ _ ?_
    refine wp_ret ?_
    (try simp only [Exit.then, Exit.inBlock])
    refine retC hf rfl rfl hk5 Try.underlying65 rfl (by kernel_rfl) ?_
    refine ⟨?_, hb⟩; unfold tcutP; rw [hqt5_1b]; (try rfl)

def rcutP (v : MVal) : MVal :=
  bif (decide (v.1 = (127 : Int))) then (v.1, (v.2.1 % 4294967296), ())
  else v

set_option maxHeartbeats 1000000 in
set_option maxRecDepth 100000 in
theorem rcut_any (v : MVal) (w : World) (hv1 : 0 ≤ v.1 ∧ v.1 < 256) (hv2 : 0 ≤ v.2.1 ∧ v.2.1 < 18446744073709551616) : Calls Try.prog 53 #[(.agg #[(.int .u8 v.1), (.int .u64 v.2.1)])] w fun e w' => e = .returned (.agg #[(.int .u8 ((rcutP v).1)), (.int .u64 ((rcutP v).2.1))]) ∧ Below w.heap.size w w' := by
  refine sx_enter (L := [(0, (.agg #[(.int .u8 v.1), (.int .u64 v.2.1)]))]) Try.func53 rfl rfl rfl rfl (fun fa hf => ?_)
  have hb : Below w.heap.size w w := Below.refl _ _
  refine wp_seq_k (fun K1 hK1 => ?_)
  refine wp_region_lit ?_
  refine sqdt hf (d_box (cs := #[(.int .u8 v.1), (.int .u64 v.2.1)]) rfl rfl) rfl rfl rfl ?_; clear hf fa; rintro fa _ w1 ⟨b1, rfl, hle1, hk1, he1⟩ hf
  have hBb1 : w.heap.size ≤ b1 := Nat.le_trans hb.size hle1
  replace hb := hb.trans (Below.mono he1 hb.size)
  refine sqdt hf (d_alloc (z := (.agg #[(.int .u8 (0 : Int)), (.int .u64 (0 : Int))])) (cs := #[(.int .u8 (0 : Int)), (.int .u64 (0 : Int))]) (by kernel_rfl) rfl) rfl rfl rfl ?_; clear hf fa; rintro fa _ w2 ⟨b2, rfl, hle2, hk2, he2⟩ hf
  have hBb2 : w.heap.size ≤ b2 := Nat.le_trans hb.size hle2
  have : b1 < b2 := Nat.lt_of_lt_of_le (blk_lt hk1) hle2
  replace hk1 := blk_ext hk1 he2
  replace hb := hb.trans (Below.mono he2 hb.size)
  apply wpList_nil
  (try simp only [Exit.then, Exit.inBlock, ↓reduceIte, Nat.reduceEqDiff])
  refine hK1 _ _ ?_
  refine wp_seq_k (fun K2 hK2 => ?_)
  refine wp_seq_k (fun K3 hK3 => ?_)
  refine wp_region_lit ?_
  refine sqv hf (r_fa rfl Try.underlying65 (f := 0) (q := 0) rfl (by kernel_rfl) rfl) rfl rfl rfl ?_; clear hf fa; intro fa hf
  refine sqv hf (r_load (v := (.int .u8 v.1)) rfl Try.underlying5 rfl (cell_blk hk1 rfl)) rfl rfl rfl ?_; clear hf fa; intro fa hf
  refine sqv hf (r_eq rfl rfl) rfl rfl rfl ?_; clear hf fa; intro fa hf
  apply wpList_nil
  (try simp only [Exit.then, Exit.inBlock, ↓reduceIte, Nat.reduceEqDiff])
  refine hK3 _ _ ?_
  refine wp_cond_split (t := (decide (v.1 = (127 : Int)))) (hf.ev rfl) (fun hqt5_1 => ?_) (fun hqt5_1 => ?_)
  · have hqt5_1b := hqt5_1
    try simp only [decide_eq_true_eq, Bool.and_eq_true, Bool.or_eq_true, Bool.not_eq_true', decide_eq_false_iff_not, ne_eq, Bool.not_eq_true] at hqt5_1
    refine wp_region_lit ?_
    refine sqv hf (r_fa rfl Try.underlying65 (f := 1) (q := 1) rfl (by kernel_rfl) rfl) rfl rfl rfl ?_; clear hf fa; intro fa hf
    refine sqv hf (r_load (v := (.int .u64 v.2.1)) rfl Try.underlying63 rfl (cell_blk hk1 rfl)) rfl rfl rfl ?_; clear hf fa; intro fa hf
    refine sqv hf (r_rem (C := ((v.2.1 % 4294967296))) rfl rfl (by omega) (Int.tmod_eq_emod_of_nonneg (by omega))) rfl rfl rfl ?_; clear hf fa; intro fa hf
    refine sqv hf (r_fa rfl Try.underlying65 (f := 1) (q := 1) rfl (by kernel_rfl) rfl) rfl rfl rfl ?_; clear hf fa; intro fa hf
    refine sqn hf (d_storeK (T := 65) (v := (.int .u64 ((v.2.1 % 4294967296)))) (cs := #[(.int .u8 v.1), (.int .u64 v.2.1)]) (cs' := #[(.int .u8 v.1), (.int .u64 ((v.2.1 % 4294967296)))]) rfl rfl (by kernel_rfl) (by kernel_rfl) hk1 (by kernel_rfl) (by kernel_rfl)) rfl rfl ?_; clear hf fa; rintro fa _ w3 ⟨hk3, hg1⟩ hf
    replace hk2 := blk_grown hk2 hg1 (by omega)
    replace hb := hb.trans (grown_below hg1 hb.size hBb1)
    apply wpList_nil
    (try simp only [Exit.then, Exit.inBlock, ↓reduceIte, Nat.reduceEqDiff])
    refine hK2 _ _ ?_
    refine wp_seq_k (fun K4 hK4 => ?_)
    refine wp_region_lit ?_
    refine sqv hf (r_loadA (cs := [(.int .u8 v.1), (.int .u64 ((v.2.1 % 4294967296)))]) rfl Try.underlying65 rfl (by kernel_rfl) (cellsAt_blk hk3)) rfl rfl rfl ?_; clear hf fa; intro fa hf
    refine sqn hf (d_storeK (T := 65) (v := (.agg #[(.int .u8 v.1), (.int .u64 ((v.2.1 % 4294967296)))])) (cs := #[(.int .u8 (0 : Int)), (.int .u64 (0 : Int))]) (cs' := #[(.int .u8 v.1), (.int .u64 ((v.2.1 % 4294967296)))]) rfl rfl (by kernel_rfl) (by kernel_rfl) hk2 (by kernel_rfl) (by kernel_rfl)) rfl rfl ?_; clear hf fa; rintro fa _ w4 ⟨hk4, hg2⟩ hf
    replace hk3 := blk_grown hk3 hg2 (by omega)
    replace hb := hb.trans (grown_below hg2 hb.size hBb2)
    apply wpList_nil
    (try simp only [Exit.then, Exit.inBlock, ↓reduceIte, Nat.reduceEqDiff])
    refine hK4 _ _ ?_
    refine wp_ret ?_
    (try simp only [Exit.then, Exit.inBlock])
    refine retC hf rfl rfl hk4 Try.underlying65 rfl (by kernel_rfl) ?_
    refine ⟨?_, hb⟩; unfold rcutP; rw [hqt5_1b]; (try rfl)
  · have hqt5_1b := hqt5_1
    replace hqt5_1 := Bool.eq_false_iff.1 hqt5_1
    try simp only [ne_eq, decide_eq_true_eq, Bool.and_eq_true, Bool.or_eq_true, Bool.not_eq_true', decide_eq_false_iff_not] at hqt5_1
    refine wp_skip ?_
    (try simp only [Exit.then, Exit.inBlock, ↓reduceIte, Nat.reduceEqDiff])
    refine hK2 _ _ ?_
    refine wp_seq_k (fun K5 hK5 => ?_)
    refine wp_region_lit ?_
    refine sqv hf (r_loadA (cs := [(.int .u8 v.1), (.int .u64 v.2.1)]) rfl Try.underlying65 rfl (by kernel_rfl) (cellsAt_blk hk1)) rfl rfl rfl ?_; clear hf fa; intro fa hf
    refine sqn hf (d_storeK (T := 65) (v := (.agg #[(.int .u8 v.1), (.int .u64 v.2.1)])) (cs := #[(.int .u8 (0 : Int)), (.int .u64 (0 : Int))]) (cs' := #[(.int .u8 v.1), (.int .u64 v.2.1)]) rfl rfl (by kernel_rfl) (by kernel_rfl) hk2 (by kernel_rfl) (by kernel_rfl)) rfl rfl ?_; clear hf fa; rintro fa _ w5 ⟨hk5, hg3⟩ hf
    replace hk1 := blk_grown hk1 hg3 (by omega)
    replace hb := hb.trans (grown_below hg3 hb.size hBb2)
    apply wpList_nil
    (try simp only [Exit.then, Exit.inBlock, ↓reduceIte, Nat.reduceEqDiff])
    refine hK5 _ _ ?_
    refine wp_ret ?_
    (try simp only [Exit.then, Exit.inBlock])
    refine retC hf rfl rfl hk5 Try.underlying65 rfl (by kernel_rfl) ?_
    refine ⟨?_, hb⟩; unfold rcutP; rw [hqt5_1b]; (try rfl)

theorem rcut_eq (v : MVal) : rcutP v = tcutP v := rfl
theorem rcut2_any (v : MVal) (w : World) (hv1 : 0 ≤ v.1 ∧ v.1 < 256) (hv2 : 0 ≤ v.2.1 ∧ v.2.1 < 18446744073709551616) : Calls Try.prog 53 #[(.agg #[(.int .u8 v.1), (.int .u64 v.2.1)])] w fun e w' => e = .returned (.agg #[(.int .u8 ((tcutP v).1)), (.int .u64 ((tcutP v).2.1))]) ∧ Below w.heap.size w w' := by
  have h := rcut_any v w hv1 hv2
  rw [rcut_eq] at h
  exact h

def vrightP (v : MVal) : Bool :=
  bif (decide (tvalP v.1 = 0)) then ((decide (((tcutP v).1) = v.1)) && (decide (((tcutP v).2.1) = v.2.1)))
  else false

set_option maxHeartbeats 1000000 in
set_option maxRecDepth 100000 in
theorem vright_any (v : MVal) (w : World) (hv1 : 0 ≤ v.1 ∧ v.1 < 256) (hv2 : 0 ≤ v.2.1 ∧ v.2.1 < 18446744073709551616) : Calls Try.prog 57 #[(.agg #[(.int .u8 v.1), (.int .u64 v.2.1)])] w fun e w' => e = .returned (.bool (vrightP v)) ∧ Below w.heap.size w w' := by
  refine sx_enter (L := [(0, (.agg #[(.int .u8 v.1), (.int .u64 v.2.1)]))]) Try.func57 rfl rfl rfl rfl (fun fa hf => ?_)
  have hb : Below w.heap.size w w := Below.refl _ _
  refine wp_seq_k (fun K1 hK1 => ?_)
  refine wp_region_lit ?_
  refine sqdt hf (d_box (cs := #[(.int .u8 v.1), (.int .u64 v.2.1)]) rfl rfl) rfl rfl rfl ?_; clear hf fa; rintro fa _ w1 ⟨b1, rfl, hle1, hk1, he1⟩ hf
  have hBb1 : w.heap.size ≤ b1 := Nat.le_trans hb.size hle1
  replace hb := hb.trans (Below.mono he1 hb.size)
  refine sqv hf (r_assign rfl) rfl rfl rfl ?_; clear hf fa; intro fa hf
  apply wpList_nil
  (try simp only [Exit.then, Exit.inBlock, ↓reduceIte, Nat.reduceEqDiff])
  refine hK1 _ _ ?_
  refine wp_seq_k (fun K2 hK2 => ?_)
  by_cases hsp1 : tvalP v.1 = 0
  · have hsp1b : decide (tvalP v.1 = 0) = true := decide_eq_true hsp1
    refine wp_region_un (fun wq => Below w1.heap.size w1 wq) (fun w w' => Below w.heap.size w w')
      (fun V => [(fun x _ => x = (.pointer (some ⟨b1, 0, none⟩))), (fun x _ => x = (.int .u8 v.1)), (fun x _ => x = (.int .i64 ((tvalP v.1)))), (fun x _ => x = (.bool true)), (fun x _ => x = (.bool true)), (fun x _ => x = (.agg #[(.int .u8 v.1), (.int .u64 v.2.1)])), (fun x _ => x = (.agg #[(.int .u8 ((tcutP v).1)), (.int .u64 ((tcutP v).2.1))])), (fun x _ => x = (.agg #[(.int .u8 v.1), (.int .u64 v.2.1)])), (fun x _ => x = (.bool ((decide (((tcutP v).1) = v.1)) && (decide (((tcutP v).2.1) = v.2.1))))), (fun x _ => x = (.bool ((decide (((tcutP v).1) = v.1)) && (decide (((tcutP v).2.1) = v.2.1))))), (fun x _ => x = (.bool ((decide (((tcutP v).1) = v.1)) && (decide (((tcutP v).2.1) = v.2.1)))))])
      []
      [[], [0], [1], [2], [2, 3], [4], [4, 5], [4], [4, 6, 7], [4, 8], [0, 1, 2, 3, 4, 5, 6, 7, 8, 9]]
      hf (by kernel_rfl) (by kernel_rfl) (fun _ => rfl) ((Below.refl _ _).drew) (fun a b h1 h2 => h1.trans (h2.mono h1.size)) (fun _ _ h => h.size) (fun V => ⟨kept_eq, kept_eq, kept_eq, kept_eq, kept_eq, kept_eq, kept_eq, kept_eq, kept_eq, kept_eq, kept_eq, trivial⟩) (fun _ _ _ _ _ => rfl) ?_ ?_
    · skip
      intro V
      refine ⟨fun wu0 hC hd => ?_, ?_⟩
      · clear hd
        replace hb := hb.trans (hC.mono hb.size)
        replace hk1 := blk_ext hk1 hC
        exact Runs.does (r_fa rfl Try.underlying65 (f := 0) (q := 0) rfl (by kernel_rfl) rfl) ⟨Below.refl _ _, rfl, nofr rfl⟩
      refine ⟨fun wu1 hC hd => ?_, ?_⟩
      · obtain ⟨h0, _⟩ := hd
        skip
        replace h0 : V 0 = (.pointer (some ⟨b1, 0, none⟩)) := h0
        replace hb := hb.trans (hC.mono hb.size)
        replace hk1 := blk_ext hk1 hC
        exact Runs.does (r_load (v := (.int .u8 v.1)) (congrArg some h0) Try.underlying5 rfl (cell_blk hk1 rfl)) ⟨Below.refl _ _, rfl, nofr rfl⟩
      refine ⟨fun wu2 hC hd => ?_, ?_⟩
      · obtain ⟨h1, _⟩ := hd
        skip
        replace h1 : V 1 = (.int .u8 v.1) := h1
        replace hb := hb.trans (hC.mono hb.size)
        replace hk1 := blk_ext hk1 hC
        refine Does.mono (d_callS (vs := [(.int .u8 v.1)]) (show [some (V 1)] = [some (.int .u8 v.1)] from by rw [h1]) Try.func85 (by kernel_rfl) (by kernel_rfl) (tval_any v.1 _)) (fun _ _ h => ⟨h.2 ▸ Below.refl _ _, h.1, nofr rfl⟩)
      refine ⟨fun wu3 hC hd => ?_, ?_⟩
      · obtain ⟨h2, _⟩ := hd
        skip
        replace h2 : V 2 = (.int .i64 ((tvalP v.1))) := h2
        replace hb := hb.trans (hC.mono hb.size)
        replace hk1 := blk_ext hk1 hC
        exact Runs.does (Runs.veq (r_eq (congrArg some h2) rfl) (congrArg Value.bool (show _ = true from (by simpa using hsp1)))) ⟨Below.refl _ _, rfl, nofr rfl⟩
      refine ⟨fun wu4 hC hd => ?_, ?_⟩
      · obtain ⟨h2, h3, _⟩ := hd
        skip
        skip
        replace h2 : V 2 = (.int .i64 ((tvalP v.1))) := h2
        replace h3 : V 3 = (.bool true) := h3
        replace hb := hb.trans (hC.mono hb.size)
        replace hk1 := blk_ext hk1 hC
        exact Runs.does (r_move (congrArg some h3)) ⟨Below.refl _ _, rfl, nofr rfl⟩
      refine ⟨fun wu5 hC hd => ?_, ?_⟩
      · obtain ⟨h4, _⟩ := hd
        skip
        replace h4 : V 4 = (.bool true) := h4
        replace hb := hb.trans (hC.mono hb.size)
        replace hk1 := blk_ext hk1 hC
        refine ⟨true, true, congrArg some h4, fun hact => ?_, fun hact => ?_⟩
        · exact Runs.does (r_loadA (cs := [(.int .u8 v.1), (.int .u64 v.2.1)]) rfl Try.underlying65 rfl (by kernel_rfl) (cellsAt_blk hk1)) ⟨Below.refl _ _, rfl, nofr rfl⟩
        · exfalso; simp at hact
      refine ⟨fun wu6 hC hd => ?_, ?_⟩
      · obtain ⟨h4, h5, _⟩ := hd
        skip
        skip
        replace h4 : V 4 = (.bool true) := h4
        replace h5 : V 5 = (.agg #[(.int .u8 v.1), (.int .u64 v.2.1)]) := h5
        replace hb := hb.trans (hC.mono hb.size)
        replace hk1 := blk_ext hk1 hC
        refine ⟨true, true, congrArg some h4, fun hact => ?_, fun hact => ?_⟩
        · refine Does.mono (d_callB (vs := [(.agg #[(.int .u8 v.1), (.int .u64 v.2.1)])]) (show [some (V 5)] = [some (.agg #[(.int .u8 v.1), (.int .u64 v.2.1)])] from by rw [h5]) Try.func64 (by kernel_rfl) (by kernel_rfl) (tcut_any v _ hv1 hv2)) (fun _ _ h => ⟨h.2, h.1, nofr rfl⟩)
        · exfalso; simp at hact
      refine ⟨fun wu7 hC hd => ?_, ?_⟩
      · obtain ⟨h4, _⟩ := hd
        skip
        replace h4 : V 4 = (.bool true) := h4
        replace hb := hb.trans (hC.mono hb.size)
        replace hk1 := blk_ext hk1 hC
        refine ⟨true, true, congrArg some h4, fun hact => ?_, fun hact => ?_⟩
        · exact Runs.does (r_loadA (cs := [(.int .u8 v.1), (.int .u64 v.2.1)]) rfl Try.underlying65 rfl (by kernel_rfl) (cellsAt_blk hk1)) ⟨Below.refl _ _, rfl, nofr rfl⟩
        · exfalso; simp at hact
      refine ⟨fun wu8 hC hd => ?_, ?_⟩
      · obtain ⟨h4, h6, h7, _⟩ := hd
        skip
        skip
        skip
        replace h4 : V 4 = (.bool true) := h4
        replace h6 : V 6 = (.agg #[(.int .u8 ((tcutP v).1)), (.int .u64 ((tcutP v).2.1))]) := h6
        replace h7 : V 7 = (.agg #[(.int .u8 v.1), (.int .u64 v.2.1)]) := h7
        replace hb := hb.trans (hC.mono hb.size)
        replace hk1 := blk_ext hk1 hC
        refine ⟨true, true, congrArg some h4, fun hact => ?_, fun hact => ?_⟩
        · exact Runs.does (r_aeq (k := 5) (congrArg some h6) (congrArg some h7) (by kernel_rfl) (eqt_struct (xs := #[(.int .u8 ((tcutP v).1)), (.int .u64 ((tcutP v).2.1))]) (ys := #[(.int .u8 v.1), (.int .u64 v.2.1)]) Try.underlying65 (by kernel_rfl) (eqf_cons (by kernel_rfl) (fun _ => by kernel_rfl) (fun _ => by kernel_rfl) (eqt_int (kk := .u8) (a := ((tcutP v).1)) (b := v.1) Try.underlying5) (eqf_one (by kernel_rfl) (fun _ => by kernel_rfl) (fun _ => by kernel_rfl) (eqt_int (kk := .u64) (a := ((tcutP v).2.1)) (b := v.2.1) Try.underlying63)))) rfl) ⟨Below.refl _ _, rfl, nofr rfl⟩
        · exfalso; simp at hact
      refine ⟨fun wu9 hC hd => ?_, ?_⟩
      · obtain ⟨h4, h8, _⟩ := hd
        skip
        skip
        replace h4 : V 4 = (.bool true) := h4
        replace h8 : V 8 = (.bool ((decide (((tcutP v).1) = v.1)) && (decide (((tcutP v).2.1) = v.2.1)))) := h8
        replace hb := hb.trans (hC.mono hb.size)
        replace hk1 := blk_ext hk1 hC
        exact Runs.does (r_pick (b := true) (congrArg some h4) (congrArg some h8) rfl rfl) ⟨Below.refl _ _, rfl, nofr rfl⟩
      refine ⟨fun wu10 hC hd => ?_, ?_⟩
      · obtain ⟨h0, h1, h2, h3, h4, h5, h6, h7, h8, h9, _⟩ := hd
        skip
        skip
        skip
        skip
        skip
        skip
        skip
        skip
        skip
        skip
        replace h0 : V 0 = (.pointer (some ⟨b1, 0, none⟩)) := h0
        replace h1 : V 1 = (.int .u8 v.1) := h1
        replace h2 : V 2 = (.int .i64 ((tvalP v.1))) := h2
        replace h3 : V 3 = (.bool true) := h3
        replace h4 : V 4 = (.bool true) := h4
        replace h5 : V 5 = (.agg #[(.int .u8 v.1), (.int .u64 v.2.1)]) := h5
        replace h6 : V 6 = (.agg #[(.int .u8 ((tcutP v).1)), (.int .u64 ((tcutP v).2.1))]) := h6
        replace h7 : V 7 = (.agg #[(.int .u8 v.1), (.int .u64 v.2.1)]) := h7
        replace h8 : V 8 = (.bool ((decide (((tcutP v).1) = v.1)) && (decide (((tcutP v).2.1) = v.2.1)))) := h8
        replace h9 : V 9 = (.bool ((decide (((tcutP v).1) = v.1)) && (decide (((tcutP v).2.1) = v.2.1)))) := h9
        replace hb := hb.trans (hC.mono hb.size)
        replace hk1 := blk_ext hk1 hC
        exact Runs.does (r_assign (congrArg some h9)) ⟨Below.refl _ _, rfl, nofr rfl⟩
      trivial
    · skip
      clear hf fa; intro V w2 fa he2 hp hnb hf
      have hv0 : V 0 = (.pointer (some ⟨b1, 0, none⟩)) := postsHold_at hp 0 rfl
      have hv1 : V 1 = (.int .u8 v.1) := postsHold_at hp 1 rfl
      have hv2 : V 2 = (.int .i64 ((tvalP v.1))) := postsHold_at hp 2 rfl
      have hv3 : V 3 = (.bool true) := postsHold_at hp 3 rfl
      have hv4 : V 4 = (.bool true) := postsHold_at hp 4 rfl
      have hv5 : V 5 = (.agg #[(.int .u8 v.1), (.int .u64 v.2.1)]) := postsHold_at hp 5 rfl
      have hv6 : V 6 = (.agg #[(.int .u8 ((tcutP v).1)), (.int .u64 ((tcutP v).2.1))]) := postsHold_at hp 6 rfl
      have hv7 : V 7 = (.agg #[(.int .u8 v.1), (.int .u64 v.2.1)]) := postsHold_at hp 7 rfl
      have hv8 : V 8 = (.bool ((decide (((tcutP v).1) = v.1)) && (decide (((tcutP v).2.1) = v.2.1)))) := postsHold_at hp 8 rfl
      have hv9 : V 9 = (.bool ((decide (((tcutP v).1) = v.1)) && (decide (((tcutP v).2.1) = v.2.1)))) := postsHold_at hp 9 rfl
      have hv10 : V 10 = (.bool ((decide (((tcutP v).1) = v.1)) && (decide (((tcutP v).2.1) = v.2.1)))) := postsHold_at hp 10 rfl
      simp only [List.take_succ_cons, List.take_zero, insAll, ins, hv0, hv1, hv2, hv3, hv4, hv5, hv6, hv7, hv8, hv9, hv10] at hf
      clear hp hnb hv0 hv1 hv2 hv3 hv4 hv5 hv6 hv7 hv8 hv9 hv10
      replace hk1 := blk_ext hk1 he2
      replace hb := hb.trans (Below.mono he2 hb.size)
      (try simp only [Exit.then, Exit.inBlock, ↓reduceIte, Nat.reduceEqDiff])
      refine hK2 _ _ ?_
      refine wp_ret ?_
      (try simp only [Exit.then, Exit.inBlock])
      refine ret1 hf rfl rfl ?_
      refine ⟨?_, hb⟩; unfold vrightP; rw [hsp1b]; (try rfl)
  · have hsp1b : decide (tvalP v.1 = 0) = false := decide_eq_false hsp1
    refine wp_region_un (fun wq => Below w1.heap.size w1 wq) (fun w w' => Below w.heap.size w w')
      (fun V => [(fun x _ => x = (.pointer (some ⟨b1, 0, none⟩))), (fun x _ => x = (.int .u8 v.1)), (fun x _ => x = (.int .i64 ((tvalP v.1)))), (fun x _ => x = (.bool false)), (fun x _ => x = (.bool false)), (fun x _ => x = gb false (.bool false)), (fun x _ => x = gb false (.bool false)), (fun x _ => x = gb false (.bool false)), (fun x _ => x = gb false (.bool false)), (fun x _ => x = (.bool false)), (fun x _ => x = (.bool false))])
      []
      [[], [0], [1], [2], [2, 3], [4], [4, 5], [4], [4, 6, 7], [4, 8], [0, 1, 2, 3, 4, 5, 6, 7, 8, 9]]
      hf (by kernel_rfl) (by kernel_rfl) (fun _ => rfl) ((Below.refl _ _).drew) (fun a b h1 h2 => h1.trans (h2.mono h1.size)) (fun _ _ h => h.size) (fun V => ⟨kept_eq, kept_eq, kept_eq, kept_eq, kept_eq, kept_eq, kept_eq, kept_eq, kept_eq, kept_eq, kept_eq, trivial⟩) (fun _ _ _ _ _ => rfl) ?_ ?_
    · skip
      intro V
      refine ⟨fun wu0 hC hd => ?_, ?_⟩
      · clear hd
        replace hb := hb.trans (hC.mono hb.size)
        replace hk1 := blk_ext hk1 hC
        exact Runs.does (r_fa rfl Try.underlying65 (f := 0) (q := 0) rfl (by kernel_rfl) rfl) ⟨Below.refl _ _, rfl, nofr rfl⟩
      refine ⟨fun wu1 hC hd => ?_, ?_⟩
      · obtain ⟨h0, _⟩ := hd
        skip
        replace h0 : V 0 = (.pointer (some ⟨b1, 0, none⟩)) := h0
        replace hb := hb.trans (hC.mono hb.size)
        replace hk1 := blk_ext hk1 hC
        exact Runs.does (r_load (v := (.int .u8 v.1)) (congrArg some h0) Try.underlying5 rfl (cell_blk hk1 rfl)) ⟨Below.refl _ _, rfl, nofr rfl⟩
      refine ⟨fun wu2 hC hd => ?_, ?_⟩
      · obtain ⟨h1, _⟩ := hd
        skip
        replace h1 : V 1 = (.int .u8 v.1) := h1
        replace hb := hb.trans (hC.mono hb.size)
        replace hk1 := blk_ext hk1 hC
        refine Does.mono (d_callS (vs := [(.int .u8 v.1)]) (show [some (V 1)] = [some (.int .u8 v.1)] from by rw [h1]) Try.func85 (by kernel_rfl) (by kernel_rfl) (tval_any v.1 _)) (fun _ _ h => ⟨h.2 ▸ Below.refl _ _, h.1, nofr rfl⟩)
      refine ⟨fun wu3 hC hd => ?_, ?_⟩
      · obtain ⟨h2, _⟩ := hd
        skip
        replace h2 : V 2 = (.int .i64 ((tvalP v.1))) := h2
        replace hb := hb.trans (hC.mono hb.size)
        replace hk1 := blk_ext hk1 hC
        exact Runs.does (Runs.veq (r_eq (congrArg some h2) rfl) (congrArg Value.bool (show _ = false from (by simpa using hsp1)))) ⟨Below.refl _ _, rfl, nofr rfl⟩
      refine ⟨fun wu4 hC hd => ?_, ?_⟩
      · obtain ⟨h2, h3, _⟩ := hd
        skip
        skip
        replace h2 : V 2 = (.int .i64 ((tvalP v.1))) := h2
        replace h3 : V 3 = (.bool false) := h3
        replace hb := hb.trans (hC.mono hb.size)
        replace hk1 := blk_ext hk1 hC
        exact Runs.does (r_move (congrArg some h3)) ⟨Below.refl _ _, rfl, nofr rfl⟩
      refine ⟨fun wu5 hC hd => ?_, ?_⟩
      · obtain ⟨h4, _⟩ := hd
        skip
        replace h4 : V 4 = (.bool false) := h4
        replace hb := hb.trans (hC.mono hb.size)
        replace hk1 := blk_ext hk1 hC
        refine ⟨true, false, congrArg some h4, fun hact => ?_, fun hact => ?_⟩
        · exfalso; simp at hact
        · exact ⟨Below.refl _ _, rfl, nofr rfl⟩
      refine ⟨fun wu6 hC hd => ?_, ?_⟩
      · obtain ⟨h4, h5, _⟩ := hd
        skip
        skip
        replace h4 : V 4 = (.bool false) := h4
        replace h5 : V 5 = gb false (.bool false) := h5
        replace hb := hb.trans (hC.mono hb.size)
        replace hk1 := blk_ext hk1 hC
        refine ⟨true, false, congrArg some h4, fun hact => ?_, fun hact => ?_⟩
        · exfalso; simp at hact
        · exact ⟨Below.refl _ _, rfl, nofr rfl⟩
      refine ⟨fun wu7 hC hd => ?_, ?_⟩
      · obtain ⟨h4, _⟩ := hd
        skip
        replace h4 : V 4 = (.bool false) := h4
        replace hb := hb.trans (hC.mono hb.size)
        replace hk1 := blk_ext hk1 hC
        refine ⟨true, false, congrArg some h4, fun hact => ?_, fun hact => ?_⟩
        · exfalso; simp at hact
        · exact ⟨Below.refl _ _, rfl, nofr rfl⟩
      refine ⟨fun wu8 hC hd => ?_, ?_⟩
      · obtain ⟨h4, h6, h7, _⟩ := hd
        skip
        skip
        skip
        replace h4 : V 4 = (.bool false) := h4
        replace h6 : V 6 = gb false (.bool false) := h6
        replace h7 : V 7 = gb false (.bool false) := h7
        replace hb := hb.trans (hC.mono hb.size)
        replace hk1 := blk_ext hk1 hC
        refine ⟨true, false, congrArg some h4, fun hact => ?_, fun hact => ?_⟩
        · exfalso; simp at hact
        · exact ⟨Below.refl _ _, rfl, nofr rfl⟩
      refine ⟨fun wu9 hC hd => ?_, ?_⟩
      · obtain ⟨h4, h8, _⟩ := hd
        skip
        skip
        replace h4 : V 4 = (.bool false) := h4
        replace h8 : V 8 = gb false (.bool false) := h8
        replace hb := hb.trans (hC.mono hb.size)
        replace hk1 := blk_ext hk1 hC
        exact Runs.does (r_pick (b := false) (congrArg some h4) (congrArg some h8) rfl rfl) ⟨Below.refl _ _, rfl, nofr rfl⟩
      refine ⟨fun wu10 hC hd => ?_, ?_⟩
      · obtain ⟨h0, h1, h2, h3, h4, h5, h6, h7, h8, h9, _⟩ := hd
        skip
        skip
        skip
        skip
        skip
        skip
        skip
        skip
        skip
        skip
        replace h0 : V 0 = (.pointer (some ⟨b1, 0, none⟩)) := h0
        replace h1 : V 1 = (.int .u8 v.1) := h1
        replace h2 : V 2 = (.int .i64 ((tvalP v.1))) := h2
        replace h3 : V 3 = (.bool false) := h3
        replace h4 : V 4 = (.bool false) := h4
        replace h5 : V 5 = gb false (.bool false) := h5
        replace h6 : V 6 = gb false (.bool false) := h6
        replace h7 : V 7 = gb false (.bool false) := h7
        replace h8 : V 8 = gb false (.bool false) := h8
        replace h9 : V 9 = (.bool false) := h9
        replace hb := hb.trans (hC.mono hb.size)
        replace hk1 := blk_ext hk1 hC
        exact Runs.does (r_assign (congrArg some h9)) ⟨Below.refl _ _, rfl, nofr rfl⟩
      trivial
    · skip
      clear hf fa; intro V w3 fa he3 hp hnb hf
      have hv0 : V 0 = (.pointer (some ⟨b1, 0, none⟩)) := postsHold_at hp 0 rfl
      have hv1 : V 1 = (.int .u8 v.1) := postsHold_at hp 1 rfl
      have hv2 : V 2 = (.int .i64 ((tvalP v.1))) := postsHold_at hp 2 rfl
      have hv3 : V 3 = (.bool false) := postsHold_at hp 3 rfl
      have hv4 : V 4 = (.bool false) := postsHold_at hp 4 rfl
      have hv5 : V 5 = gb false (.bool false) := postsHold_at hp 5 rfl
      have hv6 : V 6 = gb false (.bool false) := postsHold_at hp 6 rfl
      have hv7 : V 7 = gb false (.bool false) := postsHold_at hp 7 rfl
      have hv8 : V 8 = gb false (.bool false) := postsHold_at hp 8 rfl
      have hv9 : V 9 = (.bool false) := postsHold_at hp 9 rfl
      have hv10 : V 10 = (.bool false) := postsHold_at hp 10 rfl
      simp only [List.take_succ_cons, List.take_zero, insAll, ins, hv0, hv1, hv2, hv3, hv4, hv5, hv6, hv7, hv8, hv9, hv10] at hf
      clear hp hnb hv0 hv1 hv2 hv3 hv4 hv5 hv6 hv7 hv8 hv9 hv10
      replace hk1 := blk_ext hk1 he3
      replace hb := hb.trans (Below.mono he3 hb.size)
      (try simp only [Exit.then, Exit.inBlock, ↓reduceIte, Nat.reduceEqDiff])
      refine hK2 _ _ ?_
      refine wp_ret ?_
      (try simp only [Exit.then, Exit.inBlock])
      refine ret1 hf rfl rfl ?_
      refine ⟨?_, hb⟩; unfold vrightP; rw [hsp1b]; (try rfl)

theorem vright_def (v : MVal) : vrightP v = (decide (tvalP v.1 = 0) && (decide ((tcutP v).1 = v.1) && decide ((tcutP v).2.1 = v.2.1))) := by
  unfold vrightP
  cases decide (tvalP v.1 = 0) <;> simp
end Go.Proofs.Ytpalmpfkliepfaa

namespace Go.Proofs.Ytpalmpfkliepfaa
open Go.RowKit Ut
set_option linter.unusedVariables false
set_option linter.unusedSimpArgs false
def cA (s : ByteArray) (c : Nat) : ByteArray := s.extract 0 (posB s c)
def cZ (s : ByteArray) (c : Nat) : ByteArray := s.extract (posB s c + 1) s.size
theorem cA_all {s : ByteArray} {c : Nat} (h : ¬ posB s c < s.size) : cA s c = s := by
  have := posB_le s c
  apply bl_inj
  unfold cA
  rw [bl_mid, show posB s c = s.size by omega, List.drop_zero, Nat.sub_zero, List.take_of_length_le (by rw [bl_length]; omega)]
theorem cZ_none {s : ByteArray} {c : Nat} (h : ¬ posB s c < s.size) : cZ s c = ⟨#[]⟩ := by
  have := posB_le s c
  apply bl_inj
  unfold cZ
  rw [bl_mid, show s.size - (posB s c + 1) = 0 by omega, List.take_zero]; rfl
theorem cZ_len (s : ByteArray) (c : Nat) : (cZ s c).size ≤ s.size := by
  rw [← bl_length, ← bl_length]; unfold cZ; rw [bl_mid, List.length_take, List.length_drop]; omega

set_option maxHeartbeats 1000000 in
set_option maxRecDepth 100000 in
theorem slcut_any (s sp : ByteArray) (c : UInt8) (w : World) (hsp : sp = ⟨#[c]⟩) (hs : s.size ≤ 100000) : Calls Try.prog 86 #[(.string s), (.string sp)] w fun e w' => e = .returned (.tuple #[.string (cA s c.toNat), .string (cZ s c.toNat), .bool (decide (posB s c.toNat < s.size))]) ∧ Below w.heap.size w w' := by
  have hz : sp.size = 1 := by rw [hsp]; rfl
  obtain ⟨p, hp⟩ : ∃ p, posB s c.toNat = p := ⟨_, rfl⟩
  refine sx_enter (L := [(0, (.string s)), (1, (.string sp))]) Try.func86 rfl rfl rfl rfl (fun fa hf => ?_)
  have hb : Below w.heap.size w w := Below.refl _ _
  refine wp_seq_k (fun K1 hK1 => ?_)
  refine wp_region_lit ?_
  refine sqv hf (r_assign rfl) rfl rfl rfl ?_; clear hf fa; intro fa hf
  refine sqv hf (r_assign rfl) rfl rfl rfl ?_; clear hf fa; intro fa hf
  refine sqv hf (r_assign rfl) rfl rfl rfl ?_; clear hf fa; intro fa hf
  apply wpList_nil
  (try simp only [Exit.then, Exit.inBlock, ↓reduceIte, Nat.reduceEqDiff])
  refine hK1 _ _ ?_
  refine wp_seq_k (fun K2 hK2 => ?_)
  refine wp_seq_k (fun K3 hK3 => ?_)
  by_cases hsp1 : p < s.size
  · have hsp1b : decide (p < s.size) = true := decide_eq_true hsp1
    refine wp_region_lit ?_
    refine sqv hf (r_move rfl) rfl rfl rfl ?_; clear hf fa; intro fa hf
    refine sqv hf (r_move rfl) rfl rfl rfl ?_; clear hf fa; intro fa hf
    refine sqdt hf (d_callS (vs := [(.string s), (.string sp)]) rfl Try.func100 (by kernel_rfl) (by kernel_rfl) (by have h := slindex_any s c w; rw [← hsp, hp, if_pos hsp1] at h; exact h)) rfl rfl rfl ?_; clear hf fa; rintro fa _ _ ⟨rfl, rfl⟩ hf
    refine sqv hf (r_assign rfl) rfl rfl rfl ?_; clear hf fa; intro fa hf
    apply wpList_nil
    (try simp only [Exit.then, Exit.inBlock, ↓reduceIte, Nat.reduceEqDiff])
    refine hK3 _ _ ?_
    refine wp_seq_k (fun K4 hK4 => ?_)
    refine wp_region_lit ?_
    refine sqv hf (r_move rfl) rfl rfl rfl ?_; clear hf fa; intro fa hf
    refine sqv hf (r_ge rfl rfl) rfl rfl rfl ?_; clear hf fa; intro fa hf
    apply wpList_nil
    (try simp only [Exit.then, Exit.inBlock, ↓reduceIte, Nat.reduceEqDiff])
    refine hK4 _ _ ?_
    refine wp_cond_true ((hf.ev rfl).trans (congrArg Value.bool (show (decide ((0 : Int) ≤ ((p : Nat) : Int))) = true from (by simp)))) ?_
    refine wp_seq_k (fun K5 hK5 => ?_)
    refine wp_region_un (fun wq => Below w.heap.size w wq) (fun w w' => Below w.heap.size w w')
      (fun V => [(fun x _ => x = (.string s)), (fun x _ => x = (.int .i64 ((p : Nat) : Int))), (fun x _ => x = (.string (s.extract 0 p))), (fun x _ => x = (.string s)), (fun x _ => x = (.int .i64 ((p : Nat) : Int))), (fun x _ => x = (.string sp)), (fun x _ => x = (.int .i64 ((sp.size : Nat) : Int))), (fun x _ => x = (.int .i64 (((p : Nat) : Int) + ((sp.size : Nat) : Int)))), (fun x _ => x = (.string (s.extract (p + sp.size) s.size))), (fun x _ => x = (.string (s.extract 0 p))), (fun x _ => x = (.string (s.extract (p + sp.size) s.size))), (fun x _ => x = (.bool true))])
      []
      [[], [], [0, 1], [], [], [], [5], [4, 6], [3, 7], [0, 1, 2], [0, 1, 2, 3, 4, 5, 6, 7, 8, 9], [0, 1, 2, 3, 4, 5, 6, 7, 8, 9, 10]]
      hf (by kernel_rfl) (by kernel_rfl) (fun _ => rfl) ((Below.refl _ _).drew) (fun a b h1 h2 => h1.trans (h2.mono h1.size)) (fun _ _ h => h.size) (fun V => ⟨kept_eq, kept_eq, kept_eq, kept_eq, kept_eq, kept_eq, kept_eq, kept_eq, kept_eq, kept_eq, kept_eq, kept_eq, trivial⟩) (fun _ _ _ _ _ => rfl) ?_ ?_
    · skip
      intro V
      refine ⟨fun wu0 hC hd => ?_, ?_⟩
      · clear hd
        replace hb := hb.trans (hC.mono hb.size)
        exact Runs.does (r_move rfl) ⟨Below.refl _ _, rfl, nofr rfl⟩
      refine ⟨fun wu1 hC hd => ?_, ?_⟩
      · clear hd
        replace hb := hb.trans (hC.mono hb.size)
        exact Runs.does (r_move rfl) ⟨Below.refl _ _, rfl, nofr rfl⟩
      refine ⟨fun wu2 hC hd => ?_, ?_⟩
      · obtain ⟨h0, h1, _⟩ := hd
        skip
        skip
        replace h0 : V 0 = (.string s) := h0
        replace h1 : V 1 = (.int .i64 ((p : Nat) : Int)) := h1
        replace hb := hb.trans (hC.mono hb.size)
        exact Runs.does (r_sslice (a := 0) (b := p) (k1 := .i64) (k2 := .i64) (A := 0) (B := ((p : Nat) : Int)) (congrArg some h0) Try.underlying9 (.inl ⟨rfl, rfl⟩) (.inr ⟨_, rfl, (congrArg some h1), rfl⟩) (by omega) (by omega)) ⟨Below.refl _ _, rfl, nofr rfl⟩
      refine ⟨fun wu3 hC hd => ?_, ?_⟩
      · clear hd
        replace hb := hb.trans (hC.mono hb.size)
        exact Runs.does (r_move rfl) ⟨Below.refl _ _, rfl, nofr rfl⟩
      refine ⟨fun wu4 hC hd => ?_, ?_⟩
      · clear hd
        replace hb := hb.trans (hC.mono hb.size)
        exact Runs.does (r_move rfl) ⟨Below.refl _ _, rfl, nofr rfl⟩
      refine ⟨fun wu5 hC hd => ?_, ?_⟩
      · clear hd
        replace hb := hb.trans (hC.mono hb.size)
        exact Runs.does (r_move rfl) ⟨Below.refl _ _, rfl, nofr rfl⟩
      refine ⟨fun wu6 hC hd => ?_, ?_⟩
      · obtain ⟨h5, _⟩ := hd
        skip
        replace h5 : V 5 = (.string sp) := h5
        replace hb := hb.trans (hC.mono hb.size)
        exact Runs.does (r_lens (congrArg some h5) Try.underlying9) ⟨Below.refl _ _, rfl, nofr rfl⟩
      refine ⟨fun wu7 hC hd => ?_, ?_⟩
      · obtain ⟨h4, h6, _⟩ := hd
        skip
        skip
        replace h4 : V 4 = (.int .i64 ((p : Nat) : Int)) := h4
        replace h6 : V 6 = (.int .i64 ((sp.size : Nat) : Int)) := h6
        replace hb := hb.trans (hC.mono hb.size)
        exact Runs.does (r_add (C := (((p : Nat) : Int) + ((sp.size : Nat) : Int))) (congrArg some h4) (congrArg some h6) (by rw [IntKind.wrap_i64]; omega)) ⟨Below.refl _ _, rfl, nofr rfl⟩
      refine ⟨fun wu8 hC hd => ?_, ?_⟩
      · obtain ⟨h3, h7, _⟩ := hd
        skip
        skip
        replace h3 : V 3 = (.string s) := h3
        replace h7 : V 7 = (.int .i64 (((p : Nat) : Int) + ((sp.size : Nat) : Int))) := h7
        replace hb := hb.trans (hC.mono hb.size)
        exact Runs.does (r_sslice (a := (p + sp.size)) (b := s.size) (k1 := .i64) (k2 := .i64) (A := (((p : Nat) : Int) + ((sp.size : Nat) : Int))) (B := 0) (congrArg some h3) Try.underlying9 (.inr ⟨_, rfl, (congrArg some h7), rfl⟩) (.inl ⟨rfl, rfl⟩) (by omega) (by omega)) ⟨Below.refl _ _, rfl, nofr rfl⟩
      refine ⟨fun wu9 hC hd => ?_, ?_⟩
      · obtain ⟨h0, h1, h2, _⟩ := hd
        skip
        skip
        skip
        replace h0 : V 0 = (.string s) := h0
        replace h1 : V 1 = (.int .i64 ((p : Nat) : Int)) := h1
        replace h2 : V 2 = (.string (s.extract 0 p)) := h2
        replace hb := hb.trans (hC.mono hb.size)
        exact Runs.does (r_assign (congrArg some h2)) ⟨Below.refl _ _, rfl, nofr rfl⟩
      refine ⟨fun wu10 hC hd => ?_, ?_⟩
      · obtain ⟨h0, h1, h2, h3, h4, h5, h6, h7, h8, h9, _⟩ := hd
        skip
        skip
        skip
        skip
        skip
        skip
        skip
        skip
        skip
        skip
        replace h0 : V 0 = (.string s) := h0
        replace h1 : V 1 = (.int .i64 ((p : Nat) : Int)) := h1
        replace h2 : V 2 = (.string (s.extract 0 p)) := h2
        replace h3 : V 3 = (.string s) := h3
        replace h4 : V 4 = (.int .i64 ((p : Nat) : Int)) := h4
        replace h5 : V 5 = (.string sp) := h5
        replace h6 : V 6 = (.int .i64 ((sp.size : Nat) : Int)) := h6
        replace h7 : V 7 = (.int .i64 (((p : Nat) : Int) + ((sp.size : Nat) : Int))) := h7
        replace h8 : V 8 = (.string (s.extract (p + sp.size) s.size)) := h8
        replace h9 : V 9 = (.string (s.extract 0 p)) := h9
        replace hb := hb.trans (hC.mono hb.size)
        exact Runs.does (r_assign (congrArg some h8)) ⟨Below.refl _ _, rfl, nofr rfl⟩
      refine ⟨fun wu11 hC hd => ?_, ?_⟩
      · obtain ⟨h0, h1, h2, h3, h4, h5, h6, h7, h8, h9, h10, _⟩ := hd
        skip
        skip
        skip
        skip
        skip
        skip
        skip
        skip
        skip
        skip
        skip
        replace h0 : V 0 = (.string s) := h0
        replace h1 : V 1 = (.int .i64 ((p : Nat) : Int)) := h1
        replace h2 : V 2 = (.string (s.extract 0 p)) := h2
        replace h3 : V 3 = (.string s) := h3
        replace h4 : V 4 = (.int .i64 ((p : Nat) : Int)) := h4
        replace h5 : V 5 = (.string sp) := h5
        replace h6 : V 6 = (.int .i64 ((sp.size : Nat) : Int)) := h6
        replace h7 : V 7 = (.int .i64 (((p : Nat) : Int) + ((sp.size : Nat) : Int))) := h7
        replace h8 : V 8 = (.string (s.extract (p + sp.size) s.size)) := h8
        replace h9 : V 9 = (.string (s.extract 0 p)) := h9
        replace h10 : V 10 = (.string (s.extract (p + sp.size) s.size)) := h10
        replace hb := hb.trans (hC.mono hb.size)
        exact Runs.does (r_assign rfl) ⟨Below.refl _ _, rfl, nofr rfl⟩
      trivial
    · skip
      clear hf fa; intro V w1 fa he1 hp hnb hf
      have hv0 : V 0 = (.string s) := postsHold_at hp 0 rfl
      have hv1 : V 1 = (.int .i64 ((p : Nat) : Int)) := postsHold_at hp 1 rfl
      have hv2 : V 2 = (.string (s.extract 0 p)) := postsHold_at hp 2 rfl
      have hv3 : V 3 = (.string s) := postsHold_at hp 3 rfl
      have hv4 : V 4 = (.int .i64 ((p : Nat) : Int)) := postsHold_at hp 4 rfl
      have hv5 : V 5 = (.string sp) := postsHold_at hp 5 rfl
      have hv6 : V 6 = (.int .i64 ((sp.size : Nat) : Int)) := postsHold_at hp 6 rfl
      have hv7 : V 7 = (.int .i64 (((p : Nat) : Int) + ((sp.size : Nat) : Int))) := postsHold_at hp 7 rfl
      have hv8 : V 8 = (.string (s.extract (p + sp.size) s.size)) := postsHold_at hp 8 rfl
      have hv9 : V 9 = (.string (s.extract 0 p)) := postsHold_at hp 9 rfl
      have hv10 : V 10 = (.string (s.extract (p + sp.size) s.size)) := postsHold_at hp 10 rfl
      have hv11 : V 11 = (.bool true) := postsHold_at hp 11 rfl
      simp only [List.take_succ_cons, List.take_zero, insAll, ins, hv0, hv1, hv2, hv3, hv4, hv5, hv6, hv7, hv8, hv9, hv10, hv11] at hf
      clear hp hnb hv0 hv1 hv2 hv3 hv4 hv5 hv6 hv7 hv8 hv9 hv10 hv11
      replace hb := hb.trans (Below.mono he1 hb.size)
      (try simp only [Exit.then, Exit.inBlock, ↓reduceIte, Nat.reduceEqDiff])
      refine hK5 _ _ ?_
      refine wp_ret ?_
      (try simp only [Exit.then, Exit.inBlock])
      refine ret3 hf rfl rfl rfl rfl ?_
      refine ⟨?_, hb⟩; rw [decide_eq_true (by rw [hp]; exact hsp1)]; unfold cA cZ; rw [hp, hz]
  · have hsp1b : decide (p < s.size) = false := decide_eq_false hsp1
    refine wp_region_lit ?_
    refine sqv hf (r_move rfl) rfl rfl rfl ?_; clear hf fa; intro fa hf
    refine sqv hf (r_move rfl) rfl rfl rfl ?_; clear hf fa; intro fa hf
    refine sqdt hf (d_callS (vs := [(.string s), (.string sp)]) rfl Try.func100 (by kernel_rfl) (by kernel_rfl) (by have h := slindex_any s c w; rw [← hsp, hp, if_neg hsp1] at h; exact h)) rfl rfl rfl ?_; clear hf fa; rintro fa _ _ ⟨rfl, rfl⟩ hf
    refine sqv hf (r_assign rfl) rfl rfl rfl ?_; clear hf fa; intro fa hf
    apply wpList_nil
    (try simp only [Exit.then, Exit.inBlock, ↓reduceIte, Nat.reduceEqDiff])
    refine hK3 _ _ ?_
    refine wp_seq_k (fun K6 hK6 => ?_)
    refine wp_region_lit ?_
    refine sqv hf (r_move rfl) rfl rfl rfl ?_; clear hf fa; intro fa hf
    refine sqv hf (r_ge rfl rfl) rfl rfl rfl ?_; clear hf fa; intro fa hf
    apply wpList_nil
    (try simp only [Exit.then, Exit.inBlock, ↓reduceIte, Nat.reduceEqDiff])
    refine hK6 _ _ ?_
    refine wp_cond_false ((hf.ev rfl).trans (congrArg Value.bool (show (decide ((0 : Int) ≤ (-1 : Int))) = false from (by decide)))) ?_
    refine wp_skip ?_
    (try simp only [Exit.then, Exit.inBlock, ↓reduceIte, Nat.reduceEqDiff])
    refine hK2 _ _ ?_
    refine wp_seq_k (fun K7 hK7 => ?_)
    refine wp_region_lit ?_
    refine sqv hf (r_move rfl) rfl rfl rfl ?_; clear hf fa; intro fa hf
    refine sqv hf (r_assign rfl) rfl rfl rfl ?_; clear hf fa; intro fa hf
    refine sqv hf (r_assign rfl) rfl rfl rfl ?_; clear hf fa; intro fa hf
    refine sqv hf (r_assign rfl) rfl rfl rfl ?_; clear hf fa; intro fa hf
    apply wpList_nil
    (try simp only [Exit.then, Exit.inBlock, ↓reduceIte, Nat.reduceEqDiff])
    refine hK7 _ _ ?_
    refine wp_ret ?_
    (try simp only [Exit.then, Exit.inBlock])
    refine ret3 hf rfl rfl rfl rfl ?_
    refine ⟨?_, hb⟩; rw [decide_eq_false (by rw [hp]; exact hsp1), cA_all (by rw [hp]; exact hsp1), cZ_none (by rw [hp]; exact hsp1)]

set_option maxHeartbeats 1000000 in
set_option maxRecDepth 100000 in
theorem cutg_any (s sp : ByteArray) (c : UInt8) (w : World) (hsp : sp = ⟨#[c]⟩) (hs : s.size ≤ 100000) : Calls Try.prog 58 #[(.string s), (.string sp)] w fun e w' => e = .returned (.tuple #[.string (cA s c.toNat), .string (cZ s c.toNat), .bool (decide (posB s c.toNat < s.size))]) ∧ Below w.heap.size w w' := by
  refine sx_enter (L := [(0, (.string s)), (1, (.string sp))]) Try.func58 rfl rfl rfl rfl (fun fa hf => ?_)
  have hb : Below w.heap.size w w := Below.refl _ _
  refine wp_seq_k (fun K1 hK1 => ?_)
  refine wp_region_lit ?_
  refine sqv hf (r_assign rfl) rfl rfl rfl ?_; clear hf fa; intro fa hf
  refine sqv hf (r_assign rfl) rfl rfl rfl ?_; clear hf fa; intro fa hf
  refine sqv hf (r_assign rfl) rfl rfl rfl ?_; clear hf fa; intro fa hf
  apply wpList_nil
  (try simp only [Exit.then, Exit.inBlock, ↓reduceIte, Nat.reduceEqDiff])
  refine hK1 _ _ ?_
  refine wp_seq_k (fun K2 hK2 => ?_)
  refine wp_region_lit ?_
  refine sqv hf (r_move rfl) rfl rfl rfl ?_; clear hf fa; intro fa hf
  refine sqv hf (r_move rfl) rfl rfl rfl ?_; clear hf fa; intro fa hf
  refine sqdt hf (d_callB (vs := [(.string s), (.string sp)]) rfl Try.func86 (by kernel_rfl) (by kernel_rfl) (slcut_any s sp c _ hsp hs)) rfl rfl rfl ?_; clear hf fa; rintro fa _ w1 ⟨rfl, he1⟩ hf
  replace hb := hb.trans (Below.mono he1 hb.size)
  refine sqv hf (r_extract rfl (i := 0) rfl) rfl rfl rfl ?_; clear hf fa; intro fa hf
  refine sqv hf (r_extract rfl (i := 1) rfl) rfl rfl rfl ?_; clear hf fa; intro fa hf
  refine sqv hf (r_extract rfl (i := 2) rfl) rfl rfl rfl ?_; clear hf fa; intro fa hf
  refine sqv hf (r_assign rfl) rfl rfl rfl ?_; clear hf fa; intro fa hf
  refine sqv hf (r_assign rfl) rfl rfl rfl ?_; clear hf fa; intro fa hf
  refine sqv hf (r_assign rfl) rfl rfl rfl ?_; clear hf fa; intro fa hf
  apply wpList_nil
  (try simp only [Exit.then, Exit.inBlock, ↓reduceIte, Nat.reduceEqDiff])
  refine hK2 _ _ ?_
  refine wp_ret ?_
  (try simp only [Exit.then, Exit.inBlock])
  refine ret3 hf rfl rfl rfl rfl ?_
  exact ⟨rfl, hb⟩

def s64 (n : Int) : Int := if n < 9223372036854775808 then n else n - 18446744073709551616
def s32 (n : Int) : Int := if n % 4294967296 < 2147483648 then n % 4294967296 else n % 4294967296 - 4294967296
theorem s32_rng (n : Int) : -2147483648 ≤ s32 n ∧ s32 n ≤ 2147483647 := by unfold s32; split <;> omega
theorem s64_rng {n : Int} (h : 0 ≤ n ∧ n < 18446744073709551616) : inI (s64 n) := by unfold inI s64; split <;> omega
def numV (v : MVal) : Int := if v.1 = 127 then s32 v.2.1 else s64 v.2.1
def valS (v : MVal) : ByteArray := (tnameP v.1 ++ (⟨#[58]⟩ : ByteArray)) ++ dS (numV v)
theorem numV_rng {v : MVal} (h : 0 ≤ v.2.1 ∧ v.2.1 < 18446744073709551616) : inI (numV v) := by
  unfold numV
  split
  · have := s32_rng v.2.1; unfold inI; omega
  · exact s64_rng h
theorem valS_len {v : MVal} (h : 0 ≤ v.2.1 ∧ v.2.1 < 18446744073709551616) : (valS v).size ≤ 28 := by
  have h1 := tname_le v.1
  have h2 := dS_len (numV_rng h)
  unfold valS
  rw [sz_app, sz_app, show (⟨#[58]⟩ : ByteArray).size = 1 from rfl]; omega

set_option maxHeartbeats 1000000 in
set_option maxRecDepth 100000 in
theorem opvalue_any (v : MVal) (w : World) (hv1 : 0 ≤ v.1 ∧ v.1 < 256) (hv2 : 0 ≤ v.2.1 ∧ v.2.1 < 18446744073709551616) : Calls Try.prog 34 #[(.agg #[(.int .u8 v.1), (.int .u64 v.2.1)])] w fun e w' => e = .returned (.string (valS v)) ∧ Below w.heap.size w w' := by
  have hr64 := s64_rng hv2
  have hr32 : inI (s32 v.2.1) := by have := s32_rng v.2.1; unfold inI; omega
  have htn := tname_le v.1
  refine sx_enter (L := [(0, (.agg #[(.int .u8 v.1), (.int .u64 v.2.1)]))]) Try.func34 rfl rfl rfl rfl (fun fa hf => ?_)
  have hb : Below w.heap.size w w := Below.refl _ _
  refine wp_seq_k (fun K1 hK1 => ?_)
  refine wp_region_lit ?_
  refine sqdt hf (d_box (cs := #[(.int .u8 v.1), (.int .u64 v.2.1)]) rfl rfl) rfl rfl rfl ?_; clear hf fa; rintro fa _ w1 ⟨b1, rfl, hle1, hk1, he1⟩ hf
  have hBb1 : w.heap.size ≤ b1 := Nat.le_trans hb.size hle1
  replace hb := hb.trans (Below.mono he1 hb.size)
  refine sqv hf (r_assign rfl) rfl rfl rfl ?_; clear hf fa; intro fa hf
  apply wpList_nil
  (try simp only [Exit.then, Exit.inBlock, ↓reduceIte, Nat.reduceEqDiff])
  refine hK1 _ _ ?_
  refine wp_seq_k (fun K2 hK2 => ?_)
  refine wp_region_lit ?_
  refine sqv hf (r_fa rfl Try.underlying65 (f := 1) (q := 1) rfl (by kernel_rfl) rfl) rfl rfl rfl ?_; clear hf fa; intro fa hf
  refine sqv hf (r_load (v := (.int .u64 v.2.1)) rfl Try.underlying63 rfl (cell_blk hk1 rfl)) rfl rfl rfl ?_; clear hf fa; intro fa hf
  refine sqv hf (r_conv (C := ((s64 v.2.1))) rfl Try.underlying63 Try.underlying3 (by unfold s64; rw [IntKind.wrap_i64]; split <;> omega)) rfl rfl rfl ?_; clear hf fa; intro fa hf
  refine sqv hf (r_assign rfl) rfl rfl rfl ?_; clear hf fa; intro fa hf
  apply wpList_nil
  (try simp only [Exit.then, Exit.inBlock, ↓reduceIte, Nat.reduceEqDiff])
  refine hK2 _ _ ?_
  refine wp_seq_k (fun K3 hK3 => ?_)
  refine wp_seq_k (fun K4 hK4 => ?_)
  refine wp_region_lit ?_
  refine sqv hf (r_fa rfl Try.underlying65 (f := 0) (q := 0) rfl (by kernel_rfl) rfl) rfl rfl rfl ?_; clear hf fa; intro fa hf
  refine sqv hf (r_load (v := (.int .u8 v.1)) rfl Try.underlying5 rfl (cell_blk hk1 rfl)) rfl rfl rfl ?_; clear hf fa; intro fa hf
  refine sqv hf (r_eq rfl rfl) rfl rfl rfl ?_; clear hf fa; intro fa hf
  apply wpList_nil
  (try simp only [Exit.then, Exit.inBlock, ↓reduceIte, Nat.reduceEqDiff])
  refine hK4 _ _ ?_
  refine wp_cond_split (t := (decide (v.1 = (127 : Int)))) (hf.ev rfl) (fun hqt9_1 => ?_) (fun hqt9_1 => ?_)
  · have hqt9_1b := hqt9_1
    try simp only [decide_eq_true_eq, Bool.and_eq_true, Bool.or_eq_true, Bool.not_eq_true', decide_eq_false_iff_not, ne_eq, Bool.not_eq_true] at hqt9_1
    refine wp_region_lit ?_
    refine sqv hf (r_fa rfl Try.underlying65 (f := 1) (q := 1) rfl (by kernel_rfl) rfl) rfl rfl rfl ?_; clear hf fa; intro fa hf
    refine sqv hf (r_load (v := (.int .u64 v.2.1)) rfl Try.underlying63 rfl (cell_blk hk1 rfl)) rfl rfl rfl ?_; clear hf fa; intro fa hf
    refine sqv hf (r_conv (C := ((v.2.1 % 4294967296))) rfl Try.underlying63 Try.underlying31 (by rw [IntKind.wrap_u32])) rfl rfl rfl ?_; clear hf fa; intro fa hf
    refine sqv hf (r_conv (C := ((s32 v.2.1))) rfl Try.underlying31 Try.underlying21 (by unfold s32; rw [IntKind.wrap_i32]; split <;> omega)) rfl rfl rfl ?_; clear hf fa; intro fa hf
    refine sqv hf (r_conv (C := ((s32 v.2.1))) rfl Try.underlying21 Try.underlying3 (by have := s32_rng v.2.1; rw [IntKind.wrap_i64]; omega)) rfl rfl rfl ?_; clear hf fa; intro fa hf
    refine sqv hf (r_assign rfl) rfl rfl rfl ?_; clear hf fa; intro fa hf
    apply wpList_nil
    (try simp only [Exit.then, Exit.inBlock, ↓reduceIte, Nat.reduceEqDiff])
    refine hK3 _ _ ?_
    refine wp_seq_k (fun K5 hK5 => ?_)
    refine wp_region_lit ?_
    refine sqv hf (r_fa rfl Try.underlying65 (f := 0) (q := 0) rfl (by kernel_rfl) rfl) rfl rfl rfl ?_; clear hf fa; intro fa hf
    refine sqv hf (r_load (v := (.int .u8 v.1)) rfl Try.underlying5 rfl (cell_blk hk1 rfl)) rfl rfl rfl ?_; clear hf fa; intro fa hf
    refine sqdt hf (d_callS (vs := [(.int .u8 v.1)]) rfl Try.func70 (by kernel_rfl) (by kernel_rfl) (tname_any v.1 _)) rfl rfl rfl ?_; clear hf fa; rintro fa _ _ ⟨rfl, rfl⟩ hf
    refine sqv hf (r_sadd rfl rfl (by have : ((⟨#[58]⟩) : ByteArray).size = 1 := rfl; omega)) rfl rfl rfl ?_; clear hf fa; intro fa hf
    refine sqv hf (r_move rfl) rfl rfl rfl ?_; clear hf fa; intro fa hf
    refine sqdt hf (d_callB (vs := [(.int .i64 ((s32 v.2.1)))]) rfl Try.func31 (by kernel_rfl) (by kernel_rfl) (digits_any (s32 v.2.1) _ hr32)) rfl rfl rfl ?_; clear hf fa; rintro fa _ w2 ⟨rfl, he2⟩ hf
    replace hk1 := blk_ext hk1 he2
    replace hb := hb.trans (Below.mono he2 hb.size)
    refine sqv hf (r_sadd rfl rfl (by have : ((⟨#[58]⟩) : ByteArray).size = 1 := rfl; have := sz_app (tnameP v.1) ⟨#[58]⟩; have := dS_len hr32; omega)) rfl rfl rfl ?_; clear hf fa; intro fa hf
    refine sqv hf (r_assign rfl) rfl rfl rfl ?_; clear hf fa; intro fa hf
    apply wpList_nil
    (try simp only [Exit.then, Exit.inBlock, ↓reduceIte, Nat.reduceEqDiff])
    refine hK5 _ _ ?_
    refine wp_ret ?_
    (try simp only [Exit.then, Exit.inBlock])
    refine ret1 hf rfl rfl ?_
    refine ⟨?_, hb⟩; unfold valS numV; rw [if_pos hqt9_1]
  · have hqt9_1b := hqt9_1
    replace hqt9_1 := Bool.eq_false_iff.1 hqt9_1
    try simp only [ne_eq, decide_eq_true_eq, Bool.and_eq_true, Bool.or_eq_true, Bool.not_eq_true', decide_eq_false_iff_not] at hqt9_1
    refine wp_skip ?_
    (try simp only [Exit.then, Exit.inBlock, ↓reduceIte, Nat.reduceEqDiff])
    refine hK3 _ _ ?_
    refine wp_seq_k (fun K6 hK6 => ?_)
    refine wp_region_lit ?_
    refine sqv hf (r_fa rfl Try.underlying65 (f := 0) (q := 0) rfl (by kernel_rfl) rfl) rfl rfl rfl ?_; clear hf fa; intro fa hf
    refine sqv hf (r_load (v := (.int .u8 v.1)) rfl Try.underlying5 rfl (cell_blk hk1 rfl)) rfl rfl rfl ?_; clear hf fa; intro fa hf
    refine sqdt hf (d_callS (vs := [(.int .u8 v.1)]) rfl Try.func70 (by kernel_rfl) (by kernel_rfl) (tname_any v.1 _)) rfl rfl rfl ?_; clear hf fa; rintro fa _ _ ⟨rfl, rfl⟩ hf
    refine sqv hf (r_sadd rfl rfl (by have : ((⟨#[58]⟩) : ByteArray).size = 1 := rfl; omega)) rfl rfl rfl ?_; clear hf fa; intro fa hf
    refine sqv hf (r_move rfl) rfl rfl rfl ?_; clear hf fa; intro fa hf
    refine sqdt hf (d_callB (vs := [(.int .i64 ((s64 v.2.1)))]) rfl Try.func31 (by kernel_rfl) (by kernel_rfl) (digits_any (s64 v.2.1) _ hr64)) rfl rfl rfl ?_; clear hf fa; rintro fa _ w3 ⟨rfl, he3⟩ hf
    replace hk1 := blk_ext hk1 he3
    replace hb := hb.trans (Below.mono he3 hb.size)
    refine sqv hf (r_sadd rfl rfl (by have : ((⟨#[58]⟩) : ByteArray).size = 1 := rfl; have := sz_app (tnameP v.1) ⟨#[58]⟩; have := dS_len hr64; omega)) rfl rfl rfl ?_; clear hf fa; intro fa hf
    refine sqv hf (r_assign rfl) rfl rfl rfl ?_; clear hf fa; intro fa hf
    apply wpList_nil
    (try simp only [Exit.then, Exit.inBlock, ↓reduceIte, Nat.reduceEqDiff])
    refine hK6 _ _ ?_
    refine wp_ret ?_
    (try simp only [Exit.then, Exit.inBlock])
    refine ret1 hf rfl rfl ?_
    refine ⟨?_, hb⟩; unfold valS numV; rw [if_neg hqt9_1]

set_option maxHeartbeats 1000000 in
set_option maxRecDepth 100000 in
theorem oprvalue_any (v : MVal) (w : World) (hv1 : 0 ≤ v.1 ∧ v.1 < 256) (hv2 : 0 ≤ v.2.1 ∧ v.2.1 < 18446744073709551616) : Calls Try.prog 35 #[(.agg #[(.int .u8 v.1), (.int .u64 v.2.1)])] w fun e w' => e = .returned (.string (valS v)) ∧ Below w.heap.size w w' := by
  have hr64 := s64_rng hv2
  have hr32 : inI (s32 v.2.1) := by have := s32_rng v.2.1; unfold inI; omega
  have htn := tname_le v.1
  refine sx_enter (L := [(0, (.agg #[(.int .u8 v.1), (.int .u64 v.2.1)]))]) Try.func35 rfl rfl rfl rfl (fun fa hf => ?_)
  have hb : Below w.heap.size w w := Below.refl _ _
  refine wp_seq_k (fun K1 hK1 => ?_)
  refine wp_region_lit ?_
  refine sqdt hf (d_box (cs := #[(.int .u8 v.1), (.int .u64 v.2.1)]) rfl rfl) rfl rfl rfl ?_; clear hf fa; rintro fa _ w1 ⟨b1, rfl, hle1, hk1, he1⟩ hf
  have hBb1 : w.heap.size ≤ b1 := Nat.le_trans hb.size hle1
  replace hb := hb.trans (Below.mono he1 hb.size)
  refine sqv hf (r_assign rfl) rfl rfl rfl ?_; clear hf fa; intro fa hf
  apply wpList_nil
  (try simp only [Exit.then, Exit.inBlock, ↓reduceIte, Nat.reduceEqDiff])
  refine hK1 _ _ ?_
  refine wp_seq_k (fun K2 hK2 => ?_)
  refine wp_region_lit ?_
  refine sqv hf (r_fa rfl Try.underlying65 (f := 1) (q := 1) rfl (by kernel_rfl) rfl) rfl rfl rfl ?_; clear hf fa; intro fa hf
  refine sqv hf (r_load (v := (.int .u64 v.2.1)) rfl Try.underlying63 rfl (cell_blk hk1 rfl)) rfl rfl rfl ?_; clear hf fa; intro fa hf
  refine sqv hf (r_conv (C := ((s64 v.2.1))) rfl Try.underlying63 Try.underlying3 (by unfold s64; rw [IntKind.wrap_i64]; split <;> omega)) rfl rfl rfl ?_; clear hf fa; intro fa hf
  refine sqv hf (r_assign rfl) rfl rfl rfl ?_; clear hf fa; intro fa hf
  apply wpList_nil
  (try simp only [Exit.then, Exit.inBlock, ↓reduceIte, Nat.reduceEqDiff])
  refine hK2 _ _ ?_
  refine wp_seq_k (fun K3 hK3 => ?_)
  refine wp_seq_k (fun K4 hK4 => ?_)
  refine wp_region_lit ?_
  refine sqv hf (r_fa rfl Try.underlying65 (f := 0) (q := 0) rfl (by kernel_rfl) rfl) rfl rfl rfl ?_; clear hf fa; intro fa hf
  refine sqv hf (r_load (v := (.int .u8 v.1)) rfl Try.underlying5 rfl (cell_blk hk1 rfl)) rfl rfl rfl ?_; clear hf fa; intro fa hf
  refine sqv hf (r_eq rfl rfl) rfl rfl rfl ?_; clear hf fa; intro fa hf
  apply wpList_nil
  (try simp only [Exit.then, Exit.inBlock, ↓reduceIte, Nat.reduceEqDiff])
  refine hK4 _ _ ?_
  refine wp_cond_split (t := (decide (v.1 = (127 : Int)))) (hf.ev rfl) (fun hqt9_1 => ?_) (fun hqt9_1 => ?_)
  · have hqt9_1b := hqt9_1
    try simp only [decide_eq_true_eq, Bool.and_eq_true, Bool.or_eq_true, Bool.not_eq_true', decide_eq_false_iff_not, ne_eq, Bool.not_eq_true] at hqt9_1
    refine wp_region_lit ?_
    refine sqv hf (r_fa rfl Try.underlying65 (f := 1) (q := 1) rfl (by kernel_rfl) rfl) rfl rfl rfl ?_; clear hf fa; intro fa hf
    refine sqv hf (r_load (v := (.int .u64 v.2.1)) rfl Try.underlying63 rfl (cell_blk hk1 rfl)) rfl rfl rfl ?_; clear hf fa; intro fa hf
    refine sqv hf (r_rem (C := ((v.2.1 % 4294967296))) rfl rfl (by omega) (Int.tmod_eq_emod_of_nonneg (by omega))) rfl rfl rfl ?_; clear hf fa; intro fa hf
    refine sqv hf (r_conv (C := ((v.2.1 % 4294967296))) rfl Try.underlying63 Try.underlying31 (by rw [IntKind.wrap_u32]; omega)) rfl rfl rfl ?_; clear hf fa; intro fa hf
    refine sqv hf (r_conv (C := ((s32 v.2.1))) rfl Try.underlying31 Try.underlying21 (by unfold s32; rw [IntKind.wrap_i32]; split <;> omega)) rfl rfl rfl ?_; clear hf fa; intro fa hf
    refine sqv hf (r_conv (C := ((s32 v.2.1))) rfl Try.underlying21 Try.underlying3 (by have := s32_rng v.2.1; rw [IntKind.wrap_i64]; omega)) rfl rfl rfl ?_; clear hf fa; intro fa hf
    refine sqv hf (r_assign rfl) rfl rfl rfl ?_; clear hf fa; intro fa hf
    apply wpList_nil
    (try simp only [Exit.then, Exit.inBlock, ↓reduceIte, Nat.reduceEqDiff])
    refine hK3 _ _ ?_
    refine wp_seq_k (fun K5 hK5 => ?_)
    refine wp_region_lit ?_
    refine sqv hf (r_fa rfl Try.underlying65 (f := 0) (q := 0) rfl (by kernel_rfl) rfl) rfl rfl rfl ?_; clear hf fa; intro fa hf
    refine sqv hf (r_load (v := (.int .u8 v.1)) rfl Try.underlying5 rfl (cell_blk hk1 rfl)) rfl rfl rfl ?_; clear hf fa; intro fa hf
    refine sqv hf (r_conv (C := v.1) rfl Try.underlying5 Try.underlying3 (by rw [IntKind.wrap_i64]; omega)) rfl rfl rfl ?_; clear hf fa; intro fa hf
    refine sqdt hf (d_callB (vs := [(.int .i64 v.1)]) rfl Try.func71 (by kernel_rfl) (by kernel_rfl) (rname2_any v.1 _ (by omega))) rfl rfl rfl ?_; clear hf fa; rintro fa _ w2 ⟨rfl, he2⟩ hf
    replace hk1 := blk_ext hk1 he2
    replace hb := hb.trans (Below.mono he2 hb.size)
    refine sqv hf (r_sadd rfl rfl (by have : ((⟨#[58]⟩) : ByteArray).size = 1 := rfl; omega)) rfl rfl rfl ?_; clear hf fa; intro fa hf
    refine sqv hf (r_move rfl) rfl rfl rfl ?_; clear hf fa; intro fa hf
    refine sqdt hf (d_callB (vs := [(.int .i64 ((s32 v.2.1)))]) rfl Try.func33 (by kernel_rfl) (by kernel_rfl) (rdigits_any (s32 v.2.1) _ hr32)) rfl rfl rfl ?_; clear hf fa; rintro fa _ w3 ⟨rfl, he3⟩ hf
    replace hk1 := blk_ext hk1 he3
    replace hb := hb.trans (Below.mono he3 hb.size)
    refine sqv hf (r_sadd rfl rfl (by have : ((⟨#[58]⟩) : ByteArray).size = 1 := rfl; have := sz_app (tnameP v.1) ⟨#[58]⟩; have := dS_len hr32; omega)) rfl rfl rfl ?_; clear hf fa; intro fa hf
    refine sqv hf (r_assign rfl) rfl rfl rfl ?_; clear hf fa; intro fa hf
    apply wpList_nil
    (try simp only [Exit.then, Exit.inBlock, ↓reduceIte, Nat.reduceEqDiff])
    refine hK5 _ _ ?_
    refine wp_ret ?_
    (try simp only [Exit.then, Exit.inBlock])
    refine ret1 hf rfl rfl ?_
    refine ⟨?_, hb⟩; unfold valS numV; rw [if_pos hqt9_1]
  · have hqt9_1b := hqt9_1
    replace hqt9_1 := Bool.eq_false_iff.1 hqt9_1
    try simp only [ne_eq, decide_eq_true_eq, Bool.and_eq_true, Bool.or_eq_true, Bool.not_eq_true', decide_eq_false_iff_not] at hqt9_1
    refine wp_skip ?_
    (try simp only [Exit.then, Exit.inBlock, ↓reduceIte, Nat.reduceEqDiff])
    refine hK3 _ _ ?_
    refine wp_seq_k (fun K6 hK6 => ?_)
    refine wp_region_lit ?_
    refine sqv hf (r_fa rfl Try.underlying65 (f := 0) (q := 0) rfl (by kernel_rfl) rfl) rfl rfl rfl ?_; clear hf fa; intro fa hf
    refine sqv hf (r_load (v := (.int .u8 v.1)) rfl Try.underlying5 rfl (cell_blk hk1 rfl)) rfl rfl rfl ?_; clear hf fa; intro fa hf
    refine sqv hf (r_conv (C := v.1) rfl Try.underlying5 Try.underlying3 (by rw [IntKind.wrap_i64]; omega)) rfl rfl rfl ?_; clear hf fa; intro fa hf
    refine sqdt hf (d_callB (vs := [(.int .i64 v.1)]) rfl Try.func71 (by kernel_rfl) (by kernel_rfl) (rname2_any v.1 _ (by omega))) rfl rfl rfl ?_; clear hf fa; rintro fa _ w4 ⟨rfl, he4⟩ hf
    replace hk1 := blk_ext hk1 he4
    replace hb := hb.trans (Below.mono he4 hb.size)
    refine sqv hf (r_sadd rfl rfl (by have : ((⟨#[58]⟩) : ByteArray).size = 1 := rfl; omega)) rfl rfl rfl ?_; clear hf fa; intro fa hf
    refine sqv hf (r_move rfl) rfl rfl rfl ?_; clear hf fa; intro fa hf
    refine sqdt hf (d_callB (vs := [(.int .i64 ((s64 v.2.1)))]) rfl Try.func33 (by kernel_rfl) (by kernel_rfl) (rdigits_any (s64 v.2.1) _ hr64)) rfl rfl rfl ?_; clear hf fa; rintro fa _ w5 ⟨rfl, he5⟩ hf
    replace hk1 := blk_ext hk1 he5
    replace hb := hb.trans (Below.mono he5 hb.size)
    refine sqv hf (r_sadd rfl rfl (by have : ((⟨#[58]⟩) : ByteArray).size = 1 := rfl; have := sz_app (tnameP v.1) ⟨#[58]⟩; have := dS_len hr64; omega)) rfl rfl rfl ?_; clear hf fa; intro fa hf
    refine sqv hf (r_assign rfl) rfl rfl rfl ?_; clear hf fa; intro fa hf
    apply wpList_nil
    (try simp only [Exit.then, Exit.inBlock, ↓reduceIte, Nat.reduceEqDiff])
    refine hK6 _ _ ?_
    refine wp_ret ?_
    (try simp only [Exit.then, Exit.inBlock])
    refine ret1 hf rfl rfl ?_
    refine ⟨?_, hb⟩; unfold valS numV; rw [if_neg hqt9_1]
end Go.Proofs.Ytpalmpfkliepfaa

namespace Go.Proofs.Ytpalmpfkliepfaa
open Go.RowKit Ut
set_option linter.unusedVariables false
set_option linter.unusedSimpArgs false
/-- A value that may be. -/
def RightV (v : MVal) : Prop := vrightP v = true ∧ (0 ≤ v.1 ∧ v.1 < 256) ∧ (0 ≤ v.2.1 ∧ v.2.1 < 18446744073709551616)
theorem tval0 {b : Int} (h : tvalP b = 0) : b = 127 ∨ b = 126 := by
  unfold tvalP at h
  by_cases h1 : b = 127
  · exact .inl h1
  · by_cases h2 : b = 126
    · exact .inr h2
    · exfalso
      rw [decide_eq_false h1, decide_eq_false h2] at h
      simp only [cond_false] at h
      cases h3 : decide (b = 125) <;> cases h4 : decide (b = 124) <;> rw [h3, h4] at h <;> simp at h
theorem vright_iff (v : MVal) : vrightP v = true ↔ (v.1 = 127 ∧ v.2.1 % 4294967296 = v.2.1) ∨ v.1 = 126 := by
  rw [vright_def]
  constructor
  · intro h
    simp only [Bool.and_eq_true, decide_eq_true_eq] at h
    rcases tval0 h.1 with h1 | h1
    · left
      refine ⟨h1, ?_⟩
      have := h.2.2
      unfold tcutP at this
      rw [decide_eq_true h1] at this
      exact this
    · exact .inr h1
  · rintro (⟨h1, h2⟩ | h1)
    · unfold tcutP
      rw [decide_eq_true h1]
      simp only [cond_true]
      rw [h1, h2]; simp [tvalP]
    · unfold tcutP
      rw [decide_eq_false (show ¬ v.1 = 127 by omega)]
      simp only [cond_false]
      rw [h1]; simp [tvalP]
theorem tcut_back {v : MVal} (h : RightV v) : tcutP (v.1, numV v % 18446744073709551616, ()) = v := by
  obtain ⟨h1, h2, h3⟩ := h
  rw [vright_iff] at h1
  obtain ⟨a, n, u⟩ := v
  simp only at h1 h2 h3
  unfold tcutP numV s32 s64
  rcases h1 with ⟨h1, h4⟩ | h1
  · rw [if_pos h1]
    simp only [decide_eq_true h1, cond_true]
    congr 2
    split <;> omega
  · subst h1
    rw [if_neg (show ¬ (126 : Int) = 127 by decide)]
    simp only [show decide ((126 : Int) = 127) = false from rfl, cond_false]
    congr 2
    split <;> omega
def rdY (s : ByteArray) : MVal := tcutP (byteP (cA s 58), (numP (bl (cZ s 58))).1 % 18446744073709551616, ())
def rdB (s : ByteArray) : Bool := (((!(decide (posB s 58 < s.size))) || (!(numP (bl (cZ s 58))).2)) || (!(vrightP (rdY s)))) || decide (valS (rdY s) ≠ s)
def rdV (s : ByteArray) : MVal × Bool := bif rdB s then (zMVal, false) else (rdY s, true)
theorem tcut_rng {v : MVal} (h : 0 ≤ v.1 ∧ v.1 < 256) (h2 : 0 ≤ v.2.1 ∧ v.2.1 < 18446744073709551616) : (0 ≤ (tcutP v).1 ∧ (tcutP v).1 < 256) ∧ (0 ≤ (tcutP v).2.1 ∧ (tcutP v).2.1 < 18446744073709551616) := by
  unfold tcutP
  cases decide (v.1 = 127) with
  | true => simp only [cond_true]; exact ⟨h, by omega⟩
  | false => exact ⟨h, h2⟩
theorem rdY_rng (s : ByteArray) : (0 ≤ (rdY s).1 ∧ (rdY s).1 < 256) ∧ (0 ≤ (rdY s).2.1 ∧ (rdY s).2.1 < 18446744073709551616) := tcut_rng (byte_rng _) (by simp only; omega)
def headV (b : Int) : List Nat := if b = 127 then [105, 51, 50] else [105, 54, 52]
theorem tname_bl {b : Int} (h : b = 127 ∨ b = 126) : bl (tnameP b) = headV b := by rcases h with rfl | rfl <;> rfl
theorem valS_bl {v : MVal} (h : v.1 = 127 ∨ v.1 = 126) : bl (valS v) = headV v.1 ++ 58 :: digB (numV v) := by
  unfold valS
  rw [bl_app, bl_app, tname_bl h, bl_dS, List.append_assoc]; rfl
theorem right_T {v : MVal} (h : RightV v) : v.1 = 127 ∨ v.1 = 126 := by
  rcases (vright_iff v).1 h.1 with h | h
  · exact .inl h.1
  · exact .inr h
theorem val_pos {v : MVal} (h : RightV v) : posB (valS v) 58 = 3 := by
  unfold posB
  rw [valS_bl (right_T h)]
  unfold headV
  split <;> simp [List.idxOf_cons]
theorem val_size (v : MVal) (h : RightV v) : (valS v).size = 4 + (digB (numV v)).length := by
  rw [← bl_length, valS_bl (right_T h)]
  unfold headV
  split <;> simp <;> omega
theorem digB_pos (n : Int) : 0 < (digB n).length := by
  unfold digB
  have := List.length_pos_iff.2 (natB_ne n.natAbs)
  split
  · simp
  · exact this
theorem val_ext0 {v : MVal} (h : RightV v) : (valS v).extract 0 3 = tnameP v.1 := by
  apply bl_inj
  rw [bl_mid, valS_bl (right_T h), tname_bl (right_T h)]
  unfold headV
  split <;> simp
theorem val_ext4 {v : MVal} (h : RightV v) : bl ((valS v).extract 4 (valS v).size) = digB (numV v) := by
  rw [bl_mid, valS_bl (right_T h), val_size v h]
  unfold headV
  split <;> simp
theorem byte_name {b : Int} (h : b = 127 ∨ b = 126) : byteP (tnameP b) = b := by rcases h with rfl | rfl <;> decide
theorem rdV_val {v : MVal} (h : RightV v) : rdV (valS v) = (v, true) := by
  have hp := val_pos h
  have hs := val_size v h
  have hd := digB_pos (numV v)
  have hn := numP_dig (numV_rng h.2.2)
  have hA : cA (valS v) 58 = tnameP v.1 := by unfold cA; rw [hp]; exact val_ext0 h
  have hZ : bl (cZ (valS v) 58) = digB (numV v) := by unfold cZ; rw [hp]; exact val_ext4 h
  have hY : rdY (valS v) = v := by
    unfold rdY
    rw [hA, hZ, hn, byte_name (right_T h)]
    exact tcut_back h
  have hB : rdB (valS v) = false := by
    unfold rdB
    rw [hY, hZ, hn, hp, h.1]
    simp; omega
  unfold rdV
  rw [hB, hY]; rfl
set_option maxHeartbeats 1000000 in
set_option maxRecDepth 100000 in
theorem readvalue_any (s : ByteArray) (w : World) (hs : s.size ≤ 100000) : Calls Try.prog 27 #[(.string s)] w fun e w' => e = .returned (.tuple #[(.agg #[(.int .u8 ((rdV s).1.1)), (.int .u64 ((rdV s).1.2.1))]), .bool (rdV s).2]) ∧ Below w.heap.size w w' := by
  obtain ⟨y, hy⟩ : ∃ y, rdY s = y := ⟨_, rfl⟩
  have hyr := rdY_rng s; rw [hy] at hyr
  refine sx_enter (L := [(0, (.string s))]) Try.func27 rfl rfl rfl rfl (fun fa hf => ?_)
  have hb : Below w.heap.size w w := Below.refl _ _
  refine wp_seq_k (fun K1 hK1 => ?_)
  refine wp_region_lit ?_
  refine sqdt hf (d_alloc (z := (.agg #[(.int .u8 (0 : Int)), (.int .u64 (0 : Int))])) (cs := #[(.int .u8 (0 : Int)), (.int .u64 (0 : Int))]) (by kernel_rfl) rfl) rfl rfl rfl ?_; clear hf fa; rintro fa _ w1 ⟨b1, rfl, hle1, hk1, he1⟩ hf
  have hBb1 : w.heap.size ≤ b1 := Nat.le_trans hb.size hle1
  replace hb := hb.trans (Below.mono he1 hb.size)
  refine sqv hf (r_assign rfl) rfl rfl rfl ?_; clear hf fa; intro fa hf
  apply wpList_nil
  (try simp only [Exit.then, Exit.inBlock, ↓reduceIte, Nat.reduceEqDiff])
  refine hK1 _ _ ?_
  refine wp_seq_k (fun K2 hK2 => ?_)
  refine wp_region_lit ?_
  refine sqv hf (r_move rfl) rfl rfl rfl ?_; clear hf fa; intro fa hf
  refine sqdt hf (d_callB (vs := [(.string s), (.string ⟨#[58]⟩)]) rfl Try.func58 (by kernel_rfl) (by kernel_rfl) (cutg_any s ⟨#[58]⟩ 58 _ rfl hs)) rfl rfl rfl ?_; clear hf fa; rintro fa _ w2 ⟨rfl, he2⟩ hf
  replace hk1 := blk_ext hk1 he2
  replace hb := hb.trans (Below.mono he2 hb.size)
  refine sqv hf (r_move rfl) rfl rfl rfl ?_; clear hf fa; intro fa hf
  refine sqv hf (r_extract rfl (i := 0) rfl) rfl rfl rfl ?_; clear hf fa; intro fa hf
  refine sqv hf (r_extract rfl (i := 1) rfl) rfl rfl rfl ?_; clear hf fa; intro fa hf
  refine sqv hf (r_extract rfl (i := 2) rfl) rfl rfl rfl ?_; clear hf fa; intro fa hf
  refine sqv hf (r_assign rfl) rfl rfl rfl ?_; clear hf fa; intro fa hf
  refine sqv hf (r_assign rfl) rfl rfl rfl ?_; clear hf fa; intro fa hf
  refine sqv hf (r_assign rfl) rfl rfl rfl ?_; clear hf fa; intro fa hf
  apply wpList_nil
  (try simp only [Exit.then, Exit.inBlock, ↓reduceIte, Nat.reduceEqDiff])
  refine hK2 _ _ ?_
  refine wp_seq_k (fun K3 hK3 => ?_)
  refine wp_region_lit ?_
  refine sqv hf (r_move rfl) rfl rfl rfl ?_; clear hf fa; intro fa hf
  refine sqdt hf (d_callB (vs := [(.string (cZ s 58))]) rfl Try.func25 (by kernel_rfl) (by kernel_rfl) (number_any (cZ s 58) _ (by have := cZ_len s 58; omega))) rfl rfl rfl ?_; clear hf fa; rintro fa _ w3 ⟨rfl, he3⟩ hf
  replace hk1 := blk_ext hk1 he3
  replace hb := hb.trans (Below.mono he3 hb.size)
  refine sqv hf (r_move rfl) rfl rfl rfl ?_; clear hf fa; intro fa hf
  refine sqv hf (r_extract rfl (i := 0) rfl) rfl rfl rfl ?_; clear hf fa; intro fa hf
  refine sqv hf (r_extract rfl (i := 1) rfl) rfl rfl rfl ?_; clear hf fa; intro fa hf
  refine sqv hf (r_assign rfl) rfl rfl rfl ?_; clear hf fa; intro fa hf
  refine sqv hf (r_assign rfl) rfl rfl rfl ?_; clear hf fa; intro fa hf
  apply wpList_nil
  (try simp only [Exit.then, Exit.inBlock, ↓reduceIte, Nat.reduceEqDiff])
  refine hK3 _ _ ?_
  refine wp_seq_k (fun K4 hK4 => ?_)
  refine wp_region_lit ?_
  refine sqv hf (r_move rfl) rfl rfl rfl ?_; clear hf fa; intro fa hf
  refine sqdt hf (d_callB (v := (.int .u8 ((byteP (cA s 58))))) (vs := [(.string (cA s 58))]) rfl Try.func65 (by kernel_rfl) (by kernel_rfl) (byte_any (cA s 58) _)) rfl rfl rfl ?_; clear hf fa; rintro fa _ w4 ⟨rfl, he4⟩ hf
  replace hk1 := blk_ext hk1 he4
  replace hb := hb.trans (Below.mono he4 hb.size)
  refine sqv hf (r_move rfl) rfl rfl rfl ?_; clear hf fa; intro fa hf
  refine sqv hf (r_conv (C := (((numP (bl (cZ s 58))).1 % 18446744073709551616))) rfl Try.underlying3 Try.underlying63 (by rw [IntKind.wrap_u64])) rfl rfl rfl ?_; clear hf fa; intro fa hf
  refine sqv hf (r_build (vs := [(0, (.int .u8 ((byteP (cA s 58))))), (1, (.int .u64 (((numP (bl (cZ s 58))).1 % 18446744073709551616))))]) (cs := #[(.int .u8 ((byteP (cA s 58)))), (.int .u64 (((numP (bl (cZ s 58))).1 % 18446744073709551616)))]) rfl (fun _ => by kernel_rfl)) rfl rfl rfl ?_; clear hf fa; intro fa hf
  refine sqdt hf (d_callB (v := (.agg #[(.int .u8 y.1), (.int .u64 y.2.1)])) (vs := [(.agg #[(.int .u8 ((byteP (cA s 58)))), (.int .u64 (((numP (bl (cZ s 58))).1 % 18446744073709551616)))])]) rfl Try.func64 (by kernel_rfl) (by kernel_rfl) (by have h := tcut_any (((byteP (cA s 58))), (((numP (bl (cZ s 58))).1 % 18446744073709551616)), ()) w4 (by first | exact byte_rng _ | (simp only; omega)) (by simp only; omega); rw [show tcutP (byteP (cA s 58), (numP (bl (cZ s 58))).1 % 18446744073709551616, ()) = y from hy] at h; exact h)) rfl rfl rfl ?_; clear hf fa; rintro fa _ w5 ⟨rfl, he5⟩ hf
  replace hk1 := blk_ext hk1 he5
  replace hb := hb.trans (Below.mono he5 hb.size)
  refine sqdt hf (d_alloc (z := (.agg #[(.int .u8 (0 : Int)), (.int .u64 (0 : Int))])) (cs := #[(.int .u8 (0 : Int)), (.int .u64 (0 : Int))]) (by kernel_rfl) rfl) rfl rfl rfl ?_; clear hf fa; rintro fa _ w6 ⟨b2, rfl, hle2, hk2, he6⟩ hf
  have hBb2 : w.heap.size ≤ b2 := Nat.le_trans hb.size hle2
  have : b1 < b2 := Nat.lt_of_lt_of_le (blk_lt hk1) hle2
  replace hk1 := blk_ext hk1 he6
  replace hb := hb.trans (Below.mono he6 hb.size)
  refine sqn hf (d_storeK (T := 65) (v := (.agg #[(.int .u8 y.1), (.int .u64 y.2.1)])) (cs := #[(.int .u8 (0 : Int)), (.int .u64 (0 : Int))]) (cs' := #[(.int .u8 y.1), (.int .u64 y.2.1)]) rfl rfl (by kernel_rfl) (by kernel_rfl) hk2 (by kernel_rfl) (by kernel_rfl)) rfl rfl ?_; clear hf fa; rintro fa _ w7 ⟨hk3, hg1⟩ hf
  replace hk1 := blk_grown hk1 hg1 (by omega)
  replace hb := hb.trans (grown_below hg1 hb.size hBb2)
  apply wpList_nil
  (try simp only [Exit.then, Exit.inBlock, ↓reduceIte, Nat.reduceEqDiff])
  refine hK4 _ _ ?_
  refine wp_seq_k (fun K5 hK5 => ?_)
  refine wp_seq_k (fun K6 hK6 => ?_)
  refine wp_region_lit ?_
  refine sqv hf (r_move rfl) rfl rfl rfl ?_; clear hf fa; intro fa hf
  refine sqv hf (r_not rfl) rfl rfl rfl ?_; clear hf fa; intro fa hf
  refine sqv hf (r_move rfl) rfl rfl rfl ?_; clear hf fa; intro fa hf
  refine sqgF (act := (!(!(decide (posB s 58 < s.size))))) (ag := true) (c := (!(decide (posB s 58 < s.size)))) (v := (.bool (numP (bl (cZ s 58))).2)) hf rfl rfl rfl (fun hact => (r_move rfl)) rfl rfl ?_; clear hf fa; intro fa hf
  refine sqgF (act := (!(!(decide (posB s 58 < s.size))))) (ag := true) (c := (!(decide (posB s 58 < s.size)))) (v := (.bool (!(numP (bl (cZ s 58))).2))) hf rfl rfl rfl (fun hact => (r_not (gb_ev hact rfl))) rfl rfl ?_; clear hf fa; intro fa hf
  refine sqv hf (r_pickO (b := (!(decide (posB s 58 < s.size)))) (e := (!(numP (bl (cZ s 58))).2)) rfl rfl rfl) rfl rfl rfl ?_; clear hf fa; intro fa hf
  refine sqv hf (r_move rfl) rfl rfl rfl ?_; clear hf fa; intro fa hf
  refine sqgF (act := (!((!(decide (posB s 58 < s.size))) || (!(numP (bl (cZ s 58))).2)))) (ag := true) (c := ((!(decide (posB s 58 < s.size))) || (!(numP (bl (cZ s 58))).2))) (v := (.agg #[(.int .u8 y.1), (.int .u64 y.2.1)])) hf rfl rfl rfl (fun hact => (r_loadA (cs := [(.int .u8 y.1), (.int .u64 y.2.1)]) rfl Try.underlying65 rfl (by kernel_rfl) (cellsAt_blk hk3))) rfl rfl ?_; clear hf fa; intro fa hf
  refine sqgd (R := fun vq wq => vq = gb (!((!(decide (posB s 58 < s.size))) || (!(numP (bl (cZ s 58))).2))) (.bool (vrightP y)) ∧ Below w7.heap.size w7 wq) (act := (!((!(decide (posB s 58 < s.size))) || (!(numP (bl (cZ s 58))).2)))) (g := 6) (want := false) (ag := true) (c := ((!(decide (posB s 58 < s.size))) || (!(numP (bl (cZ s 58))).2))) hf (by rfl) (by rfl) (act_F _ _) (fun hact => (d_callB (vs := [(.agg #[(.int .u8 y.1), (.int .u64 y.2.1)])]) (cons_ev (gb_ev hact rfl) rfl) Try.func57 (by kernel_rfl) (by kernel_rfl) (vright_any y _ hyr.1 hyr.2)).mono (fun _ _ h => ⟨by rw [h.1, hact]; rfl, h.2⟩)) (fun h => ⟨by rw [h]; rfl, Below.refl _ _⟩) rfl ?_; clear hf fa; rintro fa _ w8 ⟨rfl, he7⟩ hf
  replace hk1 := blk_ext hk1 he7
  replace hk3 := blk_ext hk3 he7
  replace hb := hb.trans (Below.mono he7 hb.size)
  change Fr _ _ ((35, (gb (!((!(decide (posB s 58 < s.size))) || (!(numP (bl (cZ s 58))).2))) (.bool (vrightP y)))) :: _) at hf
  refine sqgF (act := (!((!(decide (posB s 58 < s.size))) || (!(numP (bl (cZ s 58))).2)))) (ag := true) (c := ((!(decide (posB s 58 < s.size))) || (!(numP (bl (cZ s 58))).2))) (v := (.bool (!(vrightP y)))) hf rfl rfl rfl (fun hact => (r_not (gb_ev hact rfl))) rfl rfl ?_; clear hf fa; intro fa hf
  refine sqv hf (r_pickO (b := ((!(decide (posB s 58 < s.size))) || (!(numP (bl (cZ s 58))).2))) (e := (!(vrightP y))) rfl rfl rfl) rfl rfl rfl ?_; clear hf fa; intro fa hf
  refine sqv hf (r_move rfl) rfl rfl rfl ?_; clear hf fa; intro fa hf
  refine sqgF (act := (!(((!(decide (posB s 58 < s.size))) || (!(numP (bl (cZ s 58))).2)) || (!(vrightP y))))) (ag := true) (c := (((!(decide (posB s 58 < s.size))) || (!(numP (bl (cZ s 58))).2)) || (!(vrightP y)))) (v := (.agg #[(.int .u8 y.1), (.int .u64 y.2.1)])) hf rfl rfl rfl (fun hact => (r_loadA (cs := [(.int .u8 y.1), (.int .u64 y.2.1)]) rfl Try.underlying65 rfl (by kernel_rfl) (cellsAt_blk hk3))) rfl rfl ?_; clear hf fa; intro fa hf
  refine sqgd (R := fun vq wq => vq = gb (!(((!(decide (posB s 58 < s.size))) || (!(numP (bl (cZ s 58))).2)) || (!(vrightP y)))) (.string (valS y)) ∧ Below w8.heap.size w8 wq) (act := (!(((!(decide (posB s 58 < s.size))) || (!(numP (bl (cZ s 58))).2)) || (!(vrightP y))))) (g := 11) (want := false) (ag := true) (c := (((!(decide (posB s 58 < s.size))) || (!(numP (bl (cZ s 58))).2)) || (!(vrightP y)))) hf (by rfl) (by rfl) (act_F _ _) (fun hact => (d_callB (vs := [(.agg #[(.int .u8 y.1), (.int .u64 y.2.1)])]) (cons_ev (gb_ev hact rfl) rfl) Try.func34 (by kernel_rfl) (by kernel_rfl) (opvalue_any y _ hyr.1 hyr.2)).mono (fun _ _ h => ⟨by rw [h.1, hact]; rfl, h.2⟩)) (fun h => ⟨by rw [h]; rfl, Below.refl _ _⟩) rfl ?_; clear hf fa; rintro fa _ w9 ⟨rfl, he8⟩ hf
  replace hk1 := blk_ext hk1 he8
  replace hk3 := blk_ext hk3 he8
  replace hb := hb.trans (Below.mono he8 hb.size)
  change Fr _ _ ((40, (gb (!(((!(decide (posB s 58 < s.size))) || (!(numP (bl (cZ s 58))).2)) || (!(vrightP y)))) (.string (valS y)))) :: _) at hf
  refine sqgF (act := (!(((!(decide (posB s 58 < s.size))) || (!(numP (bl (cZ s 58))).2)) || (!(vrightP y))))) (ag := true) (c := (((!(decide (posB s 58 < s.size))) || (!(numP (bl (cZ s 58))).2)) || (!(vrightP y)))) (v := (.string s)) hf rfl rfl rfl (fun hact => (r_move rfl)) rfl rfl ?_; clear hf fa; intro fa hf
  refine sqgF (act := (!(((!(decide (posB s 58 < s.size))) || (!(numP (bl (cZ s 58))).2)) || (!(vrightP y))))) (ag := true) (c := (((!(decide (posB s 58 < s.size))) || (!(numP (bl (cZ s 58))).2)) || (!(vrightP y)))) (v := (.bool (decide ((valS y) ≠ s)))) hf rfl rfl rfl (fun hact => (r_sne (gb_ev hact rfl) (gb_ev hact rfl))) rfl rfl ?_; clear hf fa; intro fa hf
  refine sqv hf (r_pickO (b := (((!(decide (posB s 58 < s.size))) || (!(numP (bl (cZ s 58))).2)) || (!(vrightP y)))) (e := (decide ((valS y) ≠ s))) rfl rfl rfl) rfl rfl rfl ?_; clear hf fa; intro fa hf
  apply wpList_nil
  (try simp only [Exit.then, Exit.inBlock, ↓reduceIte, Nat.reduceEqDiff])
  refine hK6 _ _ ?_
  refine wp_cond_split (t := ((((!(decide (posB s 58 < s.size))) || (!(numP (bl (cZ s 58))).2)) || (!(vrightP y))) || (decide ((valS y) ≠ s)))) (hf.ev rfl) (fun hqt43_1 => ?_) (fun hqt43_1 => ?_)
  · have hqt43_1b := hqt43_1
    try simp only [decide_eq_true_eq, Bool.and_eq_true, Bool.or_eq_true, Bool.not_eq_true', decide_eq_false_iff_not, ne_eq, Bool.not_eq_true] at hqt43_1
    refine wp_seq_k (fun K7 hK7 => ?_)
    refine wp_region_lit ?_
    refine sqv hf (r_build (vs := []) (cs := #[(.int .u8 (0 : Int)), (.int .u64 (0 : Int))]) rfl (fun _ => by kernel_rfl)) rfl rfl rfl ?_; clear hf fa; intro fa hf
    refine sqn hf (d_storeK (T := 65) (v := (.agg #[(.int .u8 (0 : Int)), (.int .u64 (0 : Int))])) (cs := #[(.int .u8 (0 : Int)), (.int .u64 (0 : Int))]) (cs' := #[(.int .u8 (0 : Int)), (.int .u64 (0 : Int))]) rfl rfl (by kernel_rfl) (by kernel_rfl) hk1 (by kernel_rfl) (by kernel_rfl)) rfl rfl ?_; clear hf fa; rintro fa _ w10 ⟨hk4, hg2⟩ hf
    replace hk3 := blk_grown hk3 hg2 (by omega)
    replace hb := hb.trans (grown_below hg2 hb.size hBb1)
    refine sqv hf (r_assign rfl) rfl rfl rfl ?_; clear hf fa; intro fa hf
    apply wpList_nil
    (try simp only [Exit.then, Exit.inBlock, ↓reduceIte, Nat.reduceEqDiff])
    refine hK7 _ _ ?_
    refine wp_ret ?_
    (try simp only [Exit.then, Exit.inBlock])
    refine retCT hf rfl rfl hk4 Try.underlying65 rfl (by kernel_rfl) rfl ?_
    refine ⟨?_, hb⟩; unfold rdV; rw [show rdB s = true from by unfold rdB; rw [hy]; exact hqt43_1b]; rfl
  · have hqt43_1b := hqt43_1
    replace hqt43_1 := Bool.eq_false_iff.1 hqt43_1
    try simp only [ne_eq, decide_eq_true_eq, Bool.and_eq_true, Bool.or_eq_true, Bool.not_eq_true', decide_eq_false_iff_not] at hqt43_1
    refine wp_skip ?_
    (try simp only [Exit.then, Exit.inBlock, ↓reduceIte, Nat.reduceEqDiff])
    refine hK5 _ _ ?_
    refine wp_seq_k (fun K8 hK8 => ?_)
    refine wp_region_lit ?_
    refine sqv hf (r_loadA (cs := [(.int .u8 y.1), (.int .u64 y.2.1)]) rfl Try.underlying65 rfl (by kernel_rfl) (cellsAt_blk hk3)) rfl rfl rfl ?_; clear hf fa; intro fa hf
    refine sqn hf (d_storeK (T := 65) (v := (.agg #[(.int .u8 y.1), (.int .u64 y.2.1)])) (cs := #[(.int .u8 (0 : Int)), (.int .u64 (0 : Int))]) (cs' := #[(.int .u8 y.1), (.int .u64 y.2.1)]) rfl rfl (by kernel_rfl) (by kernel_rfl) hk1 (by kernel_rfl) (by kernel_rfl)) rfl rfl ?_; clear hf fa; rintro fa _ w11 ⟨hk5, hg3⟩ hf
    replace hk3 := blk_grown hk3 hg3 (by omega)
    replace hb := hb.trans (grown_below hg3 hb.size hBb1)
    refine sqv hf (r_assign rfl) rfl rfl rfl ?_; clear hf fa; intro fa hf
    apply wpList_nil
    (try simp only [Exit.then, Exit.inBlock, ↓reduceIte, Nat.reduceEqDiff])
    refine hK8 _ _ ?_
    refine wp_ret ?_
    (try simp only [Exit.then, Exit.inBlock])
    refine retCT hf rfl rfl hk5 Try.underlying65 rfl (by kernel_rfl) rfl ?_
    refine ⟨?_, hb⟩; unfold rdV; rw [show rdB s = false from by unfold rdB; rw [hy]; exact hqt43_1b]; rw [cond_false, hy]

end Go.Proofs.Ytpalmpfkliepfaa

namespace Go.Proofs.Ytpalmpfkliepfaa
open Go.RowKit Ut
set_option linter.unusedVariables false
set_option linter.unusedSimpArgs false
theorem nI_get {L : List Nat} {k cb : Nat} (h : L[k]? = some cb) : (nI L)[k]? = some ((cb : Nat) : Int) := by unfold nI; rw [List.getElem?_map, h]; rfl
theorem nI_app (a b : List Nat) : nI (a ++ b) = nI a ++ nI b := by unfold nI; rw [List.map_append]
theorem nI_len (a : List Nat) : (nI a).length = a.length := nI_length a
theorem hexs_at {j : Nat} (h : j < 16) : sbt ⟨#[48, 49, 50, 51, 52, 53, 54, 55, 56, 57, 97, 98, 99, 100, 101, 102]⟩ j = hx j := by
  have : ∀ x : Fin 16, sbt ⟨#[48, 49, 50, 51, 52, 53, 54, 55, 56, 57, 97, 98, 99, 100, 101, 102]⟩ x.val = hx x.val := by decide +kernel
  exact this ⟨j, h⟩
theorem hxs_byte {L : List Nat} (h : ∀ x ∈ L, x < 256) : ∀ x ∈ hxs L, x < 256 := by
  intro x hx'
  unfold hxs at hx'
  obtain ⟨b, hb, hx'⟩ := List.mem_flatMap.1 hx'
  have h1 := h b hb
  have h2 := hx_lt (n := b / 16) (by omega)
  have h3 := hx_lt (n := b % 16) (by omega)
  simp only [List.mem_cons, List.not_mem_nil, or_false] at hx'
  omega
theorem hexB_byte {L : List Nat} (h : ∀ x ∈ L, x < 256) : ∀ x ∈ hexB L, x < 256 := by
  unfold hexB
  split
  · intro x hx; simp only [List.mem_singleton] at hx; omega
  · exact hxs_byte h
theorem hxs_take {L : List Nat} {k cb : Nat} (h : L[k]? = some cb) : hxs (L.take (k + 1)) = hxs (L.take k) ++ [hx (cb / 16), hx (cb % 16)] := by
  rw [List.take_add_one, h, hxs_app]; rfl
theorem bwrite_x {B b : Nat} {l : List Int} {c : Int} {w : World} (h : BlT B b l w) (hl : l.length < 100000000) (hB : B ≤ w.heap.size) : Calls Try.prog 68 #[.pointer (some ⟨b, 0, none⟩), .int .u8 c] w fun e w' => ∃ v, e = .returned v ∧ (v = .nilIface ∧ BlT B b (l ++ [c]) w' ∧ Below B w w') :=
  (bwrite_any B b l c w h hl hB).mono fun e w' h => ⟨_, h.1, rfl, h.2⟩
theorem bstring_x {B b : Nat} {l : List Nat} {w : World} (h : BlT B b (nI l) w) (hl : ∀ x ∈ l, x < 256) (hB : B ≤ w.heap.size) : Calls Try.prog 69 #[.pointer (some ⟨b, 0, none⟩)] w fun e w' => ∃ v, e = .returned v ∧ (v = .string (strN l) ∧ Below B w w') :=
  (bstring_any B b (nI l) w h (by intro x hx; obtain ⟨y, hy, rfl⟩ := List.mem_map.1 hx; have := hl y hy; omega) hB).mono fun e w' h => ⟨_, h.1, rfl, h.2⟩
theorem and15u {c : Nat} (h : c < 256) : bits BinOp.and .u8 ((c : Nat) : Int) 15 = ((c % 16 : Nat) : Int) := (and_fin ⟨c, h⟩).2.1

set_option maxHeartbeats 1000000 in
set_option maxRecDepth 100000 in
theorem hex_any (L : List Nat) (a : Option Addr) (c : Nat) (w : World) (hL : ∀ x ∈ L, x < 256) (hr : RdS 1 (vInt .u8) w a (nI L)) (hl : L.length ≤ 1000000) : Calls Try.prog 32 #[(.slice a L.length c)] w fun e w' => e = .returned (.string (strN (hexB L))) ∧ Below w.heap.size w w' := by
  refine sx_enter (L := [(0, (.slice a L.length c))]) Try.func32 rfl rfl rfl rfl (fun fa hf => ?_)
  have hb : Below w.heap.size w w := Below.refl _ _
  refine wp_seq_k (fun K1 hK1 => ?_)
  refine wp_region_lit ?_
  refine sqv hf (r_assign rfl) rfl rfl rfl ?_; clear hf fa; intro fa hf
  apply wpList_nil
  (try simp only [Exit.then, Exit.inBlock, ↓reduceIte, Nat.reduceEqDiff])
  refine hK1 _ _ ?_
  refine wp_seq_k (fun K2 hK2 => ?_)
  refine wp_seq_k (fun K3 hK3 => ?_)
  refine wp_region_lit ?_
  refine sqv hf (r_move rfl) rfl rfl rfl ?_; clear hf fa; intro fa hf
  refine sqv hf (r_lensl rfl Try.underlying43) rfl rfl rfl ?_; clear hf fa; intro fa hf
  refine sqv hf (r_eq rfl rfl) rfl rfl rfl ?_; clear hf fa; intro fa hf
  apply wpList_nil
  (try simp only [Exit.then, Exit.inBlock, ↓reduceIte, Nat.reduceEqDiff])
  refine hK3 _ _ ?_
  refine wp_cond_split (t := (decide (((L.length : Nat) : Int) = (0 : Int)))) (hf.ev rfl) (fun hqt8_1 => ?_) (fun hqt8_1 => ?_)
  · have hqt8_1b := hqt8_1
    try simp only [decide_eq_true_eq, Bool.and_eq_true, Bool.or_eq_true, Bool.not_eq_true', decide_eq_false_iff_not, ne_eq, Bool.not_eq_true] at hqt8_1
    refine wp_seq_k (fun K4 hK4 => ?_)
    refine wp_region_lit ?_
    refine sqv hf (r_assign rfl) rfl rfl rfl ?_; clear hf fa; intro fa hf
    apply wpList_nil
    (try simp only [Exit.then, Exit.inBlock, ↓reduceIte, Nat.reduceEqDiff])
    refine hK4 _ _ ?_
    refine wp_ret ?_
    (try simp only [Exit.then, Exit.inBlock])
    refine ret1 hf rfl rfl ?_
    refine ⟨?_, hb⟩; rw [show L = [] from List.length_eq_zero_iff.1 (by omega)]; rfl
  · have hqt8_1b := hqt8_1
    replace hqt8_1 := Bool.eq_false_iff.1 hqt8_1
    try simp only [ne_eq, decide_eq_true_eq, Bool.and_eq_true, Bool.or_eq_true, Bool.not_eq_true', decide_eq_false_iff_not] at hqt8_1
    refine wp_skip ?_
    (try simp only [Exit.then, Exit.inBlock, ↓reduceIte, Nat.reduceEqDiff])
    refine hK2 _ _ ?_
    refine wp_seq_k (fun K5 hK5 => ?_)
    refine wp_region_lit ?_
    refine sqdt hf (d_alloc (z := (.agg #[(.pointer none), (.slice none 0 0)])) (cs := #[(.pointer none), (.slice none 0 0)]) (by kernel_rfl) rfl) rfl rfl rfl ?_; clear hf fa; rintro fa _ w1 ⟨b1, rfl, hle1, hk1, he1⟩ hf
    have hBb1 : w.heap.size ≤ b1 := Nat.le_trans hb.size hle1
    replace hb := hb.trans (Below.mono he1 hb.size)
    apply wpList_nil
    (try simp only [Exit.then, Exit.inBlock, ↓reduceIte, Nat.reduceEqDiff])
    refine hK5 _ _ ?_
    refine wp_seq_k (fun K6 hK6 => ?_)
    refine wp_seq_k (fun K7 hK7 => ?_)
    have hBl0 : BlT w.heap.size b1 [] w1 := BlT.new hBb1 hk1
    refine wp_region_lit ?_
    refine sqv hf (r_move rfl) rfl rfl rfl ?_; clear hf fa; intro fa hf
    refine sqv hf (r_lensl rfl Try.underlying43) rfl rfl rfl ?_; clear hf fa; intro fa hf
    refine sqv hf (r_move rfl) rfl rfl rfl ?_; clear hf fa; intro fa hf
    apply wpList_nil
    (try simp only [Exit.then, Exit.inBlock, ↓reduceIte, Nat.reduceEqDiff])
    refine hK7 _ _ ?_
    refine wp_block ?_
    refine wp_loop_k (fun mq fa wr => ∃ (k : Nat), mq = L.length - k ∧ Fr 25 fa [(3, (.pointer (some ⟨b1, 0, none⟩))), (9, (.slice a L.length c)), (10, (.int .i64 ((L.length : Nat) : Int))), (11, (.int .i64 ((k : Nat) : Int)))] ∧ Below w.heap.size w wr ∧ (k ≤ L.length) ∧ (BlT w.heap.size b1 (nI (hxs (L.take k))) wr)) ?_ ?_
    · skip
      exact ⟨_, 0, rfl, hf.sub ⟨rfl, rfl, rfl, (some_int (by first | rfl | omega)), trivial⟩, hb, by omega, hBl0⟩
    · skip
      clear hf fa; intro mq1 fa w2 hI KL1 hKL1
      clear hb
      obtain ⟨k, hmq1, hf, hb, hk, hBl⟩ := hI
      have hnl := nI_len (hxs (L.take k))
      refine wp_seq_k (fun K8 hK8 => ?_)
      refine wp_region_lit ?_
      refine sqv hf (r_lt rfl rfl) rfl rfl rfl ?_; clear hf fa; intro fa hf
      apply wpList_nil
      (try simp only [Exit.then, Exit.inBlock, ↓reduceIte, Nat.reduceEqDiff])
      refine hK8 _ _ ?_
      refine wp_seq_k (fun K9 hK9 => ?_)
      refine wp_cond_split (t := (decide (((k : Nat) : Int) < ((L.length : Nat) : Int)))) (hf.ev rfl) (fun hqt12_1 => ?_) (fun hqt12_1 => ?_)
      · have hqt12_1b := hqt12_1
        try simp only [decide_eq_true_eq, Bool.and_eq_true, Bool.or_eq_true, Bool.not_eq_true', decide_eq_false_iff_not, ne_eq, Bool.not_eq_true] at hqt12_1
        refine wp_skip ?_
        (try simp only [Exit.then, Exit.inBlock, ↓reduceIte, Nat.reduceEqDiff])
        refine hK9 _ _ ?_
        refine wp_seq_k (fun K10 hK10 => ?_)
        refine wp_block ?_
        refine wp_seq_k (fun K11 hK11 => ?_)
        obtain ⟨cb, hcb⟩ : ∃ x, L[k]? = some x := ⟨_, List.getElem?_eq_getElem (by omega)⟩
        have hcb2 := nI_get hcb
        have hcl : cb < 256 := hL cb (List.mem_of_getElem? hcb)
        refine wp_region_lit ?_
        have hy1 : ((nI L))[k]? = some ((cb : Nat) : Int) := hcb2
        obtain ⟨ab1, aoff1, rfl, hlb1, hel1⟩ := RdS.at hr hy1
        refine sqv hf (r_ixa (sz := 1) (j := k) rfl rfl Try.underlying43 (by kernel_rfl) rfl (by omega) rfl) rfl rfl rfl ?_; clear hf fa; intro fa hf
        refine sqv hf (r_load (v := (.int .u8 ((cb : Nat) : Int))) rfl Try.underlying5 rfl (cellsAt_cell (cellsAt_below hel1 hb hlb1) (i := 0) rfl rfl)) rfl rfl rfl ?_; clear hf fa; intro fa hf
        refine sqv hf (r_assign rfl) rfl rfl rfl ?_; clear hf fa; intro fa hf
        apply wpList_nil
        (try simp only [Exit.then, Exit.inBlock, ↓reduceIte, Nat.reduceEqDiff])
        refine hK11 _ _ ?_
        refine wp_seq_k (fun K12 hK12 => ?_)
        refine wp_region_lit ?_
        refine sqv hf (r_move rfl) rfl rfl rfl ?_; clear hf fa; intro fa hf
        refine sqv hf (r_shr (n := 4) (C := (((cb / 16) : Nat) : Int)) rfl rfl rfl (by rw [show min 4 IntKind.u8.bits = 4 by decide]; rw [Int.fdiv_eq_ediv_of_nonneg _ (by decide)]; omega)) rfl rfl rfl ?_; clear hf fa; intro fa hf
        refine sqv hf (Runs.veq (v' := (.int .u8 (((hx (cb / 16)) : Nat) : Int))) (r_sindexD (j := ((cb / 16))) rfl rfl Try.underlying9 rfl (by have : ((⟨#[48, 49, 50, 51, 52, 53, 54, 55, 56, 57, 97, 98, 99, 100, 101, 102]⟩) : ByteArray).size = 16 := rfl; omega)) (congrArg (fun x : Nat => Value.int .u8 ((x : Nat) : Int)) (hexs_at (by omega)))) rfl rfl rfl ?_; clear hf fa; intro fa hf
        refine sqdt hf (d_callX (vs := [(.pointer (some ⟨b1, 0, none⟩)), (.int .u8 (((hx (cb / 16)) : Nat) : Int))]) rfl Try.func68 (by kernel_rfl) (by kernel_rfl) (bwrite_x hBl (by simp only [List.length_append, List.length_cons, List.length_nil, nI_len, hxs_len, List.length_take]; omega) hb.size)) rfl rfl rfl ?_; clear hf fa; rintro fa _ w3 ⟨rfl, hBl1, he2⟩ hf
        replace hb := hb.trans he2
        apply wpList_nil
        (try simp only [Exit.then, Exit.inBlock, ↓reduceIte, Nat.reduceEqDiff])
        refine hK12 _ _ ?_
        refine wp_region_lit ?_
        refine sqv hf (r_move rfl) rfl rfl rfl ?_; clear hf fa; intro fa hf
        refine sqv hf (r_and (C := (((cb % 16) : Nat) : Int)) rfl rfl (and15u hcl)) rfl rfl rfl ?_; clear hf fa; intro fa hf
        refine sqv hf (Runs.veq (v' := (.int .u8 (((hx (cb % 16)) : Nat) : Int))) (r_sindexD (j := ((cb % 16))) rfl rfl Try.underlying9 rfl (by have : ((⟨#[48, 49, 50, 51, 52, 53, 54, 55, 56, 57, 97, 98, 99, 100, 101, 102]⟩) : ByteArray).size = 16 := rfl; omega)) (congrArg (fun x : Nat => Value.int .u8 ((x : Nat) : Int)) (hexs_at (by omega)))) rfl rfl rfl ?_; clear hf fa; intro fa hf
        refine sqdt hf (d_callX (vs := [(.pointer (some ⟨b1, 0, none⟩)), (.int .u8 (((hx (cb % 16)) : Nat) : Int))]) rfl Try.func68 (by kernel_rfl) (by kernel_rfl) (bwrite_x hBl1 (by simp only [List.length_append, List.length_cons, List.length_nil, nI_len, hxs_len, List.length_take]; omega) hb.size)) rfl rfl rfl ?_; clear hf fa; rintro fa _ w4 ⟨rfl, hBl2, he3⟩ hf
        replace hb := hb.trans he3
        apply wpList_nil
        (try simp only [Exit.then, Exit.inBlock, ↓reduceIte, Nat.reduceEqDiff])
        refine hK10 _ _ ?_
        refine wp_region_lit ?_
        refine sqv hf (r_add (C := (((k : Nat) : Int) + (1 : Int))) rfl rfl (by rw [IntKind.wrap_i64]; omega)) rfl rfl rfl ?_; clear hf fa; intro fa hf
        refine sqv hf (r_move rfl) rfl rfl rfl ?_; clear hf fa; intro fa hf
        apply wpList_nil
        (try simp only [Exit.then, Exit.inBlock, ↓reduceIte, Nat.reduceEqDiff])
        refine hKL1 _ _ _ (by omega) ⟨(k + 1), rfl, hf.sub ⟨rfl, rfl, rfl, (some_int (by first | rfl | omega)), trivial⟩, hb, by omega, (by rw [hxs_take hcb, nI_app]; have h := hBl2; rw [List.append_assoc] at h; exact h)⟩
      · have hqt12_1b := hqt12_1
        replace hqt12_1 := Bool.eq_false_iff.1 hqt12_1
        try simp only [ne_eq, decide_eq_true_eq, Bool.and_eq_true, Bool.or_eq_true, Bool.not_eq_true', decide_eq_false_iff_not] at hqt12_1
        refine wp_exit ?_
        (try simp only [Exit.then, Exit.inBlock, ↓reduceIte, Nat.reduceEqDiff])
        refine hK6 _ _ ?_
        refine wp_seq_k (fun K13 hK13 => ?_)
        have hfb := hxs_byte (L := L.take k) (fun x hx => hL x (List.mem_of_mem_take hx))
        refine wp_region_lit ?_
        refine sqdt hf (d_callX (vs := [(.pointer (some ⟨b1, 0, none⟩))]) rfl Try.func69 (by kernel_rfl) (by kernel_rfl) (bstring_x hBl hfb hb.size)) rfl rfl rfl ?_; clear hf fa; rintro fa _ w5 ⟨rfl, he4⟩ hf
        replace hb := hb.trans he4
        refine sqv hf (r_assign rfl) rfl rfl rfl ?_; clear hf fa; intro fa hf
        apply wpList_nil
        (try simp only [Exit.then, Exit.inBlock, ↓reduceIte, Nat.reduceEqDiff])
        refine hK13 _ _ ?_
        refine wp_ret ?_
        (try simp only [Exit.then, Exit.inBlock])
        refine ret1 hf rfl rfl ?_
        refine ⟨?_, hb⟩; unfold hexB; rw [if_neg (by rintro rfl; simp at *), List.take_of_length_le (by omega)]

set_option maxHeartbeats 1000000 in
set_option maxRecDepth 100000 in
theorem rhex_any (L : List Nat) (a : Option Addr) (c : Nat) (w : World) (hL : ∀ x ∈ L, x < 256) (hr : RdS 1 (vInt .u8) w a (nI L)) (hl : L.length ≤ 1000000) : Calls Try.prog 36 #[(.slice a L.length c)] w fun e w' => e = .returned (.string (strN (hexB L))) ∧ Below w.heap.size w w' := by
  refine sx_enter (L := [(0, (.slice a L.length c))]) Try.func36 rfl rfl rfl rfl (fun fa hf => ?_)
  have hb : Below w.heap.size w w := Below.refl _ _
  refine wp_seq_k (fun K1 hK1 => ?_)
  refine wp_region_lit ?_
  refine sqv hf (r_assign rfl) rfl rfl rfl ?_; clear hf fa; intro fa hf
  apply wpList_nil
  (try simp only [Exit.then, Exit.inBlock, ↓reduceIte, Nat.reduceEqDiff])
  refine hK1 _ _ ?_
  refine wp_seq_k (fun K2 hK2 => ?_)
  refine wp_seq_k (fun K3 hK3 => ?_)
  refine wp_region_lit ?_
  refine sqv hf (r_move rfl) rfl rfl rfl ?_; clear hf fa; intro fa hf
  refine sqv hf (r_lensl rfl Try.underlying43) rfl rfl rfl ?_; clear hf fa; intro fa hf
  refine sqv hf (r_eq rfl rfl) rfl rfl rfl ?_; clear hf fa; intro fa hf
  apply wpList_nil
  (try simp only [Exit.then, Exit.inBlock, ↓reduceIte, Nat.reduceEqDiff])
  refine hK3 _ _ ?_
  refine wp_cond_split (t := (decide (((L.length : Nat) : Int) = (0 : Int)))) (hf.ev rfl) (fun hqt8_1 => ?_) (fun hqt8_1 => ?_)
  · have hqt8_1b := hqt8_1
    try simp only [decide_eq_true_eq, Bool.and_eq_true, Bool.or_eq_true, Bool.not_eq_true', decide_eq_false_iff_not, ne_eq, Bool.not_eq_true] at hqt8_1
    refine wp_seq_k (fun K4 hK4 => ?_)
    refine wp_region_lit ?_
    refine sqv hf (r_assign rfl) rfl rfl rfl ?_; clear hf fa; intro fa hf
    apply wpList_nil
    (try simp only [Exit.then, Exit.inBlock, ↓reduceIte, Nat.reduceEqDiff])
    refine hK4 _ _ ?_
    refine wp_ret ?_
    (try simp only [Exit.then, Exit.inBlock])
    refine ret1 hf rfl rfl ?_
    refine ⟨?_, hb⟩; rw [show L = [] from List.length_eq_zero_iff.1 (by omega)]; rfl
  · have hqt8_1b := hqt8_1
    replace hqt8_1 := Bool.eq_false_iff.1 hqt8_1
    try simp only [ne_eq, decide_eq_true_eq, Bool.and_eq_true, Bool.or_eq_true, Bool.not_eq_true', decide_eq_false_iff_not] at hqt8_1
    refine wp_skip ?_
    (try simp only [Exit.then, Exit.inBlock, ↓reduceIte, Nat.reduceEqDiff])
    refine hK2 _ _ ?_
    refine wp_seq_k (fun K5 hK5 => ?_)
    refine wp_region_lit ?_
    refine sqv hf (r_assign rfl) rfl rfl rfl ?_; clear hf fa; intro fa hf
    apply wpList_nil
    (try simp only [Exit.then, Exit.inBlock, ↓reduceIte, Nat.reduceEqDiff])
    refine hK5 _ _ ?_
    refine wp_seq_k (fun K6 hK6 => ?_)
    refine wp_region_lit ?_
    refine sqv hf (r_assign rfl) rfl rfl rfl ?_; clear hf fa; intro fa hf
    apply wpList_nil
    (try simp only [Exit.then, Exit.inBlock, ↓reduceIte, Nat.reduceEqDiff])
    refine hK6 _ _ ?_
    refine wp_seq_k (fun K7 hK7 => ?_)
    refine wp_seq_k (fun K8 hK8 => ?_)
    refine wp_region_lit ?_
    refine sqv hf (r_assign rfl) rfl rfl rfl ?_; clear hf fa; intro fa hf
    apply wpList_nil
    (try simp only [Exit.then, Exit.inBlock, ↓reduceIte, Nat.reduceEqDiff])
    refine hK8 _ _ ?_
    refine wp_block ?_
    refine wp_loop_k (fun mq fa wr => ∃ (k : Nat) (roa : Option Addr) (roc : Nat), mq = L.length - k ∧ Fr 34 fa [(0, (.slice a L.length c)), (3, (.string ⟨#[48, 49, 50, 51, 52, 53, 54, 55, 56, 57, 97, 98, 99, 100, 101, 102]⟩)), (5, (.int .i64 ((k : Nat) : Int))), (4, (.slice roa (((nI (hxs (L.take k)))).length) roc))] ∧ Below w.heap.size w wr ∧ Row 1 (vInt .u8) 5 (w.heap.size) wr (.slice roa (((nI (hxs (L.take k)))).length) roc) (nI (hxs (L.take k))) ∧ (k ≤ L.length)) ?_ ?_
    · skip
      exact ⟨_, 0, none, 0, rfl, hf.sub ⟨rfl, rfl, (some_int (by first | rfl | omega)), (some_sl (by first | omega | rfl | (simp only [List.length_append, List.length_cons, List.length_nil]; omega) | (simp <;> omega)) rfl), trivial⟩, hb, Row.nil, by omega⟩
    · skip
      clear hf fa; intro mq1 fa w1 hI KL1 hKL1
      clear hb
      obtain ⟨k, roa, roc, hmq1, hf, hb, hro, hk⟩ := hI
      have hcro := Row.caps hro
      have hnl := nI_len (hxs (L.take k)); have hnl2 := hxs_len (L.take k); rw [List.length_take] at hnl2
      refine wp_seq_k (fun K9 hK9 => ?_)
      refine wp_seq_k (fun K10 hK10 => ?_)
      refine wp_region_lit ?_
      refine sqv hf (r_move rfl) rfl rfl rfl ?_; clear hf fa; intro fa hf
      refine sqv hf (r_move rfl) rfl rfl rfl ?_; clear hf fa; intro fa hf
      refine sqv hf (r_lensl rfl Try.underlying43) rfl rfl rfl ?_; clear hf fa; intro fa hf
      refine sqv hf (r_lt rfl rfl) rfl rfl rfl ?_; clear hf fa; intro fa hf
      apply wpList_nil
      (try simp only [Exit.then, Exit.inBlock, ↓reduceIte, Nat.reduceEqDiff])
      refine hK10 _ _ ?_
      refine wp_cond_split (t := (decide (((k : Nat) : Int) < ((L.length : Nat) : Int)))) (hf.ev rfl) (fun hqt12_1 => ?_) (fun hqt12_1 => ?_)
      · have hqt12_1b := hqt12_1
        try simp only [decide_eq_true_eq, Bool.and_eq_true, Bool.or_eq_true, Bool.not_eq_true', decide_eq_false_iff_not, ne_eq, Bool.not_eq_true] at hqt12_1
        refine wp_skip ?_
        (try simp only [Exit.then, Exit.inBlock, ↓reduceIte, Nat.reduceEqDiff])
        refine hK9 _ _ ?_
        refine wp_seq_k (fun K11 hK11 => ?_)
        refine wp_block ?_
        obtain ⟨cb, hcb⟩ : ∃ x, L[k]? = some x := ⟨_, List.getElem?_eq_getElem (by omega)⟩
        have hcb2 := nI_get hcb
        have hcl : cb < 256 := hL cb (List.mem_of_getElem? hcb)
        have hy1 : ((nI L))[k]? = some ((cb : Nat) : Int) := hcb2
        obtain ⟨ab1, aoff1, rfl, hlb1, hel1⟩ := RdS.at hr hy1
        refine wp_region_unT 16 (fun wq => Below w1.heap.size w1 wq) (fun w w' => Below w.heap.size w w')
          (fun V => [(fun x _ => x = (.slice roa (((nI (hxs (L.take k)))).length) roc)), (fun x _ => x = (.string ⟨#[48, 49, 50, 51, 52, 53, 54, 55, 56, 57, 97, 98, 99, 100, 101, 102]⟩)), (fun x _ => x = (.slice (some ⟨ab1, aoff1, none⟩) L.length c)), (fun x _ => x = (.int .i64 ((k : Nat) : Int))), (fun x _ => x = (.pointer (some ⟨ab1, (aoff1 + k * 1), none⟩))), (fun x _ => x = (.int .u8 ((cb : Nat) : Int))), (fun x _ => x = (.int .u8 (((cb / 16) : Nat) : Int))), (fun x _ => x = (.int .u8 (((hx (cb / 16)) : Nat) : Int))), (fun x _ => x = (.string ⟨#[48, 49, 50, 51, 52, 53, 54, 55, 56, 57, 97, 98, 99, 100, 101, 102]⟩)), (fun x _ => x = (.slice (some ⟨ab1, aoff1, none⟩) L.length c)), (fun x _ => x = (.int .i64 ((k : Nat) : Int))), (fun x _ => x = (.pointer (some ⟨ab1, (aoff1 + k * 1), none⟩))), (fun x _ => x = (.int .u8 ((cb : Nat) : Int))), (fun x _ => x = (.int .u8 (((cb % 16) : Nat) : Int))), (fun x _ => x = (.int .u8 (((hx (cb % 16)) : Nat) : Int))), (fun x wq => ∃ b, x = .slice (some ⟨b, 0, none⟩) 2 2 ∧ w1.heap.size ≤ b ∧ wq.heap[b]? = some (.cells #[(.int .u8 (((hx (cb / 16)) : Nat) : Int)), (.int .u8 (((hx (cb % 16)) : Nat) : Int))] 5 (0, 0)))])
          [15]
          [[], [], [], [], [2, 3], [4], [5], [1, 6], [], [], [], [9, 10], [11], [12], [8, 13], [7, 14], [], []]
          hf (by kernel_rfl) (by kernel_rfl) (by kernel_rfl) (fun _ => rfl) ((Below.refl _ _).drew) (fun a b h1 h2 => h1.trans (h2.mono h1.size)) (fun _ _ h => h.size) (fun V => ⟨kept_eq, kept_eq, kept_eq, kept_eq, kept_eq, kept_eq, kept_eq, kept_eq, kept_eq, kept_eq, kept_eq, kept_eq, kept_eq, kept_eq, kept_eq, keptB, trivial⟩) (fun _ _ _ _ _ => rfl) ?_ ?_
        · skip
          intro V
          refine ⟨fun wu0 hC hd => ?_, ?_⟩
          · clear hd
            replace hb := hb.trans (hC.mono hb.size)
            replace hro := Row.ext hro hC
            exact Runs.does (r_move rfl) ⟨Below.refl _ _, rfl, nofr rfl⟩
          refine ⟨fun wu1 hC hd => ?_, ?_⟩
          · clear hd
            replace hb := hb.trans (hC.mono hb.size)
            replace hro := Row.ext hro hC
            exact Runs.does (r_move rfl) ⟨Below.refl _ _, rfl, nofr rfl⟩
          refine ⟨fun wu2 hC hd => ?_, ?_⟩
          · clear hd
            replace hb := hb.trans (hC.mono hb.size)
            replace hro := Row.ext hro hC
            exact Runs.does (r_move rfl) ⟨Below.refl _ _, rfl, nofr rfl⟩
          refine ⟨fun wu3 hC hd => ?_, ?_⟩
          · clear hd
            replace hb := hb.trans (hC.mono hb.size)
            replace hro := Row.ext hro hC
            exact Runs.does (r_move rfl) ⟨Below.refl _ _, rfl, nofr rfl⟩
          refine ⟨fun wu4 hC hd => ?_, ?_⟩
          · obtain ⟨h2, h3, _⟩ := hd
            skip
            skip
            replace h2 : V 2 = (.slice (some ⟨ab1, aoff1, none⟩) L.length c) := h2
            replace h3 : V 3 = (.int .i64 ((k : Nat) : Int)) := h3
            replace hb := hb.trans (hC.mono hb.size)
            replace hro := Row.ext hro hC
            exact Runs.does (r_ixa (sz := 1) (j := k) (congrArg some h2) (congrArg some h3) Try.underlying43 (by kernel_rfl) rfl (by omega) rfl) ⟨Below.refl _ _, rfl, nofr rfl⟩
          refine ⟨fun wu5 hC hd => ?_, ?_⟩
          · obtain ⟨h4, _⟩ := hd
            skip
            replace h4 : V 4 = (.pointer (some ⟨ab1, (aoff1 + k * 1), none⟩)) := h4
            replace hb := hb.trans (hC.mono hb.size)
            replace hro := Row.ext hro hC
            exact Runs.does (r_load (v := (.int .u8 ((cb : Nat) : Int))) (congrArg some h4) Try.underlying5 rfl (cellsAt_cell (cellsAt_below hel1 hb hlb1) (i := 0) rfl rfl)) ⟨Below.refl _ _, rfl, nofr rfl⟩
          refine ⟨fun wu6 hC hd => ?_, ?_⟩
          · obtain ⟨h5, _⟩ := hd
            skip
            replace h5 : V 5 = (.int .u8 ((cb : Nat) : Int)) := h5
            replace hb := hb.trans (hC.mono hb.size)
            replace hro := Row.ext hro hC
            exact Runs.does (r_quo (C := (((cb / 16) : Nat) : Int)) (congrArg some h5) rfl (by omega) (by rw [Int.tdiv_eq_ediv_of_nonneg (by omega), IntKind.wrap_u8]; omega)) ⟨Below.refl _ _, rfl, nofr rfl⟩
          refine ⟨fun wu7 hC hd => ?_, ?_⟩
          · obtain ⟨h1, h6, _⟩ := hd
            skip
            skip
            replace h1 : V 1 = (.string ⟨#[48, 49, 50, 51, 52, 53, 54, 55, 56, 57, 97, 98, 99, 100, 101, 102]⟩) := h1
            replace h6 : V 6 = (.int .u8 (((cb / 16) : Nat) : Int)) := h6
            replace hb := hb.trans (hC.mono hb.size)
            replace hro := Row.ext hro hC
            exact Runs.does (Runs.veq (v' := (.int .u8 (((hx (cb / 16)) : Nat) : Int))) (r_sindexD (j := ((cb / 16))) (congrArg some h1) (congrArg some h6) Try.underlying9 rfl (by have : ((⟨#[48, 49, 50, 51, 52, 53, 54, 55, 56, 57, 97, 98, 99, 100, 101, 102]⟩) : ByteArray).size = 16 := rfl; omega)) (congrArg (fun x : Nat => Value.int .u8 ((x : Nat) : Int)) (hexs_at (by omega)))) ⟨Below.refl _ _, rfl, nofr rfl⟩
          refine ⟨fun wu8 hC hd => ?_, ?_⟩
          · clear hd
            replace hb := hb.trans (hC.mono hb.size)
            replace hro := Row.ext hro hC
            exact Runs.does (r_move rfl) ⟨Below.refl _ _, rfl, nofr rfl⟩
          refine ⟨fun wu9 hC hd => ?_, ?_⟩
          · clear hd
            replace hb := hb.trans (hC.mono hb.size)
            replace hro := Row.ext hro hC
            exact Runs.does (r_move rfl) ⟨Below.refl _ _, rfl, nofr rfl⟩
          refine ⟨fun wu10 hC hd => ?_, ?_⟩
          · clear hd
            replace hb := hb.trans (hC.mono hb.size)
            replace hro := Row.ext hro hC
            exact Runs.does (r_move rfl) ⟨Below.refl _ _, rfl, nofr rfl⟩
          refine ⟨fun wu11 hC hd => ?_, ?_⟩
          · obtain ⟨h9, h10, _⟩ := hd
            skip
            skip
            replace h9 : V 9 = (.slice (some ⟨ab1, aoff1, none⟩) L.length c) := h9
            replace h10 : V 10 = (.int .i64 ((k : Nat) : Int)) := h10
            replace hb := hb.trans (hC.mono hb.size)
            replace hro := Row.ext hro hC
            exact Runs.does (r_ixa (sz := 1) (j := k) (congrArg some h9) (congrArg some h10) Try.underlying43 (by kernel_rfl) rfl (by omega) rfl) ⟨Below.refl _ _, rfl, nofr rfl⟩
          refine ⟨fun wu12 hC hd => ?_, ?_⟩
          · obtain ⟨h11, _⟩ := hd
            skip
            replace h11 : V 11 = (.pointer (some ⟨ab1, (aoff1 + k * 1), none⟩)) := h11
            replace hb := hb.trans (hC.mono hb.size)
            replace hro := Row.ext hro hC
            exact Runs.does (r_load (v := (.int .u8 ((cb : Nat) : Int))) (congrArg some h11) Try.underlying5 rfl (cellsAt_cell (cellsAt_below hel1 hb hlb1) (i := 0) rfl rfl)) ⟨Below.refl _ _, rfl, nofr rfl⟩
          refine ⟨fun wu13 hC hd => ?_, ?_⟩
          · obtain ⟨h12, _⟩ := hd
            skip
            replace h12 : V 12 = (.int .u8 ((cb : Nat) : Int)) := h12
            replace hb := hb.trans (hC.mono hb.size)
            replace hro := Row.ext hro hC
            exact Runs.does (r_rem (C := (((cb % 16) : Nat) : Int)) (congrArg some h12) rfl (by omega) (Int.tmod_eq_emod_of_nonneg (by omega))) ⟨Below.refl _ _, rfl, nofr rfl⟩
          refine ⟨fun wu14 hC hd => ?_, ?_⟩
          · obtain ⟨h8, h13, _⟩ := hd
            skip
            skip
            replace h8 : V 8 = (.string ⟨#[48, 49, 50, 51, 52, 53, 54, 55, 56, 57, 97, 98, 99, 100, 101, 102]⟩) := h8
            replace h13 : V 13 = (.int .u8 (((cb % 16) : Nat) : Int)) := h13
            replace hb := hb.trans (hC.mono hb.size)
            replace hro := Row.ext hro hC
            exact Runs.does (Runs.veq (v' := (.int .u8 (((hx (cb % 16)) : Nat) : Int))) (r_sindexD (j := ((cb % 16))) (congrArg some h8) (congrArg some h13) Try.underlying9 rfl (by have : ((⟨#[48, 49, 50, 51, 52, 53, 54, 55, 56, 57, 97, 98, 99, 100, 101, 102]⟩) : ByteArray).size = 16 := rfl; omega)) (congrArg (fun x : Nat => Value.int .u8 ((x : Nat) : Int)) (hexs_at (by omega)))) ⟨Below.refl _ _, rfl, nofr rfl⟩
          refine ⟨fun wu15 hC hd => ?_, ?_⟩
          · obtain ⟨h7, h14, _⟩ := hd
            skip
            skip
            replace h7 : V 7 = (.int .u8 (((hx (cb / 16)) : Nat) : Int)) := h7
            replace h14 : V 14 = (.int .u8 (((hx (cb % 16)) : Nat) : Int)) := h14
            replace hb := hb.trans (hC.mono hb.size)
            replace hro := Row.ext hro hC
            refine Does.mono (d_bslice (z := (.int .u8 (0 : Int))) (sz := 1) (vs := [(0, (.int .u8 (((hx (cb / 16)) : Nat) : Int))), (1, (.int .u8 (((hx (cb % 16)) : Nat) : Int)))]) (cs := #[(.int .u8 (((hx (cb / 16)) : Nat) : Int)), (.int .u8 (((hx (cb % 16)) : Nat) : Int))]) (show [(0, some (V 7)), (1, some (V 14))] = [(0, some (.int .u8 (((hx (cb / 16)) : Nat) : Int))), (1, some (.int .u8 (((hx (cb % 16)) : Nat) : Int)))] from by rw [h7, h14]) Try.underlying43 (by kernel_rfl) rfl (by kernel_rfl)) ?_
            rintro _ w' ⟨b, rfl, hF⟩
            exact ⟨hF.2.2, ⟨b, rfl, Nat.le_trans hC.size hF.1, hF.2.1⟩, isfr rfl hF.1 (blk_lt hF.2.1)⟩
          trivial
        · skip
          clear hf fa; intro V w2 fa he1 hp hnb hf
          have hv0 : V 0 = (.slice roa (((nI (hxs (L.take k)))).length) roc) := postsHold_at hp 0 rfl
          have hv1 : V 1 = (.string ⟨#[48, 49, 50, 51, 52, 53, 54, 55, 56, 57, 97, 98, 99, 100, 101, 102]⟩) := postsHold_at hp 1 rfl
          have hv2 : V 2 = (.slice (some ⟨ab1, aoff1, none⟩) L.length c) := postsHold_at hp 2 rfl
          have hv3 : V 3 = (.int .i64 ((k : Nat) : Int)) := postsHold_at hp 3 rfl
          have hv4 : V 4 = (.pointer (some ⟨ab1, (aoff1 + k * 1), none⟩)) := postsHold_at hp 4 rfl
          have hv5 : V 5 = (.int .u8 ((cb : Nat) : Int)) := postsHold_at hp 5 rfl
          have hv6 : V 6 = (.int .u8 (((cb / 16) : Nat) : Int)) := postsHold_at hp 6 rfl
          have hv7 : V 7 = (.int .u8 (((hx (cb / 16)) : Nat) : Int)) := postsHold_at hp 7 rfl
          have hv8 : V 8 = (.string ⟨#[48, 49, 50, 51, 52, 53, 54, 55, 56, 57, 97, 98, 99, 100, 101, 102]⟩) := postsHold_at hp 8 rfl
          have hv9 : V 9 = (.slice (some ⟨ab1, aoff1, none⟩) L.length c) := postsHold_at hp 9 rfl
          have hv10 : V 10 = (.int .i64 ((k : Nat) : Int)) := postsHold_at hp 10 rfl
          have hv11 : V 11 = (.pointer (some ⟨ab1, (aoff1 + k * 1), none⟩)) := postsHold_at hp 11 rfl
          have hv12 : V 12 = (.int .u8 ((cb : Nat) : Int)) := postsHold_at hp 12 rfl
          have hv13 : V 13 = (.int .u8 (((cb % 16) : Nat) : Int)) := postsHold_at hp 13 rfl
          have hv14 : V 14 = (.int .u8 (((hx (cb % 16)) : Nat) : Int)) := postsHold_at hp 14 rfl
          have hv15 := postsHold_at hp 15 rfl
          obtain ⟨b1, hv15, hle1, hk1⟩ := hv15
          have hBb1 : w.heap.size ≤ b1 := Nat.le_trans hb.size hle1
          simp only [List.take_succ_cons, List.take_zero, insAll, ins, hv0, hv1, hv2, hv3, hv4, hv5, hv6, hv7, hv8, hv9, hv10, hv11, hv12, hv13, hv14, hv15] at hf
          have hnr1 : (Value.slice roa ((((nI (hxs (L.take k)))).length)) roc).ownBlock ≠ some b1 := fun hq => by have := (Row.lt hro _ hq).2; have := hle1; omega
          clear hp hnb hv0 hv1 hv2 hv3 hv4 hv5 hv6 hv7 hv8 hv9 hv10 hv11 hv12 hv13 hv14 hv15
          replace hro := Row.ext hro he1
          replace hb := hb.trans (Below.mono he1 hb.size)
          simp only [List.drop_succ_cons, List.drop_zero]
          have hs1 := Row.rd (by intros; rfl) (Row.of_new (k := 1) (V := (vInt .u8)) (l := [(((hx (cb / 16)) : Nat) : Int), (((hx (cb % 16)) : Nat) : Int)]) hk1 (Nat.le_refl _) rfl rfl (Nat.le_of_ble_eq_true rfl))
          refine sqdt hf (d_append (V := (vInt .u8)) (k := 1) (e := 5) (bytes := 1) (z := (.int .u8 (0 : Int))) (news := [(((hx (cb / 16)) : Nat) : Int), (((hx (cb % 16)) : Nat) : Int)]) (base := w.heap.size) (by intros; rfl) (by intro x u hu; simp only [vInt, List.mem_singleton] at hu; subst hu; rfl) rfl rfl Try.underlying43 (by kernel_rfl) rfl rfl rfl hro hs1 rfl (fun h => by cases h) (by first | omega | (simp only [List.length_cons, List.length_nil, List.length_append, nums_len]; omega)) (by have := hb.size; omega)) rfl rfl rfl ?_; clear hf fa; rintro fa v w3 ⟨hr1, hg1⟩ hf; obtain ⟨ra1, rc1, rfl, hcrc1, hmrc1⟩ := Row.slice hr1
          replace hb := hb.trans (row_below hro hg1 hb.size (by have := hb.size; omega))
          refine sqv hf (r_assign rfl) rfl rfl rfl ?_; clear hf fa; intro fa hf
          apply wpList_nil
          (try simp only [Exit.then, Exit.inBlock, ↓reduceIte, Nat.reduceEqDiff])
          refine hK11 _ _ ?_
          refine wp_region_lit ?_
          refine sqv hf (r_move rfl) rfl rfl rfl ?_; clear hf fa; intro fa hf
          refine sqv hf (r_add (C := (((k : Nat) : Int) + (1 : Int))) rfl rfl (by rw [IntKind.wrap_i64]; omega)) rfl rfl rfl ?_; clear hf fa; intro fa hf
          refine sqv hf (r_assign rfl) rfl rfl rfl ?_; clear hf fa; intro fa hf
          apply wpList_nil
          (try simp only [Exit.then, Exit.inBlock, ↓reduceIte, Nat.reduceEqDiff])
          have hln9 : (nI (hxs (L.take (k + 1)))).length = (nI (hxs (L.take k)) ++ [((hx (cb / 16) : Nat) : Int), ((hx (cb % 16) : Nat) : Int)]).length := by rw [hxs_take hcb, nI_app]; rfl
          refine hKL1 _ _ _ (by omega) ⟨(k + 1), ra1, rc1, rfl, hf.sub ⟨rfl, rfl, (some_int (by first | rfl | omega)), (some_sl (by first | omega | rfl | (simp only [List.length_append, List.length_cons, List.length_nil]; omega) | (simp <;> omega)) rfl), trivial⟩, hb, (Row.relen (Row.eqL hr1 (by rw [hxs_take hcb, nI_app]; rfl))), by omega⟩
      · have hqt12_1b := hqt12_1
        replace hqt12_1 := Bool.eq_false_iff.1 hqt12_1
        try simp only [ne_eq, decide_eq_true_eq, Bool.and_eq_true, Bool.or_eq_true, Bool.not_eq_true', decide_eq_false_iff_not] at hqt12_1
        refine wp_exit ?_
        (try simp only [Exit.then, Exit.inBlock, ↓reduceIte, Nat.reduceEqDiff])
        refine hK7 _ _ ?_
        refine wp_seq_k (fun K12 hK12 => ?_)
        refine wp_region_lit ?_
        refine sqv hf (r_move rfl) rfl rfl rfl ?_; clear hf fa; intro fa hf
        refine sqv hf (r_rowstr rfl Try.underlying43 Try.underlying5 Try.underlying9 hro) rfl rfl rfl ?_; clear hf fa; intro fa hf
        refine sqv hf (r_assign rfl) rfl rfl rfl ?_; clear hf fa; intro fa hf
        apply wpList_nil
        (try simp only [Exit.then, Exit.inBlock, ↓reduceIte, Nat.reduceEqDiff])
        refine hK12 _ _ ?_
        refine wp_ret ?_
        (try simp only [Exit.then, Exit.inBlock])
        refine ret1 hf rfl rfl ?_
        refine ⟨?_, hb⟩; unfold hexB; rw [if_neg (by rintro rfl; simp at *), List.take_of_length_le (by omega)]; rfl
end Go.Proofs.Ytpalmpfkliepfaa

namespace Go.Proofs.Ytpalmpfkliepfaa
open Go.RowKit Ut
set_option linter.unusedVariables false
set_option linter.unusedSimpArgs false
theorem nib_ge {c : Nat} (h : ¬ nib c < 0) : ∃ x : Nat, nib c = x ∧ x < 16 := by
  have := hx_nib h
  exact ⟨(nib c).toNat, by omega, this.2⟩
theorem dot_iff {s : ByteArray} : s = ⟨#[46]⟩ ↔ bl s = [46] := ⟨fun h => by rw [h]; rfl, fun h => bl_inj h⟩
theorem hexP_dot {s : ByteArray} (h : s = ⟨#[46]⟩) : hexP (bl s) = ([], true) := by rw [h]; rfl
theorem hexP_none {s : ByteArray} (h : ¬ s = ⟨#[46]⟩) (h2 : hexL (bl s) = none) : hexP (bl s) = ([], false) := by
  unfold hexP
  rw [if_neg (fun e => h (dot_iff.2 e)), h2]
theorem hexP_out {s : ByteArray} {o : List Nat} (h : ¬ s = ⟨#[46]⟩) (h2 : hexL (bl s) = some o) : hexP (bl s) = (o, (decide ((0 : Int) < ((s.size : Nat) : Int)) && decide ((((s.size : Nat) : Int) % (2 : Int)) = (0 : Int)))) := by
  unfold hexP
  rw [if_neg (fun e => h (dot_iff.2 e)), h2]
  simp only [bl_length]
  congr 2
  · by_cases h3 : 0 < s.size
    · rw [decide_eq_true h3, decide_eq_true (by omega)]
    · rw [decide_eq_false h3, decide_eq_false (by omega)]
  · by_cases h3 : s.size % 2 = 0
    · rw [decide_eq_true h3, decide_eq_true (by omega)]
    · rw [decide_eq_false h3, decide_eq_false (by omega)]
theorem hexL_no {l o : List Nat} {a b : Nat} {r : List Nat} (h : hexL l = (hexL (a :: b :: r)).map (o ++ ·)) (hn : nib a < 0 ∨ nib b < 0) : hexL l = none := by
  rw [h, hexL, if_pos hn]; rfl
theorem hexL_go {l o : List Nat} {a b x1 x2 : Nat} {r : List Nat} (h : hexL l = (hexL (a :: b :: r)).map (o ++ ·)) (h1 : nib a = x1) (h2 : nib b = x2) : hexL l = (hexL r).map ((o ++ [x1 * 16 + x2]) ++ ·) := by
  rw [h, hexL, if_neg (by omega), h1, h2]
  cases hexL r <;> simp
theorem hexL_end {l o r : List Nat} (h : hexL l = (hexL r).map (o ++ ·)) (hr : r.length < 2) : hexL l = some o := by
  rw [h]
  match r, hr with
  | [], _ => simp [hexL]
  | [a], _ => simp [hexL]
theorem drop2 {s : ByteArray} {k : Nat} (h : k + 1 < s.size) : (bl s).drop k = sbt s k :: sbt s (k + 1) :: (bl s).drop (k + 2) := by
  rw [bl_dropc s k (by omega), bl_dropc s (k + 1) (by omega)]
set_option maxHeartbeats 1000000 in
set_option maxRecDepth 100000 in
theorem readhex_any (s : ByteArray) (w : World) (hs : s.size ≤ 1000000) : Calls Try.prog 29 #[(.string s)] w fun e w' => ∃ v, e = .returned (.tuple #[v, .bool (hexP (bl s)).2]) ∧ Row 1 (vInt .u8) 5 w.heap.size w' v (nI (hexP (bl s)).1) ∧ Below w.heap.size w w' := by
  refine sx_enter (L := [(0, (.string s))]) Try.func29 rfl rfl rfl rfl (fun fa hf => ?_)
  have hb : Below w.heap.size w w := Below.refl _ _
  refine wp_seq_k (fun K1 hK1 => ?_)
  refine wp_region_lit ?_
  refine sqv hf (r_assign rfl) rfl rfl rfl ?_; clear hf fa; intro fa hf
  refine sqv hf (r_assign rfl) rfl rfl rfl ?_; clear hf fa; intro fa hf
  apply wpList_nil
  (try simp only [Exit.then, Exit.inBlock, ↓reduceIte, Nat.reduceEqDiff])
  refine hK1 _ _ ?_
  refine wp_seq_k (fun K2 hK2 => ?_)
  refine wp_seq_k (fun K3 hK3 => ?_)
  refine wp_region_lit ?_
  refine sqv hf (r_move rfl) rfl rfl rfl ?_; clear hf fa; intro fa hf
  refine sqv hf (r_seq rfl rfl) rfl rfl rfl ?_; clear hf fa; intro fa hf
  apply wpList_nil
  (try simp only [Exit.then, Exit.inBlock, ↓reduceIte, Nat.reduceEqDiff])
  refine hK3 _ _ ?_
  refine wp_cond_split (t := (decide (s = ⟨#[46]⟩))) (hf.ev rfl) (fun hqt9_1 => ?_) (fun hqt9_1 => ?_)
  · have hqt9_1b := hqt9_1
    try simp only [decide_eq_true_eq, Bool.and_eq_true, Bool.or_eq_true, Bool.not_eq_true', decide_eq_false_iff_not, ne_eq, Bool.not_eq_true] at hqt9_1
    refine wp_seq_k (fun K4 hK4 => ?_)
    refine wp_region_lit ?_
    refine sqv hf (r_assign rfl) rfl rfl rfl ?_; clear hf fa; intro fa hf
    refine sqv hf (r_assign rfl) rfl rfl rfl ?_; clear hf fa; intro fa hf
    apply wpList_nil
    (try simp only [Exit.then, Exit.inBlock, ↓reduceIte, Nat.reduceEqDiff])
    refine hK4 _ _ ?_
    refine wp_ret ?_
    (try simp only [Exit.then, Exit.inBlock])
    refine ret2 hf rfl rfl rfl ?_
    rw [hexP_dot hqt9_1]; exact ⟨_, rfl, Row.nil, hb⟩
  · have hqt9_1b := hqt9_1
    replace hqt9_1 := Bool.eq_false_iff.1 hqt9_1
    try simp only [ne_eq, decide_eq_true_eq, Bool.and_eq_true, Bool.or_eq_true, Bool.not_eq_true', decide_eq_false_iff_not] at hqt9_1
    refine wp_skip ?_
    (try simp only [Exit.then, Exit.inBlock, ↓reduceIte, Nat.reduceEqDiff])
    refine hK2 _ _ ?_
    refine wp_seq_k (fun K5 hK5 => ?_)
    refine wp_region_lit ?_
    refine sqv hf (r_assign rfl) rfl rfl rfl ?_; clear hf fa; intro fa hf
    apply wpList_nil
    (try simp only [Exit.then, Exit.inBlock, ↓reduceIte, Nat.reduceEqDiff])
    refine hK5 _ _ ?_
    refine wp_seq_k (fun K6 hK6 => ?_)
    refine wp_seq_k (fun K7 hK7 => ?_)
    refine wp_region_lit ?_
    refine sqv hf (r_assign rfl) rfl rfl rfl ?_; clear hf fa; intro fa hf
    apply wpList_nil
    (try simp only [Exit.then, Exit.inBlock, ↓reduceIte, Nat.reduceEqDiff])
    refine hK7 _ _ ?_
    refine wp_block ?_
    refine wp_loop_k (fun mq fa wr => ∃ (k : Nat) (o : List Nat) (roa : Option Addr) (roc : Nat), mq = s.size - k ∧ Fr 50 fa [(0, (.string s)), (5, (.int .i64 ((k : Nat) : Int))), (4, (.slice roa (((nI o)).length) roc))] ∧ Below w.heap.size w wr ∧ Row 1 (vInt .u8) 5 (w.heap.size) wr (.slice roa (((nI o)).length) roc) (nI o) ∧ (k ≤ s.size) ∧ (hexL (bl s) = (hexL ((bl s).drop k)).map (o ++ ·)) ∧ (2 * o.length = k)) ?_ ?_
    · skip
      exact ⟨_, 0, [], none, 0, rfl, hf.sub ⟨rfl, (some_int (by first | rfl | omega)), (some_sl (by first | omega | rfl | (simp only [List.length_append, List.length_cons, List.length_nil]; omega) | (simp <;> omega)) rfl), trivial⟩, hb, Row.nil, by omega, (by simp), rfl⟩
    · skip
      clear hf fa; intro mq1 fa w1 hI KL1 hKL1
      clear hb
      obtain ⟨k, o, roa, roc, hmq1, hf, hb, hro, hk, Hs, hol⟩ := hI
      have hcro := Row.caps hro
      have hno := nI_length o
      refine wp_seq_k (fun K8 hK8 => ?_)
      refine wp_seq_k (fun K9 hK9 => ?_)
      refine wp_region_lit ?_
      refine sqv hf (r_move rfl) rfl rfl rfl ?_; clear hf fa; intro fa hf
      refine sqv hf (r_add (C := (((k : Nat) : Int) + (1 : Int))) rfl rfl (by rw [IntKind.wrap_i64]; omega)) rfl rfl rfl ?_; clear hf fa; intro fa hf
      refine sqv hf (r_move rfl) rfl rfl rfl ?_; clear hf fa; intro fa hf
      refine sqv hf (r_lens rfl Try.underlying9) rfl rfl rfl ?_; clear hf fa; intro fa hf
      refine sqv hf (r_lt rfl rfl) rfl rfl rfl ?_; clear hf fa; intro fa hf
      apply wpList_nil
      (try simp only [Exit.then, Exit.inBlock, ↓reduceIte, Nat.reduceEqDiff])
      refine hK9 _ _ ?_
      refine wp_cond_split (t := (decide ((((k : Nat) : Int) + (1 : Int)) < ((s.size : Nat) : Int)))) (hf.ev rfl) (fun hqt14_1 => ?_) (fun hqt14_1 => ?_)
      · have hqt14_1b := hqt14_1
        try simp only [decide_eq_true_eq, Bool.and_eq_true, Bool.or_eq_true, Bool.not_eq_true', decide_eq_false_iff_not, ne_eq, Bool.not_eq_true] at hqt14_1
        refine wp_skip ?_
        (try simp only [Exit.then, Exit.inBlock, ↓reduceIte, Nat.reduceEqDiff])
        refine hK8 _ _ ?_
        refine wp_seq_k (fun K10 hK10 => ?_)
        refine wp_block ?_
        refine wp_seq_k (fun K11 hK11 => ?_)
        refine wp_region_un (fun wq => Below w1.heap.size w1 wq) (fun w w' => Below w.heap.size w w')
          (fun V => [(fun x _ => x = (.string s)), (fun x _ => x = (.int .i64 ((k : Nat) : Int))), (fun x _ => x = (.int .u8 ((sbt s k : Nat) : Int))), (fun x _ => x = (.int .i64 ((nib (sbt s k))))), (fun x _ => x = (.string s)), (fun x _ => x = (.int .i64 ((k : Nat) : Int))), (fun x _ => x = (.int .i64 (((k : Nat) : Int) + (1 : Int)))), (fun x _ => x = (.int .u8 ((sbt s (k + 1) : Nat) : Int))), (fun x _ => x = (.int .i64 ((nib (sbt s (k + 1)))))), (fun x _ => x = (.int .i64 ((nib (sbt s k))))), (fun x _ => x = (.int .i64 ((nib (sbt s (k + 1))))))])
          []
          [[], [], [0, 1], [2], [], [], [5], [4, 6], [3, 7], [0, 1, 2, 3, 8], [0, 1, 2, 3, 4, 5, 6, 7, 8, 9]]
          hf (by kernel_rfl) (by kernel_rfl) (fun _ => rfl) ((Below.refl _ _).drew) (fun a b h1 h2 => h1.trans (h2.mono h1.size)) (fun _ _ h => h.size) (fun V => ⟨kept_eq, kept_eq, kept_eq, kept_eq, kept_eq, kept_eq, kept_eq, kept_eq, kept_eq, kept_eq, kept_eq, trivial⟩) (fun _ _ _ _ _ => rfl) ?_ ?_
        · skip
          intro V
          refine ⟨fun wu0 hC hd => ?_, ?_⟩
          · clear hd
            replace hb := hb.trans (hC.mono hb.size)
            replace hro := Row.ext hro hC
            exact Runs.does (r_move rfl) ⟨Below.refl _ _, rfl, nofr rfl⟩
          refine ⟨fun wu1 hC hd => ?_, ?_⟩
          · clear hd
            replace hb := hb.trans (hC.mono hb.size)
            replace hro := Row.ext hro hC
            exact Runs.does (r_move rfl) ⟨Below.refl _ _, rfl, nofr rfl⟩
          refine ⟨fun wu2 hC hd => ?_, ?_⟩
          · obtain ⟨h0, h1, _⟩ := hd
            skip
            skip
            replace h0 : V 0 = (.string s) := h0
            replace h1 : V 1 = (.int .i64 ((k : Nat) : Int)) := h1
            replace hb := hb.trans (hC.mono hb.size)
            replace hro := Row.ext hro hC
            exact Runs.does (r_sindexD (j := k) (congrArg some h0) (congrArg some h1) Try.underlying9 rfl (by omega)) ⟨Below.refl _ _, rfl, nofr rfl⟩
          refine ⟨fun wu3 hC hd => ?_, ?_⟩
          · obtain ⟨h2, _⟩ := hd
            skip
            replace h2 : V 2 = (.int .u8 ((sbt s k : Nat) : Int)) := h2
            replace hb := hb.trans (hC.mono hb.size)
            replace hro := Row.ext hro hC
            refine Does.mono (d_callS (vs := [(.int .u8 ((sbt s k : Nat) : Int))]) (show [some (V 2)] = [some (.int .u8 ((sbt s k : Nat) : Int))] from by rw [h2]) Try.func66 (by kernel_rfl) (by kernel_rfl) (nibble_any (sbt s k) (sbt_lt _ _) _)) (fun _ _ h => ⟨h.2 ▸ Below.refl _ _, h.1, nofr rfl⟩)
          refine ⟨fun wu4 hC hd => ?_, ?_⟩
          · clear hd
            replace hb := hb.trans (hC.mono hb.size)
            replace hro := Row.ext hro hC
            exact Runs.does (r_move rfl) ⟨Below.refl _ _, rfl, nofr rfl⟩
          refine ⟨fun wu5 hC hd => ?_, ?_⟩
          · clear hd
            replace hb := hb.trans (hC.mono hb.size)
            replace hro := Row.ext hro hC
            exact Runs.does (r_move rfl) ⟨Below.refl _ _, rfl, nofr rfl⟩
          refine ⟨fun wu6 hC hd => ?_, ?_⟩
          · obtain ⟨h5, _⟩ := hd
            skip
            replace h5 : V 5 = (.int .i64 ((k : Nat) : Int)) := h5
            replace hb := hb.trans (hC.mono hb.size)
            replace hro := Row.ext hro hC
            exact Runs.does (r_add (C := (((k : Nat) : Int) + (1 : Int))) (congrArg some h5) rfl (by rw [IntKind.wrap_i64]; omega)) ⟨Below.refl _ _, rfl, nofr rfl⟩
          refine ⟨fun wu7 hC hd => ?_, ?_⟩
          · obtain ⟨h4, h6, _⟩ := hd
            skip
            skip
            replace h4 : V 4 = (.string s) := h4
            replace h6 : V 6 = (.int .i64 (((k : Nat) : Int) + (1 : Int))) := h6
            replace hb := hb.trans (hC.mono hb.size)
            replace hro := Row.ext hro hC
            exact Runs.does (r_sindexD (j := (k + 1)) (congrArg some h4) (congrArg some h6) Try.underlying9 rfl (by omega)) ⟨Below.refl _ _, rfl, nofr rfl⟩
          refine ⟨fun wu8 hC hd => ?_, ?_⟩
          · obtain ⟨h3, h7, _⟩ := hd
            skip
            skip
            replace h3 : V 3 = (.int .i64 ((nib (sbt s k)))) := h3
            replace h7 : V 7 = (.int .u8 ((sbt s (k + 1) : Nat) : Int)) := h7
            replace hb := hb.trans (hC.mono hb.size)
            replace hro := Row.ext hro hC
            refine Does.mono (d_callS (vs := [(.int .u8 ((sbt s (k + 1) : Nat) : Int))]) (show [some (V 7)] = [some (.int .u8 ((sbt s (k + 1) : Nat) : Int))] from by rw [h7]) Try.func66 (by kernel_rfl) (by kernel_rfl) (nibble_any (sbt s (k + 1)) (sbt_lt _ _) _)) (fun _ _ h => ⟨h.2 ▸ Below.refl _ _, h.1, nofr rfl⟩)
          refine ⟨fun wu9 hC hd => ?_, ?_⟩
          · obtain ⟨h0, h1, h2, h3, h8, _⟩ := hd
            skip
            skip
            skip
            skip
            skip
            replace h0 : V 0 = (.string s) := h0
            replace h1 : V 1 = (.int .i64 ((k : Nat) : Int)) := h1
            replace h2 : V 2 = (.int .u8 ((sbt s k : Nat) : Int)) := h2
            replace h3 : V 3 = (.int .i64 ((nib (sbt s k)))) := h3
            replace h8 : V 8 = (.int .i64 ((nib (sbt s (k + 1))))) := h8
            replace hb := hb.trans (hC.mono hb.size)
            replace hro := Row.ext hro hC
            exact Runs.does (r_assign (congrArg some h3)) ⟨Below.refl _ _, rfl, nofr rfl⟩
          refine ⟨fun wu10 hC hd => ?_, ?_⟩
          · obtain ⟨h0, h1, h2, h3, h4, h5, h6, h7, h8, h9, _⟩ := hd
            skip
            skip
            skip
            skip
            skip
            skip
            skip
            skip
            skip
            skip
            replace h0 : V 0 = (.string s) := h0
            replace h1 : V 1 = (.int .i64 ((k : Nat) : Int)) := h1
            replace h2 : V 2 = (.int .u8 ((sbt s k : Nat) : Int)) := h2
            replace h3 : V 3 = (.int .i64 ((nib (sbt s k)))) := h3
            replace h4 : V 4 = (.string s) := h4
            replace h5 : V 5 = (.int .i64 ((k : Nat) : Int)) := h5
            replace h6 : V 6 = (.int .i64 (((k : Nat) : Int) + (1 : Int))) := h6
            replace h7 : V 7 = (.int .u8 ((sbt s (k + 1) : Nat) : Int)) := h7
            replace h8 : V 8 = (.int .i64 ((nib (sbt s (k + 1))))) := h8
            replace h9 : V 9 = (.int .i64 ((nib (sbt s k)))) := h9
            replace hb := hb.trans (hC.mono hb.size)
            replace hro := Row.ext hro hC
            exact Runs.does (r_assign (congrArg some h8)) ⟨Below.refl _ _, rfl, nofr rfl⟩
          trivial
        · skip
          clear hf fa; intro V w2 fa he1 hp hnb hf
          have hv0 : V 0 = (.string s) := postsHold_at hp 0 rfl
          have hv1 : V 1 = (.int .i64 ((k : Nat) : Int)) := postsHold_at hp 1 rfl
          have hv2 : V 2 = (.int .u8 ((sbt s k : Nat) : Int)) := postsHold_at hp 2 rfl
          have hv3 : V 3 = (.int .i64 ((nib (sbt s k)))) := postsHold_at hp 3 rfl
          have hv4 : V 4 = (.string s) := postsHold_at hp 4 rfl
          have hv5 : V 5 = (.int .i64 ((k : Nat) : Int)) := postsHold_at hp 5 rfl
          have hv6 : V 6 = (.int .i64 (((k : Nat) : Int) + (1 : Int))) := postsHold_at hp 6 rfl
          have hv7 : V 7 = (.int .u8 ((sbt s (k + 1) : Nat) : Int)) := postsHold_at hp 7 rfl
          have hv8 : V 8 = (.int .i64 ((nib (sbt s (k + 1))))) := postsHold_at hp 8 rfl
          have hv9 : V 9 = (.int .i64 ((nib (sbt s k)))) := postsHold_at hp 9 rfl
          have hv10 : V 10 = (.int .i64 ((nib (sbt s (k + 1))))) := postsHold_at hp 10 rfl
          simp only [List.take_succ_cons, List.take_zero, insAll, ins, hv0, hv1, hv2, hv3, hv4, hv5, hv6, hv7, hv8, hv9, hv10] at hf
          clear hp hnb hv0 hv1 hv2 hv3 hv4 hv5 hv6 hv7 hv8 hv9 hv10
          replace hro := Row.ext hro he1
          replace hb := hb.trans (Below.mono he1 hb.size)
          (try simp only [Exit.then, Exit.inBlock, ↓reduceIte, Nat.reduceEqDiff])
          refine hK11 _ _ ?_
          refine wp_seq_k (fun K12 hK12 => ?_)
          refine wp_seq_k (fun K13 hK13 => ?_)
          refine wp_region_lit ?_
          refine sqv hf (r_move rfl) rfl rfl rfl ?_; clear hf fa; intro fa hf
          refine sqv hf (r_lt rfl rfl) rfl rfl rfl ?_; clear hf fa; intro fa hf
          refine sqv hf (r_move rfl) rfl rfl rfl ?_; clear hf fa; intro fa hf
          refine sqgF (act := (!(decide (((nib (sbt s k))) < (0 : Int))))) (ag := true) (c := (decide (((nib (sbt s k))) < (0 : Int)))) (v := (.int .i64 ((nib (sbt s (k + 1)))))) hf rfl rfl rfl (fun hact => (r_move rfl)) rfl rfl ?_; clear hf fa; intro fa hf
          refine sqgF (act := (!(decide (((nib (sbt s k))) < (0 : Int))))) (ag := true) (c := (decide (((nib (sbt s k))) < (0 : Int)))) (v := (.bool (decide (((nib (sbt s (k + 1)))) < (0 : Int))))) hf rfl rfl rfl (fun hact => (r_lt (gb_ev hact rfl) rfl)) rfl rfl ?_; clear hf fa; intro fa hf
          refine sqv hf (r_pickO (b := (decide (((nib (sbt s k))) < (0 : Int)))) (e := (decide (((nib (sbt s (k + 1)))) < (0 : Int)))) rfl rfl rfl) rfl rfl rfl ?_; clear hf fa; intro fa hf
          apply wpList_nil
          (try simp only [Exit.then, Exit.inBlock, ↓reduceIte, Nat.reduceEqDiff])
          refine hK13 _ _ ?_
          refine wp_cond_split (t := ((decide (((nib (sbt s k))) < (0 : Int))) || (decide (((nib (sbt s (k + 1)))) < (0 : Int))))) (hf.ev rfl) (fun hqt31_1 => ?_) (fun hqt31_1 => ?_)
          · have hqt31_1b := hqt31_1
            try simp only [decide_eq_true_eq, Bool.and_eq_true, Bool.or_eq_true, Bool.not_eq_true', decide_eq_false_iff_not, ne_eq, Bool.not_eq_true] at hqt31_1
            refine wp_seq_k (fun K14 hK14 => ?_)
            refine wp_region_lit ?_
            refine sqv hf (r_assign rfl) rfl rfl rfl ?_; clear hf fa; intro fa hf
            refine sqv hf (r_assign rfl) rfl rfl rfl ?_; clear hf fa; intro fa hf
            apply wpList_nil
            (try simp only [Exit.then, Exit.inBlock, ↓reduceIte, Nat.reduceEqDiff])
            refine hK14 _ _ ?_
            refine wp_ret ?_
            (try simp only [Exit.then, Exit.inBlock])
            refine ret2 hf rfl rfl rfl ?_
            rw [hexP_none hqt9_1 (hexL_no (by have h := Hs; rw [drop2 (by omega)] at h; exact h) (by have h := hqt31_1; omega))]; exact ⟨_, rfl, Row.nil, hb⟩
          · have hqt31_1b := hqt31_1
            replace hqt31_1 := Bool.eq_false_iff.1 hqt31_1
            try simp only [ne_eq, decide_eq_true_eq, Bool.and_eq_true, Bool.or_eq_true, Bool.not_eq_true', decide_eq_false_iff_not] at hqt31_1
            refine wp_skip ?_
            (try simp only [Exit.then, Exit.inBlock, ↓reduceIte, Nat.reduceEqDiff])
            refine hK12 _ _ ?_
            obtain ⟨x1, hx1, hx1l⟩ := nib_ge (c := sbt s k) (by have h := hqt31_1; omega)
            obtain ⟨x2, hx2, hx2l⟩ := nib_ge (c := sbt s (k + 1)) (by have h := hqt31_1; omega)
            refine wp_region_lit ?_
            refine sqv hf (r_move rfl) rfl rfl rfl ?_; clear hf fa; intro fa hf
            refine sqv hf (r_move rfl) rfl rfl rfl ?_; clear hf fa; intro fa hf
            refine sqv hf (r_shl (n := 4) (C := (((x1 * 16) : Nat) : Int)) rfl rfl rfl (by rw [hx1, show min 4 IntKind.i64.bits = 4 by decide, IntKind.wrap_i64]; omega)) rfl rfl rfl ?_; clear hf fa; intro fa hf
            refine sqv hf (r_move rfl) rfl rfl rfl ?_; clear hf fa; intro fa hf
            refine sqv hf (r_or (C := (((x1 * 16 + x2) : Nat) : Int)) rfl rfl (by rw [hx2]; exact or_i64 x1 x2 hx1l hx2l)) rfl rfl rfl ?_; clear hf fa; intro fa hf
            refine sqv hf (r_conv (C := (((x1 * 16 + x2) : Nat) : Int)) rfl Try.underlying3 Try.underlying5 (by rw [IntKind.wrap_u8]; omega)) rfl rfl rfl ?_; clear hf fa; intro fa hf
            refine sqdt hf (d_bslice (z := (.int .u8 (0 : Int))) (sz := 1) (vs := [(0, (.int .u8 (((x1 * 16 + x2) : Nat) : Int)))]) (cs := #[(.int .u8 (((x1 * 16 + x2) : Nat) : Int))]) rfl Try.underlying43 (by kernel_rfl) rfl (by kernel_rfl)) rfl rfl rfl ?_; clear hf fa; rintro fa _ w3 ⟨b1, rfl, hle1, hk1, he2⟩ hf
            have hBb1 : w.heap.size ≤ b1 := Nat.le_trans hb.size hle1
            have hnr1 : (Value.slice roa ((((nI o)).length)) roc).ownBlock ≠ some b1 := fun hq => by have := (Row.lt hro _ hq).2; omega
            have hnl1 : ∀ q, (Value.slice roa ((((nI o)).length)) roc).ownBlock = some q → q < b1 := fun q hq => Nat.lt_of_lt_of_le (Row.lt hro q hq).2 hle1
            replace hro := Row.ext hro he2
            replace hb := hb.trans (Below.mono he2 hb.size)
            have hs1 := Row.rd (by intros; rfl) (Row.of_new (k := 1) (V := (vInt .u8)) (l := [(((x1 * 16 + x2) : Nat) : Int)]) hk1 (Nat.le_refl _) rfl rfl (Nat.le_of_ble_eq_true rfl))
            refine sqdt hf (d_append (V := (vInt .u8)) (k := 1) (e := 5) (bytes := 1) (z := (.int .u8 (0 : Int))) (news := [(((x1 * 16 + x2) : Nat) : Int)]) (base := w.heap.size) (by intros; rfl) (by intro x u hu; simp only [vInt, List.mem_singleton] at hu; subst hu; rfl) rfl rfl Try.underlying43 (by kernel_rfl) rfl rfl rfl hro hs1 rfl (fun h => by cases h) (by first | omega | (simp only [List.length_cons, List.length_nil, List.length_append, nums_len]; omega)) (by have := hb.size; omega)) rfl rfl rfl ?_; clear hf fa; rintro fa v w4 ⟨hr1, hg1⟩ hf; obtain ⟨ra1, rc1, rfl, hcrc1, hmrc1⟩ := Row.slice hr1
            replace hb := hb.trans (row_below hro hg1 hb.size (by have := hb.size; omega))
            refine sqv hf (r_assign rfl) rfl rfl rfl ?_; clear hf fa; intro fa hf
            apply wpList_nil
            (try simp only [Exit.then, Exit.inBlock, ↓reduceIte, Nat.reduceEqDiff])
            refine hK10 _ _ ?_
            refine wp_region_lit ?_
            refine sqv hf (r_move rfl) rfl rfl rfl ?_; clear hf fa; intro fa hf
            refine sqv hf (r_add (C := (((k : Nat) : Int) + (2 : Int))) rfl rfl (by rw [IntKind.wrap_i64]; omega)) rfl rfl rfl ?_; clear hf fa; intro fa hf
            refine sqv hf (r_assign rfl) rfl rfl rfl ?_; clear hf fa; intro fa hf
            apply wpList_nil
            (try simp only [Exit.then, Exit.inBlock, ↓reduceIte, Nat.reduceEqDiff])
            refine hKL1 _ _ _ (by omega) ⟨(k + 2), (o ++ [x1 * 16 + x2]), ra1, rc1, rfl, hf.sub ⟨rfl, (some_int (by first | rfl | omega)), (some_sl (by first | omega | rfl | (simp only [List.length_append, List.length_cons, List.length_nil]; omega) | (simp <;> omega)) rfl), trivial⟩, hb, (Row.relen (Row.eqL hr1 (by rw [nI_app]; rfl))), by omega, (by have h := Hs; rw [drop2 (by omega)] at h; exact hexL_go h hx1 hx2), by simp only [List.length_append, List.length_cons, List.length_nil]; omega⟩
      · have hqt14_1b := hqt14_1
        replace hqt14_1 := Bool.eq_false_iff.1 hqt14_1
        try simp only [ne_eq, decide_eq_true_eq, Bool.and_eq_true, Bool.or_eq_true, Bool.not_eq_true', decide_eq_false_iff_not] at hqt14_1
        refine wp_exit ?_
        (try simp only [Exit.then, Exit.inBlock, ↓reduceIte, Nat.reduceEqDiff])
        refine hK6 _ _ ?_
        refine wp_seq_k (fun K15 hK15 => ?_)
        refine wp_region_lit ?_
        refine sqv hf (r_move rfl) rfl rfl rfl ?_; clear hf fa; intro fa hf
        refine sqv hf (r_move rfl) rfl rfl rfl ?_; clear hf fa; intro fa hf
        refine sqv hf (r_lens rfl Try.underlying9) rfl rfl rfl ?_; clear hf fa; intro fa hf
        refine sqv hf (r_gt rfl rfl) rfl rfl rfl ?_; clear hf fa; intro fa hf
        refine sqv hf (r_move rfl) rfl rfl rfl ?_; clear hf fa; intro fa hf
        refine sqgT (act := (decide ((0 : Int) < ((s.size : Nat) : Int)))) (ag := true) (c := (decide ((0 : Int) < ((s.size : Nat) : Int)))) (v := (.string s)) hf rfl rfl rfl (fun hact => (r_move rfl)) rfl rfl ?_; clear hf fa; intro fa hf
        refine sqgT (act := (decide ((0 : Int) < ((s.size : Nat) : Int)))) (ag := true) (c := (decide ((0 : Int) < ((s.size : Nat) : Int)))) (v := (.int .i64 ((s.size : Nat) : Int))) hf rfl rfl rfl (fun hact => (r_lens (gb_ev hact rfl) Try.underlying9)) rfl rfl ?_; clear hf fa; intro fa hf
        refine sqgT (act := (decide ((0 : Int) < ((s.size : Nat) : Int)))) (ag := true) (c := (decide ((0 : Int) < ((s.size : Nat) : Int)))) (v := (.int .i64 (((s.size : Nat) : Int) % (2 : Int)))) hf rfl rfl rfl (fun hact => (by have hact0 := hact; (try simp only [Bool.and_eq_true, Bool.not_eq_true', Bool.or_eq_false_iff, Bool.or_eq_true, Bool.and_eq_false_iff, ne_eq, decide_eq_true_eq, decide_eq_false_iff_not] at hact0); exact (r_rem (C := (((s.size : Nat) : Int) % (2 : Int))) (gb_ev hact rfl) rfl (by omega) (Int.tmod_eq_emod_of_nonneg (by omega))))) rfl rfl ?_; clear hf fa; intro fa hf
        refine sqgT (act := (decide ((0 : Int) < ((s.size : Nat) : Int)))) (ag := true) (c := (decide ((0 : Int) < ((s.size : Nat) : Int)))) (v := (.bool (decide ((((s.size : Nat) : Int) % (2 : Int)) = (0 : Int))))) hf rfl rfl rfl (fun hact => (r_eq (gb_ev hact rfl) rfl)) rfl rfl ?_; clear hf fa; intro fa hf
        refine sqv hf (r_pickA (b := (decide ((0 : Int) < ((s.size : Nat) : Int)))) (e := (decide ((((s.size : Nat) : Int) % (2 : Int)) = (0 : Int)))) rfl rfl rfl) rfl rfl rfl ?_; clear hf fa; intro fa hf
        refine sqv hf (r_assign rfl) rfl rfl rfl ?_; clear hf fa; intro fa hf
        refine sqv hf (r_assign rfl) rfl rfl rfl ?_; clear hf fa; intro fa hf
        apply wpList_nil
        (try simp only [Exit.then, Exit.inBlock, ↓reduceIte, Nat.reduceEqDiff])
        refine hK15 _ _ ?_
        refine wp_ret ?_
        (try simp only [Exit.then, Exit.inBlock])
        refine ret2 hf rfl rfl rfl ?_
        rw [hexP_out hqt9_1 (hexL_end Hs (by rw [List.length_drop, bl_length]; omega))]; exact ⟨_, rfl, hro, hb⟩

end Go.Proofs.Ytpalmpfkliepfaa
