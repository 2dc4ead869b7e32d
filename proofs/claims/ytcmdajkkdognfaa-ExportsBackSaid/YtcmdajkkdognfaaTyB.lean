/- What is proved here: names of types and texts, by the program and by the document. -/
import Derived.Test.YtcmdajkkdognfaaTyA
import Derived.Test.YtcmdajkkdognfaaTyS
namespace Go.Proofs.Ytcmdajkkdognfaa
open Go.RowKit
set_option linter.unusedVariables false
set_option linter.unusedSimpArgs false
def joinS (xs : List ByteArray) : ByteArray := ⟨(Lib.join (xs.map (·.data.toList)) [44]).toArray⟩
def namesL (l : List Int) : List ByteArray := l.map tnameP
@[simp] theorem namesL_nil : namesL [] = [] := rfl
theorem tname_le (b : Int) : (tnameP b).size ≤ 7 := by
  unfold tnameP
  generalize decide (b = 127) = a1
  generalize decide (b = 126) = a2
  generalize decide (b = 125) = a3
  generalize decide (b = 124) = a4
  generalize decide (b = 112) = a5
  cases a1 <;> cases a2 <;> cases a3 <;> cases a4 <;> cases a5 <;> decide
theorem lens_le {xs : List ByteArray} (h : ∀ x ∈ xs, x.size ≤ 7) : Lib.lens (xs.map (·.data.toList)) ≤ 7 * xs.length := by
  induction xs with
  | nil => simp [Lib.lens]
  | cons x xs ih =>
    have h1 := h x List.mem_cons_self
    have h2 := ih (fun y hy => h y (List.mem_cons_of_mem _ hy))
    have h3 : Lib.lens ((x :: xs).map (·.data.toList)) = x.data.toList.length + Lib.lens (xs.map (·.data.toList)) := by simp [Lib.lens]
    rw [h3, Array.length_toList]
    have h4 : x.data.size = x.size := rfl
    simp only [List.length_cons]
    omega
theorem join_le {xs : List ByteArray} (h : ∀ x ∈ xs, x.size ≤ 7) : (joinS xs).size ≤ 8 * xs.length ∧ (Lib.join (xs.map (·.data.toList)) [44]).length ≤ 8 * xs.length := by
  have key : (Lib.join (xs.map (·.data.toList)) [44]).length ≤ 8 * xs.length := by
    cases xs with
    | nil => simp [Lib.join_nil]
    | cons x xs =>
      have h2 := lens_le h
      rw [List.map_cons, Lib.join_length]
      rw [List.map_cons] at h2
      simp only [List.length_cons, List.length_nil, List.length_map] at h2 ⊢
      omega
  refine ⟨?_, key⟩
  have : (joinS xs).size = (Lib.join (xs.map (·.data.toList)) [44]).length := by unfold joinS; simp [ByteArray.size]
  omega
theorem joinS_snoc (xs : List ByteArray) (x : ByteArray) : joinS (xs ++ [x]) = (if xs = [] then joinS xs else joinS xs ++ (⟨#[44]⟩ : ByteArray)) ++ x := by
  apply ByteArray.ext
  cases xs with
  | nil => rw [if_pos rfl, ByteArray.data_append]; simp [joinS, Lib.join_nil, Lib.join_one]
  | cons y ys =>
    rw [if_neg (by simp), ByteArray.data_append, ByteArray.data_append]
    unfold joinS
    simp only [List.map_cons, List.cons_append, List.map_append, List.map_nil, Lib.join_cons]
    simp [Lib.joinTail]
theorem join_row {a : Option Addr} {n c base : Nat} {xs : List ByteArray} (w : World) (h : Row 1 vStr 9 base w (.slice a n c) xs) (hn : n = xs.length) (hl : xs.length ≤ 2000) (hx : ∀ x ∈ xs, x.size ≤ 7) :
    Calls Try.prog 149 #[.slice a n c, .string ⟨#[44]⟩] w fun e w' => e = .returned (.string (joinS xs)) ∧ Below w.heap.size w w' := by
  subst hn
  by_cases h0 : xs = []
  · subst h0
    refine (sh_strings_Join_none a c ⟨#[44]⟩ w).mono ?_
    rintro e w' ⟨h1, rfl⟩
    exact ⟨h1, Below.refl _ _⟩
  · have hp : 0 < xs.length := List.length_pos_iff.2 h0
    obtain ⟨b, rfl, hb1, hb2⟩ := Row.some h hp
    have hj := (join_le hx).2
    refine (sh_strings_Join b 0 c xs ⟨#[44]⟩ w ?_ hb2 (by omega) (by have := Row.caps h; omega) (by show (Lib.join (xs.map (·.data.toList)) [44]).length ≤ _; omega)).mono ?_
    · intro j x hj
      obtain ⟨b', off, ha, _, hc⟩ := RdS.at (Row.rd (by intros; rfl) h) hj
      cases ha
      have := hc 0 (.string x) rfl
      rwa [show 0 + j * 1 + 0 = 0 + j by omega] at this
    · rintro e w' ⟨h1, h2⟩
      exact ⟨h1, h2⟩

def rnameP (b : Int) : ByteArray :=
  bif ((decide ((124 : Int) ≤ b)) && (decide (b ≤ (127 : Int)))) then ([⟨#[105, 51, 50]⟩, ⟨#[105, 54, 52]⟩, ⟨#[102, 51, 50]⟩, ⟨#[102, 54, 52]⟩].getD (127 - (b).toNat) (⟨#[]⟩ : ByteArray))
  else bif (decide (b = (112 : Int))) then ⟨#[102, 117, 110, 99, 114, 101, 102]⟩
  else ⟨#[63]⟩

set_option maxHeartbeats 1000000 in
set_option maxRecDepth 100000 in
theorem rname_any (b : Int) (w : World) (hb0 : -1000 ≤ b ∧ b ≤ 1000) : Calls Try.prog 41 #[(.int .i64 b)] w fun e w' => e = .returned (.string (rnameP b)) ∧ Below w.heap.size w w' := by
  refine sx_enter (L := [(0, (.int .i64 b))]) Try.func41 rfl rfl rfl rfl (fun fa hf => ?_)
  have hb : Below w.heap.size w w := Below.refl _ _
  refine wp_seq_k (fun K1 hK1 => ?_)
  refine wp_region_lit ?_
  refine sqv hf (r_assign rfl) rfl rfl rfl ?_; clear hf fa; intro fa hf
  apply wpList_nil
  (try simp only [Exit.then, Exit.inBlock, ↓reduceIte, Nat.reduceEqDiff])
  refine hK1 _ _ ?_
  refine wp_seq_k (fun K2 hK2 => ?_)
  refine wp_region_lit ?_
  refine sqdt hf (d_bslice (z := (.string ⟨#[]⟩)) (sz := 1) (vs := [(0, (.string ⟨#[105, 51, 50]⟩)), (1, (.string ⟨#[105, 54, 52]⟩)), (2, (.string ⟨#[102, 51, 50]⟩)), (3, (.string ⟨#[102, 54, 52]⟩))]) (cs := #[(.string ⟨#[105, 51, 50]⟩), (.string ⟨#[105, 54, 52]⟩), (.string ⟨#[102, 51, 50]⟩), (.string ⟨#[102, 54, 52]⟩)]) rfl Try.underlying33 (by kernel_rfl) rfl (by kernel_rfl)) rfl rfl rfl ?_; clear hf fa; rintro fa _ w1 ⟨b1, rfl, hle1, hk1, he1⟩ hf
  have hBb1 : w.heap.size ≤ b1 := Nat.le_trans hb.size hle1
  replace hb := hb.trans (Below.mono he1 hb.size)
  refine sqv hf (r_assign rfl) rfl rfl rfl ?_; clear hf fa; intro fa hf
  apply wpList_nil
  (try simp only [Exit.then, Exit.inBlock, ↓reduceIte, Nat.reduceEqDiff])
  refine hK2 _ _ ?_
  refine wp_seq_k (fun K3 hK3 => ?_)
  refine wp_seq_k (fun K4 hK4 => ?_)
  refine wp_region_lit ?_
  refine sqv hf (r_move rfl) rfl rfl rfl ?_; clear hf fa; intro fa hf
  refine sqv hf (r_ge rfl rfl) rfl rfl rfl ?_; clear hf fa; intro fa hf
  refine sqv hf (r_move rfl) rfl rfl rfl ?_; clear hf fa; intro fa hf
  refine sqgT (act := (decide ((124 : Int) ≤ b))) (ag := true) (c := (decide ((124 : Int) ≤ b))) (v := (.int .i64 b)) hf rfl rfl rfl (fun hact => (r_move rfl)) rfl rfl ?_; clear hf fa; intro fa hf
  refine sqgT (act := (decide ((124 : Int) ≤ b))) (ag := true) (c := (decide ((124 : Int) ≤ b))) (v := (.bool (decide (b ≤ (127 : Int))))) hf rfl rfl rfl (fun hact => (r_le (gb_ev hact rfl) rfl)) rfl rfl ?_; clear hf fa; intro fa hf
  refine sqv hf (r_pickA (b := (decide ((124 : Int) ≤ b))) (e := (decide (b ≤ (127 : Int)))) rfl rfl rfl) rfl rfl rfl ?_; clear hf fa; intro fa hf
  apply wpList_nil
  (try simp only [Exit.then, Exit.inBlock, ↓reduceIte, Nat.reduceEqDiff])
  refine hK4 _ _ ?_
  refine wp_cond_split (t := ((decide ((124 : Int) ≤ b)) && (decide (b ≤ (127 : Int))))) (hf.ev rfl) (fun hqt10_1 => ?_) (fun hqt10_1 => ?_)
  · have hqt10_1b := hqt10_1
    try simp only [decide_eq_true_eq, Bool.and_eq_true, Bool.or_eq_true, Bool.not_eq_true', decide_eq_false_iff_not, ne_eq, Bool.not_eq_true] at hqt10_1
    refine wp_seq_k (fun K5 hK5 => ?_)
    have hr1 := Row.of_new (k := 1) (V := vStr) (l := [⟨#[105, 51, 50]⟩, ⟨#[105, 54, 52]⟩, ⟨#[102, 51, 50]⟩, ⟨#[102, 54, 52]⟩]) (base := w.heap.size) hk1 (by omega) rfl rfl (Nat.le_of_ble_eq_true rfl)
    skip
    refine wp_region_lit ?_
    refine sqv hf (r_move rfl) rfl rfl rfl ?_; clear hf fa; intro fa hf
    refine sqv hf (r_move rfl) rfl rfl rfl ?_; clear hf fa; intro fa hf
    refine sqv hf (r_sub (C := ((127 : Int) - b)) rfl rfl (by rw [IntKind.wrap_i64]; omega)) rfl rfl rfl ?_; clear hf fa; intro fa hf
    have hy1 := getD_at (l := [⟨#[105, 51, 50]⟩, ⟨#[105, 54, 52]⟩, ⟨#[102, 51, 50]⟩, ⟨#[102, 54, 52]⟩]) (j := (127 - (b).toNat)) (⟨#[]⟩ : ByteArray) (by first | omega | (simp only [Sl.list_length, List.length_set, List.length_take, List.length_append, List.length_replicate, List.length_cons, List.length_nil, List.length_map, nums_len]; omega))
    have hel1 := RdS.at (Row.rd (by intros; rfl) hr1) hy1
    obtain ⟨_, _, hab, hlr1, hel1⟩ := hel1
    cases hab
    refine sqv hf (r_ixa (sz := 1) (j := (127 - (b).toNat)) rfl rfl Try.underlying33 (by kernel_rfl) (by omega) (by omega) rfl) rfl rfl rfl ?_; clear hf fa; intro fa hf
    refine sqv hf (r_load (v := (.string ([⟨#[105, 51, 50]⟩, ⟨#[105, 54, 52]⟩, ⟨#[102, 51, 50]⟩, ⟨#[102, 54, 52]⟩].getD (127 - (b).toNat) (⟨#[]⟩ : ByteArray)))) rfl Try.underlying9 rfl (cellsAt_cell hel1 (i := 0) rfl rfl)) rfl rfl rfl ?_; clear hf fa; intro fa hf
    refine sqv hf (r_assign rfl) rfl rfl rfl ?_; clear hf fa; intro fa hf
    apply wpList_nil
    (try simp only [Exit.then, Exit.inBlock, ↓reduceIte, Nat.reduceEqDiff])
    refine hK5 _ _ ?_
    refine wp_ret ?_
    (try simp only [Exit.then, Exit.inBlock])
    refine ret1 hf rfl rfl ?_
    refine ⟨?_, hb⟩; unfold rnameP; rw [hqt10_1b]; (try rfl)
  · have hqt10_1b := hqt10_1
    replace hqt10_1 := Bool.eq_false_iff.1 hqt10_1
    try simp only [ne_eq, decide_eq_true_eq, Bool.and_eq_true, Bool.or_eq_true, Bool.not_eq_true', decide_eq_false_iff_not] at hqt10_1
    refine wp_skip ?_
    (try simp only [Exit.then, Exit.inBlock, ↓reduceIte, Nat.reduceEqDiff])
    refine hK3 _ _ ?_
    refine wp_seq_k (fun K6 hK6 => ?_)
    refine wp_seq_k (fun K7 hK7 => ?_)
    refine wp_region_lit ?_
    refine sqv hf (r_move rfl) rfl rfl rfl ?_; clear hf fa; intro fa hf
    refine sqv hf (r_eq rfl rfl) rfl rfl rfl ?_; clear hf fa; intro fa hf
    apply wpList_nil
    (try simp only [Exit.then, Exit.inBlock, ↓reduceIte, Nat.reduceEqDiff])
    refine hK7 _ _ ?_
    refine wp_cond_split (t := (decide (b = (112 : Int)))) (hf.ev rfl) (fun hqt17_1 => ?_) (fun hqt17_1 => ?_)
    · have hqt17_1b := hqt17_1
      try simp only [decide_eq_true_eq, Bool.and_eq_true, Bool.or_eq_true, Bool.not_eq_true', decide_eq_false_iff_not, ne_eq, Bool.not_eq_true] at hqt17_1
      refine wp_seq_k (fun K8 hK8 => ?_)
      refine wp_region_lit ?_
      refine sqv hf (r_assign rfl) rfl rfl rfl ?_; clear hf fa; intro fa hf
      apply wpList_nil
      (try simp only [Exit.then, Exit.inBlock, ↓reduceIte, Nat.reduceEqDiff])
      refine hK8 _ _ ?_
      refine wp_ret ?_
      (try simp only [Exit.then, Exit.inBlock])
      refine ret1 hf rfl rfl ?_
      refine ⟨?_, hb⟩; unfold rnameP; rw [hqt10_1b, hqt17_1b]; (try rfl)
    · have hqt17_1b := hqt17_1
      replace hqt17_1 := Bool.eq_false_iff.1 hqt17_1
      try simp only [ne_eq, decide_eq_true_eq, Bool.and_eq_true, Bool.or_eq_true, Bool.not_eq_true', decide_eq_false_iff_not] at hqt17_1
      refine wp_skip ?_
      (try simp only [Exit.then, Exit.inBlock, ↓reduceIte, Nat.reduceEqDiff])
      refine hK6 _ _ ?_
      refine wp_seq_k (fun K9 hK9 => ?_)
      refine wp_region_lit ?_
      refine sqv hf (r_assign rfl) rfl rfl rfl ?_; clear hf fa; intro fa hf
      apply wpList_nil
      (try simp only [Exit.then, Exit.inBlock, ↓reduceIte, Nat.reduceEqDiff])
      refine hK9 _ _ ?_
      refine wp_ret ?_
      (try simp only [Exit.then, Exit.inBlock])
      refine ret1 hf rfl rfl ?_
      refine ⟨?_, hb⟩; unfold rnameP; rw [hqt10_1b, hqt17_1b]; (try rfl)

theorem rname_eq (b : Int) : rnameP b = tnameP b := by
  unfold rnameP tnameP
  by_cases h1 : b = 127
  · subst h1; decide
  · by_cases h2 : b = 126
    · subst h2; decide
    · by_cases h3 : b = 125
      · subst h3; decide
      · by_cases h4 : b = 124
        · subst h4; decide
        · have h5 : (decide (124 ≤ b) && decide (b ≤ 127)) = false := by simp; omega
          rw [h5]; simp [h1, h2, h3, h4]
theorem rname2_any (b : Int) (w : World) (hb0 : -1000 ≤ b ∧ b ≤ 1000) : Calls Try.prog 41 #[.int .i64 b] w fun e w' => e = .returned (.string (tnameP b)) ∧ Below w.heap.size w w' := by
  have h := rname_any b w hb0
  rw [rname_eq] at h
  exact h
theorem namesL_snoc {l : List Int} {k : Nat} {y : Int} (h : l[k]? = some y) : namesL (l.take k) ++ [tnameP y] = namesL (l.take (k + 1)) := by
  unfold namesL
  rw [List.take_add_one, h, List.map_append]; rfl
theorem namesL_len (l : List Int) (k : Nat) : (namesL (l.take k)).length ≤ k ∧ (namesL (l.take k)).length ≤ l.length := by
  unfold namesL
  rw [List.length_map, List.length_take]; omega
theorem namesL_le (l : List Int) : ∀ x ∈ namesL l, x.size ≤ 7 := by
  intro x hx
  obtain ⟨y, _, rfl⟩ := List.mem_map.1 hx
  exact tname_le y
theorem rowToN {α : Type} {k e base n c : Nat} {V : α → List Value} {w : World} {a : Option Addr} {l l' : List α} (h : Row k V e base w (.slice a n c) l) (he : l = l') : Row k V e base w (.slice a l'.length c) l' := he ▸ h.relen
def listP (s : ByteArray) : ByteArray := joinS (namesL (nums s))
theorem listP_le (s : ByteArray) : (listP s).size ≤ 8 * s.size := by
  have h := (join_le (namesL_le (nums s))).1
  have h2 : (namesL (nums s)).length = s.size := by unfold namesL; rw [List.length_map, nums_len]
  unfold listP; omega
theorem take_all (s : ByteArray) {k : Nat} (h : s.size ≤ k) : (nums s).take k = nums s := List.take_of_length_le (by rw [nums_len]; exact h)

set_option maxHeartbeats 1000000 in
set_option maxRecDepth 100000 in
theorem list_any (s : ByteArray) (w : World) (hs : s.size ≤ 1200) : Calls Try.prog 112 #[(.string s)] w fun e w' => e = .returned (.string (listP s)) ∧ Below w.heap.size w w' := by
  refine sx_enter (L := [(0, (.string s))]) Try.func112 rfl rfl rfl rfl (fun fa hf => ?_)
  have hb : Below w.heap.size w w := Below.refl _ _
  refine wp_seq_k (fun K1 hK1 => ?_)
  refine wp_region_lit ?_
  refine sqv hf (r_assign rfl) rfl rfl rfl ?_; clear hf fa; intro fa hf
  apply wpList_nil
  (try simp only [Exit.then, Exit.inBlock, ↓reduceIte, Nat.reduceEqDiff])
  refine hK1 _ _ ?_
  refine wp_seq_k (fun K2 hK2 => ?_)
  refine wp_region_lit ?_
  refine sqv hf (r_assign rfl) rfl rfl rfl ?_; clear hf fa; intro fa hf
  apply wpList_nil
  (try simp only [Exit.then, Exit.inBlock, ↓reduceIte, Nat.reduceEqDiff])
  refine hK2 _ _ ?_
  refine wp_seq_k (fun K3 hK3 => ?_)
  refine wp_seq_k (fun K4 hK4 => ?_)
  refine wp_region_lit ?_
  refine sqv hf (r_move rfl) rfl rfl rfl ?_; clear hf fa; intro fa hf
  refine sqv hf (r_lens rfl Try.underlying9) rfl rfl rfl ?_; clear hf fa; intro fa hf
  refine sqv hf (r_move rfl) rfl rfl rfl ?_; clear hf fa; intro fa hf
  apply wpList_nil
  (try simp only [Exit.then, Exit.inBlock, ↓reduceIte, Nat.reduceEqDiff])
  refine hK4 _ _ ?_
  refine wp_block ?_
  refine wp_loop_k (fun mq fa wr => ∃ (k : Nat) (roa : Option Addr) (roc : Nat), mq = s.size - k ∧ Fr 20 fa [(0, (.string s)), (6, (.int .i64 ((s.size : Nat) : Int))), (7, (.int .i64 ((k : Nat) : Int))), (3, (.slice roa (((namesL ((nums s).take k))).length) roc))] ∧ Below w.heap.size w wr ∧ Row 1 vStr 9 (w.heap.size) wr (.slice roa (((namesL ((nums s).take k))).length) roc) (namesL ((nums s).take k)) ∧ (k ≤ s.size)) ?_ ?_
  · skip
    exact ⟨_, 0, none, 0, rfl, hf.sub ⟨rfl, rfl, (some_int (by first | rfl | omega)), (some_sl (by first | omega | (simp only [List.length_append, List.length_cons, List.length_nil]; omega) | (simp <;> omega)) rfl), trivial⟩, hb, Row.nil, by omega⟩
  · skip
    clear hf fa; intro mq1 fa w1 hI KL1 hKL1
    clear hb
    obtain ⟨k, roa, roc, hmq1, hf, hb, hro, hk⟩ := hI
    have hcro := Row.caps hro
    have hsb := sbt_lt s k; have hbl := namesL_len (nums s) k; have hnl := nums_len s
    refine wp_seq_k (fun K5 hK5 => ?_)
    refine wp_region_lit ?_
    refine sqv hf (r_lt rfl rfl) rfl rfl rfl ?_; clear hf fa; intro fa hf
    apply wpList_nil
    (try simp only [Exit.then, Exit.inBlock, ↓reduceIte, Nat.reduceEqDiff])
    refine hK5 _ _ ?_
    refine wp_seq_k (fun K6 hK6 => ?_)
    refine wp_cond_split (t := (decide (((k : Nat) : Int) < ((s.size : Nat) : Int)))) (hf.ev rfl) (fun hqt8_1 => ?_) (fun hqt8_1 => ?_)
    · have hqt8_1b := hqt8_1
      try simp only [decide_eq_true_eq, Bool.and_eq_true, Bool.or_eq_true, Bool.not_eq_true', decide_eq_false_iff_not, ne_eq, Bool.not_eq_true] at hqt8_1
      refine wp_skip ?_
      (try simp only [Exit.then, Exit.inBlock, ↓reduceIte, Nat.reduceEqDiff])
      refine hK6 _ _ ?_
      refine wp_seq_k (fun K7 hK7 => ?_)
      refine wp_block ?_
      refine wp_seq_k (fun K8 hK8 => ?_)
      refine wp_region_lit ?_
      refine sqv hf (r_move rfl) rfl rfl rfl ?_; clear hf fa; intro fa hf
      refine sqv hf (r_assign rfl) rfl rfl rfl ?_; clear hf fa; intro fa hf
      apply wpList_nil
      (try simp only [Exit.then, Exit.inBlock, ↓reduceIte, Nat.reduceEqDiff])
      refine hK8 _ _ ?_
      refine wp_region_lit ?_
      refine sqv hf (r_move rfl) rfl rfl rfl ?_; clear hf fa; intro fa hf
      refine sqv hf (r_move rfl) rfl rfl rfl ?_; clear hf fa; intro fa hf
      refine sqv hf (r_move rfl) rfl rfl rfl ?_; clear hf fa; intro fa hf
      refine sqv hf (r_sindexD (j := k) rfl rfl Try.underlying9 rfl (by omega)) rfl rfl rfl ?_; clear hf fa; intro fa hf
      refine sqdt hf (d_callS (vs := [(.int .u8 ((sbt s k : Nat) : Int))]) rfl Try.func51 (by kernel_rfl) (by kernel_rfl) (tname_any ((sbt s k : Nat) : Int) _)) rfl rfl rfl ?_; clear hf fa; rintro fa _ _ ⟨rfl, rfl⟩ hf
      refine sqdt hf (d_bslice (z := (.string ⟨#[]⟩)) (sz := 1) (vs := [(0, (.string (tnameP ((sbt s k : Nat) : Int))))]) (cs := #[(.string (tnameP ((sbt s k : Nat) : Int)))]) rfl Try.underlying33 (by kernel_rfl) rfl (by kernel_rfl)) rfl rfl rfl ?_; clear hf fa; rintro fa _ w2 ⟨b1, rfl, hle1, hk1, he1⟩ hf
      have hBb1 : w.heap.size ≤ b1 := Nat.le_trans hb.size hle1
      have hnr1 : (Value.slice roa ((((namesL ((nums s).take k))).length)) roc).ownBlock ≠ some b1 := fun hq => by have := (Row.lt hro _ hq).2; omega
      replace hro := Row.ext hro he1
      replace hb := hb.trans (Below.mono he1 hb.size)
      have hs1 := Row.rd (by intros; rfl) (Row.of_new (k := 1) (V := vStr) (l := [(tnameP ((sbt s k : Nat) : Int))]) hk1 (Nat.le_refl _) rfl rfl (Nat.le_of_ble_eq_true rfl))
      refine sqdt hf (d_append (V := vStr) (k := 1) (e := 9) (bytes := 16) (z := (.string ⟨#[]⟩)) (news := [(tnameP ((sbt s k : Nat) : Int))]) (base := w.heap.size) (by intros; rfl) (by intro x u hu; simp only [vStr, List.mem_singleton] at hu; subst hu; rfl) rfl rfl Try.underlying33 (by kernel_rfl) rfl rfl rfl hro hs1 rfl (fun h => by cases h) (by first | omega | (simp only [List.length_cons, List.length_nil, List.length_append, nums_len]; omega)) (by have := hb.size; omega)) rfl rfl rfl ?_; clear hf fa; rintro fa v w3 ⟨hr1, hg1⟩ hf; obtain ⟨ra1, rc1, rfl, hcrc1, hmrc1⟩ := Row.slice hr1
      replace hb := hb.trans (row_below hro hg1 hb.size (by have := hb.size; omega))
      refine sqv hf (r_assign rfl) rfl rfl rfl ?_; clear hf fa; intro fa hf
      apply wpList_nil
      (try simp only [Exit.then, Exit.inBlock, ↓reduceIte, Nat.reduceEqDiff])
      refine hK7 _ _ ?_
      refine wp_region_lit ?_
      refine sqv hf (r_add (C := (((k : Nat) : Int) + (1 : Int))) rfl rfl (by rw [IntKind.wrap_i64]; omega)) rfl rfl rfl ?_; clear hf fa; intro fa hf
      refine sqv hf (r_move rfl) rfl rfl rfl ?_; clear hf fa; intro fa hf
      apply wpList_nil
      (try simp only [Exit.then, Exit.inBlock, ↓reduceIte, Nat.reduceEqDiff])
      have hle := congrArg List.length (namesL_snoc (k := k) (nums_get (s := s) (j := k) (by omega))); simp only [List.length_append, List.length_cons, List.length_nil] at hle
      refine hKL1 _ _ _ (by omega) ⟨(k + 1), ra1, rc1, rfl, hf.sub ⟨rfl, rfl, (some_int (by first | rfl | omega)), (some_sl (by first | omega | (simp only [List.length_append, List.length_cons, List.length_nil]; omega) | (simp <;> omega)) rfl), trivial⟩, hb, (rowToN hr1 (namesL_snoc (nums_get (by omega)))), by omega⟩
    · have hqt8_1b := hqt8_1
      replace hqt8_1 := Bool.eq_false_iff.1 hqt8_1
      try simp only [ne_eq, decide_eq_true_eq, Bool.and_eq_true, Bool.or_eq_true, Bool.not_eq_true', decide_eq_false_iff_not] at hqt8_1
      refine wp_exit ?_
      (try simp only [Exit.then, Exit.inBlock, ↓reduceIte, Nat.reduceEqDiff])
      refine hK3 _ _ ?_
      refine wp_seq_k (fun K9 hK9 => ?_)
      refine wp_region_lit ?_
      refine sqv hf (r_move rfl) rfl rfl rfl ?_; clear hf fa; intro fa hf
      refine sqdt hf (d_callB (vs := [(.slice roa (((namesL ((nums s).take k))).length) roc), (.string ⟨#[44]⟩)]) rfl Try.func149 (by kernel_rfl) (by kernel_rfl) (join_row _ hro rfl (by omega) (namesL_le _))) rfl rfl rfl ?_; clear hf fa; rintro fa _ w4 ⟨rfl, he2⟩ hf
      replace hro := Row.ext hro he2
      replace hb := hb.trans (Below.mono he2 hb.size)
      refine sqv hf (r_assign rfl) rfl rfl rfl ?_; clear hf fa; intro fa hf
      apply wpList_nil
      (try simp only [Exit.then, Exit.inBlock, ↓reduceIte, Nat.reduceEqDiff])
      refine hK9 _ _ ?_
      refine wp_ret ?_
      (try simp only [Exit.then, Exit.inBlock])
      refine ret1 hf rfl rfl ?_
      refine ⟨?_, hb⟩; unfold listP; rw [take_all s (by omega)]

set_option maxHeartbeats 1000000 in
set_option maxRecDepth 100000 in
theorem names_any (s : ByteArray) (w : World) (hs : s.size ≤ 1200) : Calls Try.prog 113 #[(.string s)] w fun e w' => e = .returned (.string (listP s)) ∧ Below w.heap.size w w' := by
  refine sx_enter (L := [(0, (.string s))]) Try.func113 rfl rfl rfl rfl (fun fa hf => ?_)
  have hb : Below w.heap.size w w := Below.refl _ _
  refine wp_seq_k (fun K1 hK1 => ?_)
  refine wp_region_lit ?_
  refine sqv hf (r_assign rfl) rfl rfl rfl ?_; clear hf fa; intro fa hf
  apply wpList_nil
  (try simp only [Exit.then, Exit.inBlock, ↓reduceIte, Nat.reduceEqDiff])
  refine hK1 _ _ ?_
  refine wp_seq_k (fun K2 hK2 => ?_)
  refine wp_region_lit ?_
  refine sqv hf (r_assign rfl) rfl rfl rfl ?_; clear hf fa; intro fa hf
  apply wpList_nil
  (try simp only [Exit.then, Exit.inBlock, ↓reduceIte, Nat.reduceEqDiff])
  refine hK2 _ _ ?_
  refine wp_seq_k (fun K3 hK3 => ?_)
  refine wp_seq_k (fun K4 hK4 => ?_)
  refine wp_region_lit ?_
  refine sqv hf (r_assign rfl) rfl rfl rfl ?_; clear hf fa; intro fa hf
  apply wpList_nil
  (try simp only [Exit.then, Exit.inBlock, ↓reduceIte, Nat.reduceEqDiff])
  refine hK4 _ _ ?_
  refine wp_block ?_
  refine wp_loop_k (fun mq fa wr => ∃ (k : Nat) (o : ByteArray), mq = s.size - k ∧ Fr 23 fa [(0, (.string s)), (3, (.string o)), (4, (.int .i64 ((k : Nat) : Int)))] ∧ Below w.heap.size w wr ∧ (k ≤ s.size) ∧ (o = joinS (namesL ((nums s).take k)))) ?_ ?_
  · skip
    exact ⟨_, 0, (⟨#[]⟩ : ByteArray), rfl, hf.sub ⟨rfl, (some_str (by first | rfl | assumption | simp)), (some_int (by first | rfl | omega)), trivial⟩, hb, by omega, (by rw [List.take_zero]; rfl)⟩
  · skip
    clear hf fa; intro mq1 fa w1 hI KL1 hKL1
    clear hb
    obtain ⟨k, o, hmq1, hf, hb, hk, Ho⟩ := hI
    have hsb := sbt_lt s k; have hbl := namesL_len (nums s) k; have hnl := nums_len s; have hol0 := (join_le (namesL_le ((nums s).take k))).1; rw [← Ho] at hol0; have htl := tname_le ((sbt s k : Nat) : Int)
    refine wp_seq_k (fun K5 hK5 => ?_)
    refine wp_seq_k (fun K6 hK6 => ?_)
    refine wp_region_lit ?_
    refine sqv hf (r_move rfl) rfl rfl rfl ?_; clear hf fa; intro fa hf
    refine sqv hf (r_move rfl) rfl rfl rfl ?_; clear hf fa; intro fa hf
    refine sqv hf (r_lens rfl Try.underlying9) rfl rfl rfl ?_; clear hf fa; intro fa hf
    refine sqv hf (r_lt rfl rfl) rfl rfl rfl ?_; clear hf fa; intro fa hf
    apply wpList_nil
    (try simp only [Exit.then, Exit.inBlock, ↓reduceIte, Nat.reduceEqDiff])
    refine hK6 _ _ ?_
    refine wp_cond_split (t := (decide (((k : Nat) : Int) < ((s.size : Nat) : Int)))) (hf.ev rfl) (fun hqt8_1 => ?_) (fun hqt8_1 => ?_)
    · have hqt8_1b := hqt8_1
      try simp only [decide_eq_true_eq, Bool.and_eq_true, Bool.or_eq_true, Bool.not_eq_true', decide_eq_false_iff_not, ne_eq, Bool.not_eq_true] at hqt8_1
      refine wp_skip ?_
      (try simp only [Exit.then, Exit.inBlock, ↓reduceIte, Nat.reduceEqDiff])
      refine hK5 _ _ ?_
      refine wp_seq_k (fun K7 hK7 => ?_)
      refine wp_block ?_
      refine wp_seq_k (fun K8 hK8 => ?_)
      refine wp_seq_k (fun K9 hK9 => ?_)
      refine wp_region_lit ?_
      refine sqv hf (r_move rfl) rfl rfl rfl ?_; clear hf fa; intro fa hf
      refine sqv hf (r_gt rfl rfl) rfl rfl rfl ?_; clear hf fa; intro fa hf
      apply wpList_nil
      (try simp only [Exit.then, Exit.inBlock, ↓reduceIte, Nat.reduceEqDiff])
      refine hK9 _ _ ?_
      refine wp_cond_split (t := (decide ((0 : Int) < ((k : Nat) : Int)))) (hf.ev rfl) (fun hqt12_1 => ?_) (fun hqt12_1 => ?_)
      · have hqt12_1b := hqt12_1
        try simp only [decide_eq_true_eq, Bool.and_eq_true, Bool.or_eq_true, Bool.not_eq_true', decide_eq_false_iff_not, ne_eq, Bool.not_eq_true] at hqt12_1
        refine wp_region_lit ?_
        refine sqv hf (r_move rfl) rfl rfl rfl ?_; clear hf fa; intro fa hf
        refine sqv hf (r_sadd rfl rfl (by have : ((⟨#[44]⟩) : ByteArray).size = 1 := rfl; omega)) rfl rfl rfl ?_; clear hf fa; intro fa hf
        refine sqv hf (r_assign rfl) rfl rfl rfl ?_; clear hf fa; intro fa hf
        apply wpList_nil
        (try simp only [Exit.then, Exit.inBlock, ↓reduceIte, Nat.reduceEqDiff])
        refine hK8 _ _ ?_
        refine wp_region_lit ?_
        refine sqv hf (r_move rfl) rfl rfl rfl ?_; clear hf fa; intro fa hf
        refine sqv hf (r_move rfl) rfl rfl rfl ?_; clear hf fa; intro fa hf
        refine sqv hf (r_move rfl) rfl rfl rfl ?_; clear hf fa; intro fa hf
        refine sqv hf (r_sindexD (j := k) rfl rfl Try.underlying9 rfl (by omega)) rfl rfl rfl ?_; clear hf fa; intro fa hf
        refine sqv hf (r_conv (C := ((sbt s k : Nat) : Int)) rfl Try.underlying5 Try.underlying3 (by rw [IntKind.wrap_i64]; omega)) rfl rfl rfl ?_; clear hf fa; intro fa hf
        refine sqdt hf (d_callB (vs := [(.int .i64 ((sbt s k : Nat) : Int))]) rfl Try.func41 (by kernel_rfl) (by kernel_rfl) (rname2_any ((sbt s k : Nat) : Int) _ (by omega))) rfl rfl rfl ?_; clear hf fa; rintro fa _ w2 ⟨rfl, he1⟩ hf
        replace hb := hb.trans (Below.mono he1 hb.size)
        refine sqv hf (r_sadd rfl rfl (by have : ((⟨#[44]⟩) : ByteArray).size = 1 := rfl; have := sz_app o ⟨#[44]⟩; have := tname_le ((sbt s k : Nat) : Int); omega)) rfl rfl rfl ?_; clear hf fa; intro fa hf
        refine sqv hf (r_assign rfl) rfl rfl rfl ?_; clear hf fa; intro fa hf
        apply wpList_nil
        (try simp only [Exit.then, Exit.inBlock, ↓reduceIte, Nat.reduceEqDiff])
        refine hK7 _ _ ?_
        refine wp_region_lit ?_
        refine sqv hf (r_move rfl) rfl rfl rfl ?_; clear hf fa; intro fa hf
        refine sqv hf (r_add (C := (((k : Nat) : Int) + (1 : Int))) rfl rfl (by rw [IntKind.wrap_i64]; omega)) rfl rfl rfl ?_; clear hf fa; intro fa hf
        refine sqv hf (r_assign rfl) rfl rfl rfl ?_; clear hf fa; intro fa hf
        apply wpList_nil
        (try simp only [Exit.then, Exit.inBlock, ↓reduceIte, Nat.reduceEqDiff])
        have hsn := joinS_snoc (namesL ((nums s).take k)) (tnameP ((sbt s k : Nat) : Int)); rw [namesL_snoc (nums_get (by omega))] at hsn; have hol := (join_le (namesL_le ((nums s).take (k + 1)))).1; have hbl2 := namesL_len (nums s) (k + 1)
        refine hKL1 _ _ _ (by omega) ⟨(k + 1), ((o ++ ⟨#[44]⟩) ++ (tnameP ((sbt s k : Nat) : Int))), rfl, hf.sub ⟨rfl, rfl, (some_int (by first | rfl | omega)), trivial⟩, hb, by omega, (by rw [hsn, if_neg (by intro h; have h2 := congrArg List.length h; unfold namesL at h2; rw [List.length_map, List.length_take, nums_len] at h2; simp only [List.length_nil] at h2; have h3 := hqt12_1; omega), Ho])⟩
      · have hqt12_1b := hqt12_1
        replace hqt12_1 := Bool.eq_false_iff.1 hqt12_1
        try simp only [ne_eq, decide_eq_true_eq, Bool.and_eq_true, Bool.or_eq_true, Bool.not_eq_true', decide_eq_false_iff_not] at hqt12_1
        refine wp_skip ?_
        (try simp only [Exit.then, Exit.inBlock, ↓reduceIte, Nat.reduceEqDiff])
        refine hK8 _ _ ?_
        refine wp_region_lit ?_
        refine sqv hf (r_move rfl) rfl rfl rfl ?_; clear hf fa; intro fa hf
        refine sqv hf (r_move rfl) rfl rfl rfl ?_; clear hf fa; intro fa hf
        refine sqv hf (r_move rfl) rfl rfl rfl ?_; clear hf fa; intro fa hf
        refine sqv hf (r_sindexD (j := k) rfl rfl Try.underlying9 rfl (by omega)) rfl rfl rfl ?_; clear hf fa; intro fa hf
        refine sqv hf (r_conv (C := ((sbt s k : Nat) : Int)) rfl Try.underlying5 Try.underlying3 (by rw [IntKind.wrap_i64]; omega)) rfl rfl rfl ?_; clear hf fa; intro fa hf
        refine sqdt hf (d_callB (vs := [(.int .i64 ((sbt s k : Nat) : Int))]) rfl Try.func41 (by kernel_rfl) (by kernel_rfl) (rname2_any ((sbt s k : Nat) : Int) _ (by omega))) rfl rfl rfl ?_; clear hf fa; rintro fa _ w3 ⟨rfl, he2⟩ hf
        replace hb := hb.trans (Below.mono he2 hb.size)
        refine sqv hf (r_sadd rfl rfl (by have := tname_le ((sbt s k : Nat) : Int); omega)) rfl rfl rfl ?_; clear hf fa; intro fa hf
        refine sqv hf (r_assign rfl) rfl rfl rfl ?_; clear hf fa; intro fa hf
        apply wpList_nil
        (try simp only [Exit.then, Exit.inBlock, ↓reduceIte, Nat.reduceEqDiff])
        refine hK7 _ _ ?_
        refine wp_region_lit ?_
        refine sqv hf (r_move rfl) rfl rfl rfl ?_; clear hf fa; intro fa hf
        refine sqv hf (r_add (C := (((k : Nat) : Int) + (1 : Int))) rfl rfl (by rw [IntKind.wrap_i64]; omega)) rfl rfl rfl ?_; clear hf fa; intro fa hf
        refine sqv hf (r_assign rfl) rfl rfl rfl ?_; clear hf fa; intro fa hf
        apply wpList_nil
        (try simp only [Exit.then, Exit.inBlock, ↓reduceIte, Nat.reduceEqDiff])
        have hsn := joinS_snoc (namesL ((nums s).take k)) (tnameP ((sbt s k : Nat) : Int)); rw [namesL_snoc (nums_get (by omega))] at hsn; have hol := (join_le (namesL_le ((nums s).take (k + 1)))).1; have hbl2 := namesL_len (nums s) (k + 1)
        have hk0 : k = 0 := by have h3 := hqt12_1; omega
        refine hKL1 _ _ _ (by omega) ⟨(k + 1), (o ++ (tnameP ((sbt s k : Nat) : Int))), rfl, hf.sub ⟨rfl, rfl, (some_int (by first | rfl | omega)), trivial⟩, hb, by omega, (by rw [hsn, if_pos (by rw [hk0, List.take_zero]; rfl), Ho])⟩
    · have hqt8_1b := hqt8_1
      replace hqt8_1 := Bool.eq_false_iff.1 hqt8_1
      try simp only [ne_eq, decide_eq_true_eq, Bool.and_eq_true, Bool.or_eq_true, Bool.not_eq_true', decide_eq_false_iff_not] at hqt8_1
      refine wp_exit ?_
      (try simp only [Exit.then, Exit.inBlock, ↓reduceIte, Nat.reduceEqDiff])
      refine hK3 _ _ ?_
      refine wp_seq_k (fun K10 hK10 => ?_)
      refine wp_region_lit ?_
      refine sqv hf (r_move rfl) rfl rfl rfl ?_; clear hf fa; intro fa hf
      refine sqv hf (r_assign rfl) rfl rfl rfl ?_; clear hf fa; intro fa hf
      apply wpList_nil
      (try simp only [Exit.then, Exit.inBlock, ↓reduceIte, Nat.reduceEqDiff])
      refine hK10 _ _ ?_
      refine wp_ret ?_
      (try simp only [Exit.then, Exit.inBlock])
      refine ret1 hf rfl rfl ?_
      refine ⟨?_, hb⟩; unfold listP; rw [Ho, take_all s (by omega)]

def textP (t : MFt) : ByteArray := ((((⟨#[40]⟩ : ByteArray) ++ listP t.1) ++ (⟨#[41, 45, 62, 40]⟩ : ByteArray)) ++ listP t.2.1) ++ (⟨#[41]⟩ : ByteArray)

set_option maxHeartbeats 1000000 in
set_option maxRecDepth 100000 in
theorem text_any (t : MFt) (w : World) (h1 : t.1.size ≤ 1100) (h2 : t.2.1.size ≤ 300) : Calls Try.prog 49 #[(.agg #[(.string t.1), (.string t.2.1)])] w fun e w' => e = .returned (.string (textP t)) ∧ Below w.heap.size w w' := by
  refine sx_enter (L := [(0, (.agg #[(.string t.1), (.string t.2.1)]))]) Try.func49 rfl rfl rfl rfl (fun fa hf => ?_)
  have hb : Below w.heap.size w w := Below.refl _ _
  refine wp_seq_k (fun K1 hK1 => ?_)
  refine wp_region_lit ?_
  refine sqdt hf (d_box (cs := #[(.string t.1), (.string t.2.1)]) rfl rfl) rfl rfl rfl ?_; clear hf fa; rintro fa _ w1 ⟨b1, rfl, hle1, hk1, he1⟩ hf
  have hBb1 : w.heap.size ≤ b1 := Nat.le_trans hb.size hle1
  replace hb := hb.trans (Below.mono he1 hb.size)
  refine sqv hf (r_assign rfl) rfl rfl rfl ?_; clear hf fa; intro fa hf
  apply wpList_nil
  (try simp only [Exit.then, Exit.inBlock, ↓reduceIte, Nat.reduceEqDiff])
  refine hK1 _ _ ?_
  refine wp_seq_k (fun K2 hK2 => ?_)
  refine wp_region_un (fun wq => Below w1.heap.size w1 wq) (fun w w' => Below w.heap.size w w')
    (fun V => [(fun x _ => x = (.pointer (some ⟨b1, 0, none⟩))), (fun x _ => x = (.string t.1)), (fun x _ => x = (.string (listP t.1))), (fun x _ => x = (.string (⟨#[40]⟩ ++ (listP t.1)))), (fun x _ => x = (.string ((⟨#[40]⟩ ++ (listP t.1)) ++ ⟨#[41, 45, 62, 40]⟩))), (fun x _ => x = (.pointer (some ⟨b1, 1, none⟩))), (fun x _ => x = (.string t.2.1)), (fun x _ => x = (.string (listP t.2.1))), (fun x _ => x = (.string (((⟨#[40]⟩ ++ (listP t.1)) ++ ⟨#[41, 45, 62, 40]⟩) ++ (listP t.2.1)))), (fun x _ => x = (.string ((((⟨#[40]⟩ ++ (listP t.1)) ++ ⟨#[41, 45, 62, 40]⟩) ++ (listP t.2.1)) ++ ⟨#[41]⟩))), (fun x _ => x = (.string ((((⟨#[40]⟩ ++ (listP t.1)) ++ ⟨#[41, 45, 62, 40]⟩) ++ (listP t.2.1)) ++ ⟨#[41]⟩)))])
    []
    [[], [0], [1], [2], [3], [], [5], [2, 6], [4, 7], [8], [0, 1, 2, 3, 4, 5, 6, 7, 8, 9]]
    hf (by kernel_rfl) (by kernel_rfl) (fun _ => rfl) ((Below.refl _ _).drew) (fun a b h1 h2 => h1.trans (h2.mono h1.size)) (fun _ _ h => h.size) (fun V => ⟨kept_eq, kept_eq, kept_eq, kept_eq, kept_eq, kept_eq, kept_eq, kept_eq, kept_eq, kept_eq, kept_eq, trivial⟩) (fun _ _ _ _ _ => rfl) ?_ ?_
  · skip
    intro V
    refine ⟨fun wu0 hC hd => ?_, ?_⟩
    · clear hd
      replace hb := hb.trans (hC.mono hb.size)
      replace hk1 := blk_ext hk1 hC
      exact Runs.does (r_fa rfl Try.underlying67 (f := 0) (q := 0) rfl (by kernel_rfl) rfl) ⟨Below.refl _ _, rfl, nofr rfl⟩
    refine ⟨fun wu1 hC hd => ?_, ?_⟩
    · obtain ⟨h0, _⟩ := hd
      skip
      replace h0 : V 0 = (.pointer (some ⟨b1, 0, none⟩)) := h0
      replace hb := hb.trans (hC.mono hb.size)
      replace hk1 := blk_ext hk1 hC
      exact Runs.does (r_load (v := (.string t.1)) (congrArg some h0) Try.underlying9 rfl (cell_blk hk1 rfl)) ⟨Below.refl _ _, rfl, nofr rfl⟩
    refine ⟨fun wu2 hC hd => ?_, ?_⟩
    · obtain ⟨h1, _⟩ := hd
      skip
      replace h1 : V 1 = (.string t.1) := h1
      replace hb := hb.trans (hC.mono hb.size)
      replace hk1 := blk_ext hk1 hC
      refine Does.mono (d_callB (vs := [(.string t.1)]) (show [some (V 1)] = [some (.string t.1)] from by rw [h1]) Try.func112 (by kernel_rfl) (by kernel_rfl) (list_any t.1 _ (by omega))) (fun _ _ h => ⟨h.2, h.1, nofr rfl⟩)
    refine ⟨fun wu3 hC hd => ?_, ?_⟩
    · obtain ⟨h2, _⟩ := hd
      skip
      replace h2 : V 2 = (.string (listP t.1)) := h2
      replace hb := hb.trans (hC.mono hb.size)
      replace hk1 := blk_ext hk1 hC
      exact Runs.does (r_sadd rfl (congrArg some h2) (by have : ((⟨#[40]⟩) : ByteArray).size = 1 := rfl; have := listP_le t.1; omega)) ⟨Below.refl _ _, rfl, nofr rfl⟩
    refine ⟨fun wu4 hC hd => ?_, ?_⟩
    · obtain ⟨h3, _⟩ := hd
      skip
      replace h3 : V 3 = (.string (⟨#[40]⟩ ++ (listP t.1))) := h3
      replace hb := hb.trans (hC.mono hb.size)
      replace hk1 := blk_ext hk1 hC
      exact Runs.does (r_sadd (congrArg some h3) rfl (by have : ((⟨#[40]⟩) : ByteArray).size = 1 := rfl; have := listP_le t.1; have := sz_app ⟨#[40]⟩ (listP t.1); have : ((⟨#[41, 45, 62, 40]⟩) : ByteArray).size = 4 := rfl; omega)) ⟨Below.refl _ _, rfl, nofr rfl⟩
    refine ⟨fun wu5 hC hd => ?_, ?_⟩
    · clear hd
      replace hb := hb.trans (hC.mono hb.size)
      replace hk1 := blk_ext hk1 hC
      exact Runs.does (r_fa rfl Try.underlying67 (f := 1) (q := 1) rfl (by kernel_rfl) rfl) ⟨Below.refl _ _, rfl, nofr rfl⟩
    refine ⟨fun wu6 hC hd => ?_, ?_⟩
    · obtain ⟨h5, _⟩ := hd
      skip
      replace h5 : V 5 = (.pointer (some ⟨b1, 1, none⟩)) := h5
      replace hb := hb.trans (hC.mono hb.size)
      replace hk1 := blk_ext hk1 hC
      exact Runs.does (r_load (v := (.string t.2.1)) (congrArg some h5) Try.underlying9 rfl (cell_blk hk1 rfl)) ⟨Below.refl _ _, rfl, nofr rfl⟩
    refine ⟨fun wu7 hC hd => ?_, ?_⟩
    · obtain ⟨h2, h6, _⟩ := hd
      skip
      skip
      replace h2 : V 2 = (.string (listP t.1)) := h2
      replace h6 : V 6 = (.string t.2.1) := h6
      replace hb := hb.trans (hC.mono hb.size)
      replace hk1 := blk_ext hk1 hC
      refine Does.mono (d_callB (vs := [(.string t.2.1)]) (show [some (V 6)] = [some (.string t.2.1)] from by rw [h6]) Try.func112 (by kernel_rfl) (by kernel_rfl) (list_any t.2.1 _ (by omega))) (fun _ _ h => ⟨h.2, h.1, nofr rfl⟩)
    refine ⟨fun wu8 hC hd => ?_, ?_⟩
    · obtain ⟨h4, h7, _⟩ := hd
      skip
      skip
      replace h4 : V 4 = (.string ((⟨#[40]⟩ ++ (listP t.1)) ++ ⟨#[41, 45, 62, 40]⟩)) := h4
      replace h7 : V 7 = (.string (listP t.2.1)) := h7
      replace hb := hb.trans (hC.mono hb.size)
      replace hk1 := blk_ext hk1 hC
      exact Runs.does (r_sadd (congrArg some h4) (congrArg some h7) (by have : ((⟨#[40]⟩) : ByteArray).size = 1 := rfl; have := listP_le t.1; have := sz_app ⟨#[40]⟩ (listP t.1); have : ((⟨#[41, 45, 62, 40]⟩) : ByteArray).size = 4 := rfl; have := sz_app (⟨#[40]⟩ ++ (listP t.1)) ⟨#[41, 45, 62, 40]⟩; have := listP_le t.2.1; omega)) ⟨Below.refl _ _, rfl, nofr rfl⟩
    refine ⟨fun wu9 hC hd => ?_, ?_⟩
    · obtain ⟨h8, _⟩ := hd
      skip
      replace h8 : V 8 = (.string (((⟨#[40]⟩ ++ (listP t.1)) ++ ⟨#[41, 45, 62, 40]⟩) ++ (listP t.2.1))) := h8
      replace hb := hb.trans (hC.mono hb.size)
      replace hk1 := blk_ext hk1 hC
      exact Runs.does (r_sadd (congrArg some h8) rfl (by have : ((⟨#[40]⟩) : ByteArray).size = 1 := rfl; have := listP_le t.1; have := sz_app ⟨#[40]⟩ (listP t.1); have : ((⟨#[41, 45, 62, 40]⟩) : ByteArray).size = 4 := rfl; have := sz_app (⟨#[40]⟩ ++ (listP t.1)) ⟨#[41, 45, 62, 40]⟩; have := listP_le t.2.1; have := sz_app ((⟨#[40]⟩ ++ (listP t.1)) ++ ⟨#[41, 45, 62, 40]⟩) (listP t.2.1); have : ((⟨#[41]⟩) : ByteArray).size = 1 := rfl; omega)) ⟨Below.refl _ _, rfl, nofr rfl⟩
    refine ⟨fun wu10 hC hd => ?_, ?_⟩
    · obtain ⟨h0, h1, h2, h3, h4, h5, h6, h7, h8, h9, _⟩ := hd
      skip
      skip
      skip
      skip
      skip
      skip
      skip
      skip
      skip
      skip
      replace h0 : V 0 = (.pointer (some ⟨b1, 0, none⟩)) := h0
      replace h1 : V 1 = (.string t.1) := h1
      replace h2 : V 2 = (.string (listP t.1)) := h2
      replace h3 : V 3 = (.string (⟨#[40]⟩ ++ (listP t.1))) := h3
      replace h4 : V 4 = (.string ((⟨#[40]⟩ ++ (listP t.1)) ++ ⟨#[41, 45, 62, 40]⟩)) := h4
      replace h5 : V 5 = (.pointer (some ⟨b1, 1, none⟩)) := h5
      replace h6 : V 6 = (.string t.2.1) := h6
      replace h7 : V 7 = (.string (listP t.2.1)) := h7
      replace h8 : V 8 = (.string (((⟨#[40]⟩ ++ (listP t.1)) ++ ⟨#[41, 45, 62, 40]⟩) ++ (listP t.2.1))) := h8
      replace h9 : V 9 = (.string ((((⟨#[40]⟩ ++ (listP t.1)) ++ ⟨#[41, 45, 62, 40]⟩) ++ (listP t.2.1)) ++ ⟨#[41]⟩)) := h9
      replace hb := hb.trans (hC.mono hb.size)
      replace hk1 := blk_ext hk1 hC
      exact Runs.does (r_assign (congrArg some h9)) ⟨Below.refl _ _, rfl, nofr rfl⟩
    trivial
  · skip
    clear hf fa; intro V w2 fa he2 hp hnb hf
    have hv0 : V 0 = (.pointer (some ⟨b1, 0, none⟩)) := postsHold_at hp 0 rfl
    have hv1 : V 1 = (.string t.1) := postsHold_at hp 1 rfl
    have hv2 : V 2 = (.string (listP t.1)) := postsHold_at hp 2 rfl
    have hv3 : V 3 = (.string (⟨#[40]⟩ ++ (listP t.1))) := postsHold_at hp 3 rfl
    have hv4 : V 4 = (.string ((⟨#[40]⟩ ++ (listP t.1)) ++ ⟨#[41, 45, 62, 40]⟩)) := postsHold_at hp 4 rfl
    have hv5 : V 5 = (.pointer (some ⟨b1, 1, none⟩)) := postsHold_at hp 5 rfl
    have hv6 : V 6 = (.string t.2.1) := postsHold_at hp 6 rfl
    have hv7 : V 7 = (.string (listP t.2.1)) := postsHold_at hp 7 rfl
    have hv8 : V 8 = (.string (((⟨#[40]⟩ ++ (listP t.1)) ++ ⟨#[41, 45, 62, 40]⟩) ++ (listP t.2.1))) := postsHold_at hp 8 rfl
    have hv9 : V 9 = (.string ((((⟨#[40]⟩ ++ (listP t.1)) ++ ⟨#[41, 45, 62, 40]⟩) ++ (listP t.2.1)) ++ ⟨#[41]⟩)) := postsHold_at hp 9 rfl
    have hv10 : V 10 = (.string ((((⟨#[40]⟩ ++ (listP t.1)) ++ ⟨#[41, 45, 62, 40]⟩) ++ (listP t.2.1)) ++ ⟨#[41]⟩)) := postsHold_at hp 10 rfl
    simp only [List.take_succ_cons, List.take_zero, insAll, ins, hv0, hv1, hv2, hv3, hv4, hv5, hv6, hv7, hv8, hv9, hv10] at hf
    clear hp hnb hv0 hv1 hv2 hv3 hv4 hv5 hv6 hv7 hv8 hv9 hv10
    replace hk1 := blk_ext hk1 he2
    replace hb := hb.trans (Below.mono he2 hb.size)
    (try simp only [Exit.then, Exit.inBlock, ↓reduceIte, Nat.reduceEqDiff])
    refine hK2 _ _ ?_
    refine wp_ret ?_
    (try simp only [Exit.then, Exit.inBlock])
    refine ret1 hf rfl rfl ?_
    exact ⟨rfl, hb⟩

set_option maxHeartbeats 1000000 in
set_option maxRecDepth 100000 in
theorem rtext_any (t : MFt) (w : World) (h1 : t.1.size ≤ 1100) (h2 : t.2.1.size ≤ 300) : Calls Try.prog 50 #[(.agg #[(.string t.1), (.string t.2.1)])] w fun e w' => e = .returned (.string (textP t)) ∧ Below w.heap.size w w' := by
  refine sx_enter (L := [(0, (.agg #[(.string t.1), (.string t.2.1)]))]) Try.func50 rfl rfl rfl rfl (fun fa hf => ?_)
  have hb : Below w.heap.size w w := Below.refl _ _
  refine wp_seq_k (fun K1 hK1 => ?_)
  refine wp_region_lit ?_
  refine sqdt hf (d_box (cs := #[(.string t.1), (.string t.2.1)]) rfl rfl) rfl rfl rfl ?_; clear hf fa; rintro fa _ w1 ⟨b1, rfl, hle1, hk1, he1⟩ hf
  have hBb1 : w.heap.size ≤ b1 := Nat.le_trans hb.size hle1
  replace hb := hb.trans (Below.mono he1 hb.size)
  refine sqv hf (r_assign rfl) rfl rfl rfl ?_; clear hf fa; intro fa hf
  apply wpList_nil
  (try simp only [Exit.then, Exit.inBlock, ↓reduceIte, Nat.reduceEqDiff])
  refine hK1 _ _ ?_
  refine wp_seq_k (fun K2 hK2 => ?_)
  refine wp_region_un (fun wq => Below w1.heap.size w1 wq) (fun w w' => Below w.heap.size w w')
    (fun V => [(fun x _ => x = (.pointer (some ⟨b1, 0, none⟩))), (fun x _ => x = (.string t.1)), (fun x _ => x = (.string (listP t.1))), (fun x _ => x = (.string (⟨#[40]⟩ ++ (listP t.1)))), (fun x _ => x = (.string ((⟨#[40]⟩ ++ (listP t.1)) ++ ⟨#[41, 45, 62, 40]⟩))), (fun x _ => x = (.pointer (some ⟨b1, 1, none⟩))), (fun x _ => x = (.string t.2.1)), (fun x _ => x = (.string (listP t.2.1))), (fun x _ => x = (.string (((⟨#[40]⟩ ++ (listP t.1)) ++ ⟨#[41, 45, 62, 40]⟩) ++ (listP t.2.1)))), (fun x _ => x = (.string ((((⟨#[40]⟩ ++ (listP t.1)) ++ ⟨#[41, 45, 62, 40]⟩) ++ (listP t.2.1)) ++ ⟨#[41]⟩))), (fun x _ => x = (.string ((((⟨#[40]⟩ ++ (listP t.1)) ++ ⟨#[41, 45, 62, 40]⟩) ++ (listP t.2.1)) ++ ⟨#[41]⟩)))])
    []
    [[], [0], [1], [2], [3], [], [5], [2, 6], [4, 7], [8], [0, 1, 2, 3, 4, 5, 6, 7, 8, 9]]
    hf (by kernel_rfl) (by kernel_rfl) (fun _ => rfl) ((Below.refl _ _).drew) (fun a b h1 h2 => h1.trans (h2.mono h1.size)) (fun _ _ h => h.size) (fun V => ⟨kept_eq, kept_eq, kept_eq, kept_eq, kept_eq, kept_eq, kept_eq, kept_eq, kept_eq, kept_eq, kept_eq, trivial⟩) (fun _ _ _ _ _ => rfl) ?_ ?_
  · skip
    intro V
    refine ⟨fun wu0 hC hd => ?_, ?_⟩
    · clear hd
      replace hb := hb.trans (hC.mono hb.size)
      replace hk1 := blk_ext hk1 hC
      exact Runs.does (r_fa rfl Try.underlying67 (f := 0) (q := 0) rfl (by kernel_rfl) rfl) ⟨Below.refl _ _, rfl, nofr rfl⟩
    refine ⟨fun wu1 hC hd => ?_, ?_⟩
    · obtain ⟨h0, _⟩ := hd
      skip
      replace h0 : V 0 = (.pointer (some ⟨b1, 0, none⟩)) := h0
      replace hb := hb.trans (hC.mono hb.size)
      replace hk1 := blk_ext hk1 hC
      exact Runs.does (r_load (v := (.string t.1)) (congrArg some h0) Try.underlying9 rfl (cell_blk hk1 rfl)) ⟨Below.refl _ _, rfl, nofr rfl⟩
    refine ⟨fun wu2 hC hd => ?_, ?_⟩
    · obtain ⟨h1, _⟩ := hd
      skip
      replace h1 : V 1 = (.string t.1) := h1
      replace hb := hb.trans (hC.mono hb.size)
      replace hk1 := blk_ext hk1 hC
      refine Does.mono (d_callB (vs := [(.string t.1)]) (show [some (V 1)] = [some (.string t.1)] from by rw [h1]) Try.func113 (by kernel_rfl) (by kernel_rfl) (names_any t.1 _ (by omega))) (fun _ _ h => ⟨h.2, h.1, nofr rfl⟩)
    refine ⟨fun wu3 hC hd => ?_, ?_⟩
    · obtain ⟨h2, _⟩ := hd
      skip
      replace h2 : V 2 = (.string (listP t.1)) := h2
      replace hb := hb.trans (hC.mono hb.size)
      replace hk1 := blk_ext hk1 hC
      exact Runs.does (r_sadd rfl (congrArg some h2) (by have : ((⟨#[40]⟩) : ByteArray).size = 1 := rfl; have := listP_le t.1; omega)) ⟨Below.refl _ _, rfl, nofr rfl⟩
    refine ⟨fun wu4 hC hd => ?_, ?_⟩
    · obtain ⟨h3, _⟩ := hd
      skip
      replace h3 : V 3 = (.string (⟨#[40]⟩ ++ (listP t.1))) := h3
      replace hb := hb.trans (hC.mono hb.size)
      replace hk1 := blk_ext hk1 hC
      exact Runs.does (r_sadd (congrArg some h3) rfl (by have : ((⟨#[40]⟩) : ByteArray).size = 1 := rfl; have := listP_le t.1; have := sz_app ⟨#[40]⟩ (listP t.1); have : ((⟨#[41, 45, 62, 40]⟩) : ByteArray).size = 4 := rfl; omega)) ⟨Below.refl _ _, rfl, nofr rfl⟩
    refine ⟨fun wu5 hC hd => ?_, ?_⟩
    · clear hd
      replace hb := hb.trans (hC.mono hb.size)
      replace hk1 := blk_ext hk1 hC
      exact Runs.does (r_fa rfl Try.underlying67 (f := 1) (q := 1) rfl (by kernel_rfl) rfl) ⟨Below.refl _ _, rfl, nofr rfl⟩
    refine ⟨fun wu6 hC hd => ?_, ?_⟩
    · obtain ⟨h5, _⟩ := hd
      skip
      replace h5 : V 5 = (.pointer (some ⟨b1, 1, none⟩)) := h5
      replace hb := hb.trans (hC.mono hb.size)
      replace hk1 := blk_ext hk1 hC
      exact Runs.does (r_load (v := (.string t.2.1)) (congrArg some h5) Try.underlying9 rfl (cell_blk hk1 rfl)) ⟨Below.refl _ _, rfl, nofr rfl⟩
    refine ⟨fun wu7 hC hd => ?_, ?_⟩
    · obtain ⟨h2, h6, _⟩ := hd
      skip
      skip
      replace h2 : V 2 = (.string (listP t.1)) := h2
      replace h6 : V 6 = (.string t.2.1) := h6
      replace hb := hb.trans (hC.mono hb.size)
      replace hk1 := blk_ext hk1 hC
      refine Does.mono (d_callB (vs := [(.string t.2.1)]) (show [some (V 6)] = [some (.string t.2.1)] from by rw [h6]) Try.func113 (by kernel_rfl) (by kernel_rfl) (names_any t.2.1 _ (by omega))) (fun _ _ h => ⟨h.2, h.1, nofr rfl⟩)
    refine ⟨fun wu8 hC hd => ?_, ?_⟩
    · obtain ⟨h4, h7, _⟩ := hd
      skip
      skip
      replace h4 : V 4 = (.string ((⟨#[40]⟩ ++ (listP t.1)) ++ ⟨#[41, 45, 62, 40]⟩)) := h4
      replace h7 : V 7 = (.string (listP t.2.1)) := h7
      replace hb := hb.trans (hC.mono hb.size)
      replace hk1 := blk_ext hk1 hC
      exact Runs.does (r_sadd (congrArg some h4) (congrArg some h7) (by have : ((⟨#[40]⟩) : ByteArray).size = 1 := rfl; have := listP_le t.1; have := sz_app ⟨#[40]⟩ (listP t.1); have : ((⟨#[41, 45, 62, 40]⟩) : ByteArray).size = 4 := rfl; have := sz_app (⟨#[40]⟩ ++ (listP t.1)) ⟨#[41, 45, 62, 40]⟩; have := listP_le t.2.1; omega)) ⟨Below.refl _ _, rfl, nofr rfl⟩
    refine ⟨fun wu9 hC hd => ?_, ?_⟩
    · obtain ⟨h8, _⟩ := hd
      skip
      replace h8 : V 8 = (.string (((⟨#[40]⟩ ++ (listP t.1)) ++ ⟨#[41, 45, 62, 40]⟩) ++ (listP t.2.1))) := h8
      replace hb := hb.trans (hC.mono hb.size)
      replace hk1 := blk_ext hk1 hC
      exact Runs.does (r_sadd (congrArg some h8) rfl (by have : ((⟨#[40]⟩) : ByteArray).size = 1 := rfl; have := listP_le t.1; have := sz_app ⟨#[40]⟩ (listP t.1); have : ((⟨#[41, 45, 62, 40]⟩) : ByteArray).size = 4 := rfl; have := sz_app (⟨#[40]⟩ ++ (listP t.1)) ⟨#[41, 45, 62, 40]⟩; have := listP_le t.2.1; have := sz_app ((⟨#[40]⟩ ++ (listP t.1)) ++ ⟨#[41, 45, 62, 40]⟩) (listP t.2.1); have : ((⟨#[41]⟩) : ByteArray).size = 1 := rfl; omega)) ⟨Below.refl _ _, rfl, nofr rfl⟩
    refine ⟨fun wu10 hC hd => ?_, ?_⟩
    · obtain ⟨h0, h1, h2, h3, h4, h5, h6, h7, h8, h9, _⟩ := hd
      skip
      skip
      skip
      skip
      skip
      skip
      skip
      skip
      skip
      skip
      replace h0 : V 0 = (.pointer (some ⟨b1, 0, none⟩)) := h0
      replace h1 : V 1 = (.string t.1) := h1
      replace h2 : V 2 = (.string (listP t.1)) := h2
      replace h3 : V 3 = (.string (⟨#[40]⟩ ++ (listP t.1))) := h3
      replace h4 : V 4 = (.string ((⟨#[40]⟩ ++ (listP t.1)) ++ ⟨#[41, 45, 62, 40]⟩)) := h4
      replace h5 : V 5 = (.pointer (some ⟨b1, 1, none⟩)) := h5
      replace h6 : V 6 = (.string t.2.1) := h6
      replace h7 : V 7 = (.string (listP t.2.1)) := h7
      replace h8 : V 8 = (.string (((⟨#[40]⟩ ++ (listP t.1)) ++ ⟨#[41, 45, 62, 40]⟩) ++ (listP t.2.1))) := h8
      replace h9 : V 9 = (.string ((((⟨#[40]⟩ ++ (listP t.1)) ++ ⟨#[41, 45, 62, 40]⟩) ++ (listP t.2.1)) ++ ⟨#[41]⟩)) := h9
      replace hb := hb.trans (hC.mono hb.size)
      replace hk1 := blk_ext hk1 hC
      exact Runs.does (r_assign (congrArg some h9)) ⟨Below.refl _ _, rfl, nofr rfl⟩
    trivial
  · skip
    clear hf fa; intro V w2 fa he2 hp hnb hf
    have hv0 : V 0 = (.pointer (some ⟨b1, 0, none⟩)) := postsHold_at hp 0 rfl
    have hv1 : V 1 = (.string t.1) := postsHold_at hp 1 rfl
    have hv2 : V 2 = (.string (listP t.1)) := postsHold_at hp 2 rfl
    have hv3 : V 3 = (.string (⟨#[40]⟩ ++ (listP t.1))) := postsHold_at hp 3 rfl
    have hv4 : V 4 = (.string ((⟨#[40]⟩ ++ (listP t.1)) ++ ⟨#[41, 45, 62, 40]⟩)) := postsHold_at hp 4 rfl
    have hv5 : V 5 = (.pointer (some ⟨b1, 1, none⟩)) := postsHold_at hp 5 rfl
    have hv6 : V 6 = (.string t.2.1) := postsHold_at hp 6 rfl
    have hv7 : V 7 = (.string (listP t.2.1)) := postsHold_at hp 7 rfl
    have hv8 : V 8 = (.string (((⟨#[40]⟩ ++ (listP t.1)) ++ ⟨#[41, 45, 62, 40]⟩) ++ (listP t.2.1))) := postsHold_at hp 8 rfl
    have hv9 : V 9 = (.string ((((⟨#[40]⟩ ++ (listP t.1)) ++ ⟨#[41, 45, 62, 40]⟩) ++ (listP t.2.1)) ++ ⟨#[41]⟩)) := postsHold_at hp 9 rfl
    have hv10 : V 10 = (.string ((((⟨#[40]⟩ ++ (listP t.1)) ++ ⟨#[41, 45, 62, 40]⟩) ++ (listP t.2.1)) ++ ⟨#[41]⟩)) := postsHold_at hp 10 rfl
    simp only [List.take_succ_cons, List.take_zero, insAll, ins, hv0, hv1, hv2, hv3, hv4, hv5, hv6, hv7, hv8, hv9, hv10] at hf
    clear hp hnb hv0 hv1 hv2 hv3 hv4 hv5 hv6 hv7 hv8 hv9 hv10
    replace hk1 := blk_ext hk1 he2
    replace hb := hb.trans (Below.mono he2 hb.size)
    (try simp only [Exit.then, Exit.inBlock, ↓reduceIte, Nat.reduceEqDiff])
    refine hK2 _ _ ?_
    refine wp_ret ?_
    (try simp only [Exit.then, Exit.inBlock])
    refine ret1 hf rfl rfl ?_
    exact ⟨rfl, hb⟩

def byteR (s : ByteArray) : List Int → Int
  | [] => 0
  | b :: l => if tnameP b = s then b else byteR s l
def byteP (s : ByteArray) : Int := byteR s [127, 126, 125, 124, 112]
def ofF (s : ByteArray) : Nat → Int
  | 0 => 0
  | f + 1 => if tnameP ((255 - f : Nat) : Int) = s ∧ s ≠ (⟨#[63]⟩ : ByteArray) then ((255 - f : Nat) : Int) else ofF s f
theorem tname_other {b : Int} (h1 : b ≠ 127) (h2 : b ≠ 126) (h3 : b ≠ 125) (h4 : b ≠ 124) (h5 : b ≠ 112) : tnameP b = ⟨#[63]⟩ := by
  unfold tnameP; simp [h1, h2, h3, h4, h5]
theorem ofF_none {s : ByteArray} (h : ∀ b ∈ [(127 : Int), 126, 125, 124, 112], tnameP b ≠ s) : ∀ f, ofF s f = 0
  | 0 => rfl
  | f + 1 => by
    rw [ofF, if_neg, ofF_none h f]
    rintro ⟨h6, h7⟩
    by_cases h1 : ((255 - f : Nat) : Int) = 127
    · exact h 127 (by simp) (by rw [← h1]; exact h6)
    · by_cases h2 : ((255 - f : Nat) : Int) = 126
      · exact h 126 (by simp) (by rw [← h2]; exact h6)
      · by_cases h3 : ((255 - f : Nat) : Int) = 125
        · exact h 125 (by simp) (by rw [← h3]; exact h6)
        · by_cases h4 : ((255 - f : Nat) : Int) = 124
          · exact h 124 (by simp) (by rw [← h4]; exact h6)
          · by_cases h5 : ((255 - f : Nat) : Int) = 112
            · exact h 112 (by simp) (by rw [← h5]; exact h6)
            · rw [tname_other h1 h2 h3 h4 h5] at h6
              exact h7 h6.symm
theorem of_eq (s : ByteArray) : ofF s 255 = byteP s := by
  by_cases h1 : tnameP 127 = s
  · subst h1; decide +kernel
  · by_cases h2 : tnameP 126 = s
    · subst h2; decide +kernel
    · by_cases h3 : tnameP 125 = s
      · subst h3; decide +kernel
      · by_cases h4 : tnameP 124 = s
        · subst h4; decide +kernel
        · by_cases h5 : tnameP 112 = s
          · subst h5; decide +kernel
          · rw [ofF_none (by intro b hb; simp at hb; rcases hb with rfl | rfl | rfl | rfl | rfl <;> assumption)]
            unfold byteP
            simp [byteR, h1, h2, h3, h4, h5]
theorem byte_rng (s : ByteArray) : 0 ≤ byteP s ∧ byteP s < 256 := by
  unfold byteP byteR byteR byteR byteR byteR byteR
  split; decide
  split; decide
  split; decide
  split; decide
  split <;> decide

set_option maxHeartbeats 1000000 in
set_option maxRecDepth 100000 in
theorem byte_any (s : ByteArray) (w : World) : Calls Try.prog 52 #[(.string s)] w fun e w' => e = .returned (.int .u8 (byteP s)) ∧ Below w.heap.size w w' := by
  refine sx_enter (L := [(0, (.string s))]) Try.func52 rfl rfl rfl rfl (fun fa hf => ?_)
  have hb : Below w.heap.size w w := Below.refl _ _
  refine wp_seq_k (fun K1 hK1 => ?_)
  refine wp_region_lit ?_
  refine sqv hf (r_assign rfl) rfl rfl rfl ?_; clear hf fa; intro fa hf
  apply wpList_nil
  (try simp only [Exit.then, Exit.inBlock, ↓reduceIte, Nat.reduceEqDiff])
  refine hK1 _ _ ?_
  refine wp_seq_k (fun K2 hK2 => ?_)
  refine wp_seq_k (fun K3 hK3 => ?_)
  refine wp_region_lit ?_
  refine sqdt hf (d_bslice (z := (.int .u8 (0 : Int))) (sz := 1) (vs := [(0, (.int .u8 (127 : Int))), (1, (.int .u8 (126 : Int))), (2, (.int .u8 (125 : Int))), (3, (.int .u8 (124 : Int))), (4, (.int .u8 (112 : Int)))]) (cs := #[(.int .u8 (127 : Int)), (.int .u8 (126 : Int)), (.int .u8 (125 : Int)), (.int .u8 (124 : Int)), (.int .u8 (112 : Int))]) rfl Try.underlying47 (by kernel_rfl) rfl (by kernel_rfl)) rfl rfl rfl ?_; clear hf fa; rintro fa _ w1 ⟨b1, rfl, hle1, hk1, he1⟩ hf
  have hBb1 : w.heap.size ≤ b1 := Nat.le_trans hb.size hle1
  replace hb := hb.trans (Below.mono he1 hb.size)
  refine sqv hf (r_lensl rfl Try.underlying47) rfl rfl rfl ?_; clear hf fa; intro fa hf
  have hr1 := Row.of_new (k := 1) (V := (vInt .u8)) (l := [(127 : Int), (126 : Int), (125 : Int), (124 : Int), (112 : Int)]) (base := w.heap.size) hk1 (by omega) rfl rfl (Nat.le_of_ble_eq_true rfl)
  refine sqv hf (r_move rfl) rfl rfl rfl ?_; clear hf fa; intro fa hf
  apply wpList_nil
  (try simp only [Exit.then, Exit.inBlock, ↓reduceIte, Nat.reduceEqDiff])
  refine hK3 _ _ ?_
  refine wp_block ?_
  refine wp_loop_k (fun mq fa wr => ∃ (k : Nat), mq = 5 - k ∧ Fr 17 fa [(0, (.string s)), (6, (.int .i64 (5 : Int))), (7, (.int .i64 ((k : Nat) : Int))), (5, (.slice (some ⟨b1, 0, none⟩) 5 5))] ∧ Below w.heap.size w wr ∧ Row 1 (vInt .u8) 5 (w.heap.size) wr (.slice (some ⟨b1, 0, none⟩) (5) 5) [(127 : Int), (126 : Int), (125 : Int), (124 : Int), (112 : Int)] ∧ (k ≤ 5) ∧ (byteP s = byteR s ([(127 : Int), (126 : Int), (125 : Int), (124 : Int), (112 : Int)].drop k))) ?_ ?_
  · skip
    exact ⟨_, 0, rfl, hf.sub ⟨rfl, rfl, (some_int (by first | rfl | omega)), rfl, trivial⟩, hb, hr1, by omega, rfl⟩
  · skip
    clear hf fa; intro mq1 fa w2 hI KL1 hKL1
    clear hb
    clear hr1
    obtain ⟨k, hmq1, hf, hb, hrhr1, hk, Hs⟩ := hI
    have hcrhr1 := Row.caps hrhr1
    refine wp_seq_k (fun K4 hK4 => ?_)
    refine wp_region_lit ?_
    refine sqv hf (r_lt rfl rfl) rfl rfl rfl ?_; clear hf fa; intro fa hf
    apply wpList_nil
    (try simp only [Exit.then, Exit.inBlock, ↓reduceIte, Nat.reduceEqDiff])
    refine hK4 _ _ ?_
    refine wp_seq_k (fun K5 hK5 => ?_)
    refine wp_cond_split (t := (decide (((k : Nat) : Int) < (5 : Int)))) (hf.ev rfl) (fun hqt8_1 => ?_) (fun hqt8_1 => ?_)
    · have hqt8_1b := hqt8_1
      try simp only [decide_eq_true_eq, Bool.and_eq_true, Bool.or_eq_true, Bool.not_eq_true', decide_eq_false_iff_not, ne_eq, Bool.not_eq_true] at hqt8_1
      refine wp_skip ?_
      (try simp only [Exit.then, Exit.inBlock, ↓reduceIte, Nat.reduceEqDiff])
      refine hK5 _ _ ?_
      refine wp_seq_k (fun K6 hK6 => ?_)
      refine wp_block ?_
      refine wp_seq_k (fun K7 hK7 => ?_)
      obtain ⟨yb, hyB⟩ : ∃ x, ([(127 : Int), (126 : Int), (125 : Int), (124 : Int), (112 : Int)])[k]? = some x := ⟨_, List.getElem?_eq_getElem (by simp only [List.length_cons, List.length_nil]; omega)⟩
      have hyr : 0 ≤ yb ∧ yb < 256 := by have := List.mem_of_getElem? hyB; simp at this; omega
      refine wp_region_lit ?_
      have hy1 : ([(127 : Int), (126 : Int), (125 : Int), (124 : Int), (112 : Int)])[k]? = some yb := hyB
      have hel1 := RdS.at (Row.rd (by intros; rfl) hrhr1) hy1
      obtain ⟨_, _, hab, hlr1, hel1⟩ := hel1
      cases hab
      refine sqv hf (r_ixa (sz := 1) (j := k) rfl rfl Try.underlying47 (by kernel_rfl) rfl (by omega) rfl) rfl rfl rfl ?_; clear hf fa; intro fa hf
      refine sqv hf (r_load (v := (.int .u8 yb)) rfl Try.underlying5 rfl (cellsAt_cell hel1 (i := 0) rfl rfl)) rfl rfl rfl ?_; clear hf fa; intro fa hf
      refine sqv hf (r_assign rfl) rfl rfl rfl ?_; clear hf fa; intro fa hf
      apply wpList_nil
      (try simp only [Exit.then, Exit.inBlock, ↓reduceIte, Nat.reduceEqDiff])
      refine hK7 _ _ ?_
      refine wp_seq_k (fun K8 hK8 => ?_)
      refine wp_region_lit ?_
      refine sqv hf (r_move rfl) rfl rfl rfl ?_; clear hf fa; intro fa hf
      refine sqdt hf (d_callS (vs := [(.int .u8 yb)]) rfl Try.func51 (by kernel_rfl) (by kernel_rfl) (tname_any yb _)) rfl rfl rfl ?_; clear hf fa; rintro fa _ _ ⟨rfl, rfl⟩ hf
      refine sqv hf (r_move rfl) rfl rfl rfl ?_; clear hf fa; intro fa hf
      refine sqv hf (r_seq rfl rfl) rfl rfl rfl ?_; clear hf fa; intro fa hf
      apply wpList_nil
      (try simp only [Exit.then, Exit.inBlock, ↓reduceIte, Nat.reduceEqDiff])
      refine hK8 _ _ ?_
      refine wp_cond_split (t := (decide ((tnameP yb) = s))) (hf.ev rfl) (fun hqt14_1 => ?_) (fun hqt14_1 => ?_)
      · have hqt14_1b := hqt14_1
        try simp only [decide_eq_true_eq, Bool.and_eq_true, Bool.or_eq_true, Bool.not_eq_true', decide_eq_false_iff_not, ne_eq, Bool.not_eq_true] at hqt14_1
        refine wp_seq_k (fun K9 hK9 => ?_)
        refine wp_region_lit ?_
        refine sqv hf (r_move rfl) rfl rfl rfl ?_; clear hf fa; intro fa hf
        refine sqv hf (r_assign rfl) rfl rfl rfl ?_; clear hf fa; intro fa hf
        apply wpList_nil
        (try simp only [Exit.then, Exit.inBlock, ↓reduceIte, Nat.reduceEqDiff])
        refine hK9 _ _ ?_
        refine wp_ret ?_
        (try simp only [Exit.then, Exit.inBlock])
        refine ret1 hf rfl rfl ?_
        refine ⟨congrArg (fun n => Ending.returned (.int .u8 n)) ?_, hb⟩; rw [Hs, drop_at hyB, byteR, if_pos hqt14_1]
      · have hqt14_1b := hqt14_1
        replace hqt14_1 := Bool.eq_false_iff.1 hqt14_1
        try simp only [ne_eq, decide_eq_true_eq, Bool.and_eq_true, Bool.or_eq_true, Bool.not_eq_true', decide_eq_false_iff_not] at hqt14_1
        refine wp_skip ?_
        (try simp only [Exit.then, Exit.inBlock, ↓reduceIte, Nat.reduceEqDiff])
        refine hK6 _ _ ?_
        refine wp_region_lit ?_
        refine sqv hf (r_add (C := (((k : Nat) : Int) + (1 : Int))) rfl rfl (by rw [IntKind.wrap_i64]; omega)) rfl rfl rfl ?_; clear hf fa; intro fa hf
        refine sqv hf (r_move rfl) rfl rfl rfl ?_; clear hf fa; intro fa hf
        apply wpList_nil
        (try simp only [Exit.then, Exit.inBlock, ↓reduceIte, Nat.reduceEqDiff])
        refine hKL1 _ _ _ (by omega) ⟨(k + 1), rfl, hf.sub ⟨rfl, rfl, (some_int (by first | rfl | omega)), rfl, trivial⟩, hb, hrhr1, by omega, (by have h := Hs; rw [drop_at hyB, byteR, if_neg hqt14_1] at h; exact h)⟩
    · have hqt8_1b := hqt8_1
      replace hqt8_1 := Bool.eq_false_iff.1 hqt8_1
      try simp only [ne_eq, decide_eq_true_eq, Bool.and_eq_true, Bool.or_eq_true, Bool.not_eq_true', decide_eq_false_iff_not] at hqt8_1
      refine wp_exit ?_
      (try simp only [Exit.then, Exit.inBlock, ↓reduceIte, Nat.reduceEqDiff])
      refine hK2 _ _ ?_
      refine wp_seq_k (fun K10 hK10 => ?_)
      refine wp_region_lit ?_
      refine sqv hf (r_assign rfl) rfl rfl rfl ?_; clear hf fa; intro fa hf
      apply wpList_nil
      (try simp only [Exit.then, Exit.inBlock, ↓reduceIte, Nat.reduceEqDiff])
      refine hK10 _ _ ?_
      refine wp_ret ?_
      (try simp only [Exit.then, Exit.inBlock])
      refine ret1 hf rfl rfl ?_
      refine ⟨congrArg (fun n => Ending.returned (.int .u8 n)) ?_, hb⟩; obtain rfl : k = 5 := by omega
      rw [Hs]; rfl
end Go.Proofs.Ytcmdajkkdognfaa
