/- What is proved here: what the texts of names (Show, Read), and the document's of them, come to. -/
import Derived.Test.YtahgkfekggkjnaaUtG
import Derived.Test.YtahgkfekggkjnaaSxC
namespace Go.Proofs.Ytahgkfekggkjnaa
open Go.RowKit
set_option linter.unusedVariables false
set_option linter.unusedSimpArgs false

theorem bl_mid (s : ByteArray) (a b : Nat) : bl (s.extract a b) = ((bl s).drop a).take (b - a) := by
  unfold bl
  rw [← List.map_drop, ← List.map_take]
  congr 1
  rw [ByteArray.data_extract, Array.toList_extract, List.extract_eq_take_drop]
theorem or_i64 (a b : Nat) (ha : a < 16) (hb : b < 16) : bits BinOp.or .i64 ((a * 16 : Nat) : Int) (b : Int) = ((a * 16 + b : Nat) : Int) := by
  have : ∀ x : Fin 16, ∀ y : Fin 16, bits BinOp.or .i64 ((x.val * 16 : Nat) : Int) ((y.val : Nat) : Int) = ((x.val * 16 + y.val : Nat) : Int) := by decide +kernel
  exact this ⟨a, ha⟩ ⟨b, hb⟩
theorem decP_short (f : Nat) (r : List Nat) (h : r.length < 2) : decP (f + 1) (92 :: r) = none := by
  match r, h with
  | [], _ => rfl
  | [a], _ => rfl
theorem decP_end (f : Nat) : decP f [] = some [] := by cases f <;> rfl
theorem decR_end (f : Nat) : decR f [] = some [] := by cases f <;> rfl
theorem bl_sbt (s : ByteArray) (n : Nat) (h : n < s.size) : (bl s).getD n 0 = sbt s n := bl_getD s n h
theorem bl_dropc (s : ByteArray) (n : Nat) (h : n < s.size) : (bl s).drop n = sbt s n :: (bl s).drop (n + 1) := by
  have h2 : n < (bl s).length := by rw [bl_length]; exact h
  rw [List.drop_eq_getElem_cons h2, ← bl_sbt s n h, List.getD_eq_getElem?_getD, List.getElem?_eq_getElem h2]; rfl
theorem bl_one (s : ByteArray) (n : Nat) (h : n < s.size) : bl (s.extract n (n + 1)) = [sbt s n] := by
  rw [bl_mid, bl_dropc s n h]; simp
theorem bl_hex (j : Nat) (h : j < 16) : bl ((⟨#[48, 49, 50, 51, 52, 53, 54, 55, 56, 57, 97, 98, 99, 100, 101, 102]⟩ : ByteArray).extract j (j + 1)) = [digN j] := by
  rw [bl_mid]
  have : ∀ x : Fin 16, ((bl (⟨#[48, 49, 50, 51, 52, 53, 54, 55, 56, 57, 97, 98, 99, 100, 101, 102]⟩ : ByteArray)).drop x.val).take (x.val + 1 - x.val) = [digN x.val] := by decide +kernel
  exact this ⟨j, h⟩
theorem sh_esc {c : Nat} (h : ((c : Int) < 32 ∨ (126 : Int) < c) ∨ (c : Int) = 34 ∨ (c : Int) = 92) : sh c = [92, digN (c / 16), digN (c % 16)] := by
  unfold sh; rw [if_neg (by omega)]
theorem sh_pl {c : Nat} (h : ¬ (((c : Int) < 32 ∨ (126 : Int) < c) ∨ (c : Int) = 34 ∨ (c : Int) = 92)) : sh c = [c] := by
  unfold sh; rw [if_pos (by omega)]
def nI (l : List Nat) : List Int := l.map fun (x : Nat) => (x : Int)
@[simp] theorem nI_length (l : List Nat) : (nI l).length = l.length := by simp [nI]
theorem strN_size (l : List Nat) : (strN l).size = l.length := by unfold strN; rw [strOfNums_size]; simp
theorem strN_bl (s : ByteArray) : strN (bl s) = s := bl_inj (bl_strN _ (bl_lt s))
theorem strN_inj {a b : List Nat} (ha : ∀ x ∈ a, x < 256) (hb : ∀ x ∈ b, x < 256) (h : strN a = strN b) : a = b := by
  have := congrArg bl h; rwa [bl_strN _ ha, bl_strN _ hb] at this
theorem valI_lt (c : Nat) (h : ¬ valI c < 0) : ∃ x : Nat, valI c = x ∧ x < 16 := by
  unfold valI at h ⊢
  split
  · exact ⟨c - 48, by omega, by omega⟩
  · split
    · exact ⟨c - 87, by omega, by omega⟩
    · rename_i h1 h2; rw [if_neg h1, if_neg h2] at h; omega
theorem map_map_app {d : Option (List Nat)} (o p : List Nat) : (d.map (p ++ ·)).map (o ++ ·) = d.map ((o ++ p) ++ ·) := by
  cases d <;> simp
theorem decP_pl0 {f c : Nat} {r : List Nat} (h : ¬ c = 92) : decP (f + 1) (c :: r) = (decP f r).map (c :: ·) := by
  conv => lhs; unfold decP
  simp only [ne_eq, h, not_false_eq_true, if_true]
theorem decP_pl {f c : Nat} {r o : List Nat} (h : ¬ c = 92) : (decP (f + 1) (c :: r)).map (o ++ ·) = (decP f r).map ((o ++ [c]) ++ ·) := by
  rw [decP_pl0 h]; cases decP f r <;> simp
theorem decP_es {f a b : Nat} {r o : List Nat} (h : ¬ (valI a < 0 ∨ valI b < 0)) : (decP (f + 1) (92 :: a :: b :: r)).map (o ++ ·) = (decP f r).map ((o ++ [(valI a).toNat * 16 + (valI b).toNat]) ++ ·) := by
  rw [decP, if_neg (by simp)]; simp only [if_neg h]; cases decP f r <;> simp
theorem decP_no {f a b : Nat} {r : List Nat} (h : valI a < 0 ∨ valI b < 0) : decP (f + 1) (92 :: a :: b :: r) = none := by
  rw [decP, if_neg (by simp)]; simp only [if_pos h]
theorem decR_some0 {f c a : Nat} {r : List Nat} (h : findR (a :: r) 0 256 = some c) : decR (f + 1) (a :: r) = (decR f ((a :: r).drop (sh c).length)).map (c :: ·) := by
  conv => lhs; unfold decR
  simp only [h]
theorem decR_some {f c : Nat} {l o : List Nat} (hl : l ≠ []) (h : findR l 0 256 = some c) : (decR (f + 1) l).map (o ++ ·) = (decR f (l.drop (sh c).length)).map ((o ++ [c]) ++ ·) := by
  cases l with
  | nil => exact absurd rfl hl
  | cons a r => rw [decR_some0 h]; cases decR f ((a :: r).drop (sh c).length) <;> simp
theorem decR_none {f : Nat} {l : List Nat} (hl : l ≠ []) (h : findR l 0 256 = none) : decR (f + 1) l = none := by
  cases l with
  | nil => exact absurd rfl hl
  | cons a r => unfold decR; simp only [h]
theorem good_of (s : ByteArray) (h : 2 ≤ s.size) (h1 : sbt s 0 = 34) (h2 : sbt s (s.size - 1) = 34) : goodB (bl s) = true := by
  unfold goodB; rw [bl_length, bl_sbt s 0 (by omega), bl_sbt s (s.size - 1) (by omega), h1, h2]; simp; exact h
theorem inner_bl (s : ByteArray) : inner (bl s) = bl (s.extract 1 (s.size - 1)) := by
  rw [bl_mid]; unfold inner; rw [bl_length]; congr 1
set_option maxHeartbeats 1000000 in
set_option maxRecDepth 100000 in
theorem value_any (c : Nat) (h : c < 256) (w : World) : Calls Try.prog 61 #[(.int .u8 ((c : Nat) : Int))] w fun e w' => e = .returned (.int .i64 (valI c)) ∧ w = w' := by
  refine sx_enter (L := [(0, (.int .u8 ((c : Nat) : Int)))]) Try.func61 rfl rfl rfl rfl (fun fa hf => ?_)
  have hb : Below w.heap.size w w := Below.refl _ _
  refine wp_seq_k (fun K1 hK1 => ?_)
  refine wp_region_lit ?_
  refine sqv hf (r_assign rfl) rfl rfl rfl ?_; clear hf fa; intro fa hf
  apply wpList_nil
  (try simp only [Exit.then, Exit.inBlock, ↓reduceIte, Nat.reduceEqDiff])
  refine hK1 _ _ ?_
  refine wp_seq_k (fun K2 hK2 => ?_)
  refine wp_block ?_
  refine wp_seq_k (fun K3 hK3 => ?_)
  refine wp_region_lit ?_
  refine sqv hf (r_move rfl) rfl rfl rfl ?_; clear hf fa; intro fa hf
  refine sqv hf (r_ge rfl rfl) rfl rfl rfl ?_; clear hf fa; intro fa hf
  refine sqv hf (r_move rfl) rfl rfl rfl ?_; clear hf fa; intro fa hf
  refine sqgT (act := (decide ((48 : Int) ≤ ((c : Nat) : Int)))) (ag := true) (c := (decide ((48 : Int) ≤ ((c : Nat) : Int)))) (v := (.int .u8 ((c : Nat) : Int))) hf rfl rfl rfl (fun hact => (r_move rfl)) rfl rfl ?_; clear hf fa; intro fa hf
  refine sqgT (act := (decide ((48 : Int) ≤ ((c : Nat) : Int)))) (ag := true) (c := (decide ((48 : Int) ≤ ((c : Nat) : Int)))) (v := (.bool (decide (((c : Nat) : Int) ≤ (57 : Int))))) hf rfl rfl rfl (fun hact => (r_le (gb_ev hact rfl) rfl)) rfl rfl ?_; clear hf fa; intro fa hf
  refine sqv hf (r_pickA (b := (decide ((48 : Int) ≤ ((c : Nat) : Int)))) (e := (decide (((c : Nat) : Int) ≤ (57 : Int)))) rfl rfl rfl) rfl rfl rfl ?_; clear hf fa; intro fa hf
  refine sqv hf (r_assign rfl) rfl rfl rfl ?_; clear hf fa; intro fa hf
  apply wpList_nil
  (try simp only [Exit.then, Exit.inBlock, ↓reduceIte, Nat.reduceEqDiff])
  refine hK3 _ _ ?_
  refine wp_cond_split (t := ((decide ((48 : Int) ≤ ((c : Nat) : Int))) && (decide (((c : Nat) : Int) ≤ (57 : Int))))) (hf.ev rfl) (fun hqt3_1 => ?_) (fun hqt3_1 => ?_)
  · have hqt3_1b := hqt3_1
    try simp only [decide_eq_true_eq, Bool.and_eq_true, Bool.or_eq_true, Bool.not_eq_true', decide_eq_false_iff_not, ne_eq, Bool.not_eq_true] at hqt3_1
    refine wp_seq_k (fun K4 hK4 => ?_)
    refine wp_region_lit ?_
    refine sqv hf (r_move rfl) rfl rfl rfl ?_; clear hf fa; intro fa hf
    refine sqv hf (r_sub (C := (((c : Nat) : Int) - (48 : Int))) rfl rfl (by rw [IntKind.wrap_u8]; omega)) rfl rfl rfl ?_; clear hf fa; intro fa hf
    refine sqv hf (r_conv (C := (((c : Nat) : Int) - (48 : Int))) rfl Try.underlying5 Try.underlying3 (by rw [IntKind.wrap_i64]; omega)) rfl rfl rfl ?_; clear hf fa; intro fa hf
    refine sqv hf (r_assign rfl) rfl rfl rfl ?_; clear hf fa; intro fa hf
    apply wpList_nil
    (try simp only [Exit.then, Exit.inBlock, ↓reduceIte, Nat.reduceEqDiff])
    refine hK4 _ _ ?_
    refine wp_ret ?_
    (try simp only [Exit.then, Exit.inBlock])
    refine ret1 hf rfl rfl ?_
    refine ⟨?_, rfl⟩; congr 2; unfold valI; split <;> (try split) <;> omega
  · have hqt3_1b := hqt3_1
    replace hqt3_1 := Bool.eq_false_iff.1 hqt3_1
    try simp only [ne_eq, decide_eq_true_eq, Bool.and_eq_true, Bool.or_eq_true, Bool.not_eq_true', decide_eq_false_iff_not] at hqt3_1
    refine wp_seq_k (fun K5 hK5 => ?_)
    refine wp_region_lit ?_
    refine sqv hf (r_move rfl) rfl rfl rfl ?_; clear hf fa; intro fa hf
    refine sqv hf (r_ge rfl rfl) rfl rfl rfl ?_; clear hf fa; intro fa hf
    refine sqv hf (r_move rfl) rfl rfl rfl ?_; clear hf fa; intro fa hf
    refine sqgT (act := (decide ((97 : Int) ≤ ((c : Nat) : Int)))) (ag := true) (c := (decide ((97 : Int) ≤ ((c : Nat) : Int)))) (v := (.int .u8 ((c : Nat) : Int))) hf rfl rfl rfl (fun hact => (r_move rfl)) rfl rfl ?_; clear hf fa; intro fa hf
    refine sqgT (act := (decide ((97 : Int) ≤ ((c : Nat) : Int)))) (ag := true) (c := (decide ((97 : Int) ≤ ((c : Nat) : Int)))) (v := (.bool (decide (((c : Nat) : Int) ≤ (102 : Int))))) hf rfl rfl rfl (fun hact => (r_le (gb_ev hact rfl) rfl)) rfl rfl ?_; clear hf fa; intro fa hf
    refine sqv hf (r_pickA (b := (decide ((97 : Int) ≤ ((c : Nat) : Int)))) (e := (decide (((c : Nat) : Int) ≤ (102 : Int)))) rfl rfl rfl) rfl rfl rfl ?_; clear hf fa; intro fa hf
    refine sqv hf (r_assign rfl) rfl rfl rfl ?_; clear hf fa; intro fa hf
    apply wpList_nil
    (try simp only [Exit.then, Exit.inBlock, ↓reduceIte, Nat.reduceEqDiff])
    refine hK5 _ _ ?_
    refine wp_cond_split (t := ((decide ((97 : Int) ≤ ((c : Nat) : Int))) && (decide (((c : Nat) : Int) ≤ (102 : Int))))) (hf.ev rfl) (fun hqt13_1 => ?_) (fun hqt13_1 => ?_)
    · have hqt13_1b := hqt13_1
      try simp only [decide_eq_true_eq, Bool.and_eq_true, Bool.or_eq_true, Bool.not_eq_true', decide_eq_false_iff_not, ne_eq, Bool.not_eq_true] at hqt13_1
      refine wp_seq_k (fun K6 hK6 => ?_)
      refine wp_region_lit ?_
      refine sqv hf (r_move rfl) rfl rfl rfl ?_; clear hf fa; intro fa hf
      refine sqv hf (r_sub (C := (((c : Nat) : Int) - (97 : Int))) rfl rfl (by rw [IntKind.wrap_u8]; omega)) rfl rfl rfl ?_; clear hf fa; intro fa hf
      refine sqv hf (r_conv (C := (((c : Nat) : Int) - (97 : Int))) rfl Try.underlying5 Try.underlying3 (by rw [IntKind.wrap_i64]; omega)) rfl rfl rfl ?_; clear hf fa; intro fa hf
      refine sqv hf (r_add (C := ((((c : Nat) : Int) - (97 : Int)) + (10 : Int))) rfl rfl (by rw [IntKind.wrap_i64]; omega)) rfl rfl rfl ?_; clear hf fa; intro fa hf
      refine sqv hf (r_assign rfl) rfl rfl rfl ?_; clear hf fa; intro fa hf
      apply wpList_nil
      (try simp only [Exit.then, Exit.inBlock, ↓reduceIte, Nat.reduceEqDiff])
      refine hK6 _ _ ?_
      refine wp_ret ?_
      (try simp only [Exit.then, Exit.inBlock])
      refine ret1 hf rfl rfl ?_
      refine ⟨?_, rfl⟩; congr 2; unfold valI; split <;> (try split) <;> omega
    · have hqt13_1b := hqt13_1
      replace hqt13_1 := Bool.eq_false_iff.1 hqt13_1
      try simp only [ne_eq, decide_eq_true_eq, Bool.and_eq_true, Bool.or_eq_true, Bool.not_eq_true', decide_eq_false_iff_not] at hqt13_1
      refine wp_skip ?_
      (try simp only [Exit.then, Exit.inBlock, ↓reduceIte, Nat.reduceEqDiff])
      refine hK2 _ _ ?_
      refine wp_seq_k (fun K7 hK7 => ?_)
      refine wp_region_lit ?_
      refine sqv hf (r_assign rfl) rfl rfl rfl ?_; clear hf fa; intro fa hf
      apply wpList_nil
      (try simp only [Exit.then, Exit.inBlock, ↓reduceIte, Nat.reduceEqDiff])
      refine hK7 _ _ ?_
      refine wp_ret ?_
      (try simp only [Exit.then, Exit.inBlock])
      refine ret1 hf rfl rfl ?_
      refine ⟨?_, rfl⟩; congr 2; unfold valI; split <;> (try split) <;> omega

set_option maxHeartbeats 1000000 in
set_option maxRecDepth 100000 in
theorem refShow_any (s : ByteArray) (w : World) (hs : s.size ≤ 1000000) : Calls Try.prog 20 #[(.string s)] w fun e w' => e = .returned (.string (strN (showL (bl s)))) ∧ Below w.heap.size w w' := by
  refine sx_enter (L := [(0, (.string s))]) Try.func20 rfl rfl rfl rfl (fun fa hf => ?_)
  have hb : Below w.heap.size w w := Below.refl _ _
  refine wp_seq_k (fun K1 hK1 => ?_)
  refine wp_region_lit ?_
  refine sqv hf (r_assign rfl) rfl rfl rfl ?_; clear hf fa; intro fa hf
  apply wpList_nil
  (try simp only [Exit.then, Exit.inBlock, ↓reduceIte, Nat.reduceEqDiff])
  refine hK1 _ _ ?_
  refine wp_seq_k (fun K2 hK2 => ?_)
  refine wp_region_lit ?_
  refine sqv hf (r_assign rfl) rfl rfl rfl ?_; clear hf fa; intro fa hf
  apply wpList_nil
  (try simp only [Exit.then, Exit.inBlock, ↓reduceIte, Nat.reduceEqDiff])
  refine hK2 _ _ ?_
  refine wp_seq_k (fun K3 hK3 => ?_)
  refine wp_region_lit ?_
  refine sqv hf (r_assign rfl) rfl rfl rfl ?_; clear hf fa; intro fa hf
  apply wpList_nil
  (try simp only [Exit.then, Exit.inBlock, ↓reduceIte, Nat.reduceEqDiff])
  refine hK3 _ _ ?_
  refine wp_seq_k (fun K4 hK4 => ?_)
  refine wp_seq_k (fun K5 hK5 => ?_)
  refine wp_region_lit ?_
  refine sqv hf (r_assign rfl) rfl rfl rfl ?_; clear hf fa; intro fa hf
  apply wpList_nil
  (try simp only [Exit.then, Exit.inBlock, ↓reduceIte, Nat.reduceEqDiff])
  refine hK5 _ _ ?_
  refine wp_block ?_
  refine wp_loop_k (fun m fa wr => ∃ (n : Nat) (a : ByteArray), m = s.size - n ∧ Fr 57 fa [(0, (.string s)), (3, (.string ⟨#[48, 49, 50, 51, 52, 53, 54, 55, 56, 57, 97, 98, 99, 100, 101, 102]⟩)), (4, (.string a)), (5, (.int .i64 ((n : Nat) : Int)))] ∧ Below w.heap.size w wr ∧ (n ≤ s.size) ∧ (bl a = 34 :: ((bl s).take n).flatMap sh)) ?_ ?_
  · skip
    exact ⟨_, 0, ⟨#[34]⟩, rfl, hf.sub ⟨rfl, rfl, rfl, (some_int (by first | rfl | omega)), trivial⟩, hb, by omega, (by simp [bl])⟩
  · skip
    clear hf fa; intro m1 fa w1 hI KL1 hKL1
    clear hb
    obtain ⟨n, a, hm1, hf, hb, hn, Hs⟩ := hI
    have hal : a.size ≤ 1 + 3 * n := by have h := congrArg List.length Hs; rw [bl_length] at h; have h2 := flat_len ((bl s).take n); simp only [List.length_cons, List.length_take] at h h2; omega
    refine wp_seq_k (fun K6 hK6 => ?_)
    refine wp_seq_k (fun K7 hK7 => ?_)
    refine wp_region_lit ?_
    refine sqv hf (r_move rfl) rfl rfl rfl ?_; clear hf fa; intro fa hf
    refine sqv hf (r_move rfl) rfl rfl rfl ?_; clear hf fa; intro fa hf
    refine sqv hf (r_lens rfl Try.underlying9) rfl rfl rfl ?_; clear hf fa; intro fa hf
    refine sqv hf (r_lt rfl rfl) rfl rfl rfl ?_; clear hf fa; intro fa hf
    apply wpList_nil
    (try simp only [Exit.then, Exit.inBlock, ↓reduceIte, Nat.reduceEqDiff])
    refine hK7 _ _ ?_
    refine wp_cond_split (t := (decide (((n : Nat) : Int) < ((s.size : Nat) : Int)))) (hf.ev rfl) (fun hqt10_1 => ?_) (fun hqt10_1 => ?_)
    · have hqt10_1b := hqt10_1
      try simp only [decide_eq_true_eq, Bool.and_eq_true, Bool.or_eq_true, Bool.not_eq_true', decide_eq_false_iff_not, ne_eq, Bool.not_eq_true] at hqt10_1
      refine wp_skip ?_
      (try simp only [Exit.then, Exit.inBlock, ↓reduceIte, Nat.reduceEqDiff])
      refine hK6 _ _ ?_
      refine wp_seq_k (fun K8 hK8 => ?_)
      refine wp_block ?_
      refine wp_seq_k (fun K9 hK9 => ?_)
      refine wp_region_lit ?_
      refine sqv hf (r_move rfl) rfl rfl rfl ?_; clear hf fa; intro fa hf
      refine sqv hf (r_move rfl) rfl rfl rfl ?_; clear hf fa; intro fa hf
      refine sqv hf (r_sindexD (j := n) rfl rfl Try.underlying9 rfl (by omega)) rfl rfl rfl ?_; clear hf fa; intro fa hf
      refine sqv hf (r_assign rfl) rfl rfl rfl ?_; clear hf fa; intro fa hf
      apply wpList_nil
      (try simp only [Exit.then, Exit.inBlock, ↓reduceIte, Nat.reduceEqDiff])
      refine hK9 _ _ ?_
      refine wp_seq_k (fun K10 hK10 => ?_)
      have hsl := sbt_lt s n
      refine wp_region_lit ?_
      refine sqv hf (r_move rfl) rfl rfl rfl ?_; clear hf fa; intro fa hf
      refine sqv hf (r_lt rfl rfl) rfl rfl rfl ?_; clear hf fa; intro fa hf
      refine sqv hf (r_move rfl) rfl rfl rfl ?_; clear hf fa; intro fa hf
      refine sqgF (act := (!(decide (((sbt s n : Nat) : Int) < (32 : Int))))) (ag := true) (c := (decide (((sbt s n : Nat) : Int) < (32 : Int)))) (v := (.int .u8 ((sbt s n : Nat) : Int))) hf rfl rfl rfl (fun hact => (r_move rfl)) rfl rfl ?_; clear hf fa; intro fa hf
      refine sqgF (act := (!(decide (((sbt s n : Nat) : Int) < (32 : Int))))) (ag := true) (c := (decide (((sbt s n : Nat) : Int) < (32 : Int)))) (v := (.bool (decide ((126 : Int) < ((sbt s n : Nat) : Int))))) hf rfl rfl rfl (fun hact => (r_gt (gb_ev hact rfl) rfl)) rfl rfl ?_; clear hf fa; intro fa hf
      refine sqv hf (r_pickO (b := (decide (((sbt s n : Nat) : Int) < (32 : Int)))) (e := (decide ((126 : Int) < ((sbt s n : Nat) : Int)))) rfl rfl rfl) rfl rfl rfl ?_; clear hf fa; intro fa hf
      refine sqv hf (r_move rfl) rfl rfl rfl ?_; clear hf fa; intro fa hf
      refine sqgF (act := (!((decide (((sbt s n : Nat) : Int) < (32 : Int))) || (decide ((126 : Int) < ((sbt s n : Nat) : Int)))))) (ag := true) (c := ((decide (((sbt s n : Nat) : Int) < (32 : Int))) || (decide ((126 : Int) < ((sbt s n : Nat) : Int))))) (v := (.int .u8 ((sbt s n : Nat) : Int))) hf rfl rfl rfl (fun hact => (r_move rfl)) rfl rfl ?_; clear hf fa; intro fa hf
      refine sqgF (act := (!((decide (((sbt s n : Nat) : Int) < (32 : Int))) || (decide ((126 : Int) < ((sbt s n : Nat) : Int)))))) (ag := true) (c := ((decide (((sbt s n : Nat) : Int) < (32 : Int))) || (decide ((126 : Int) < ((sbt s n : Nat) : Int))))) (v := (.bool (decide (((sbt s n : Nat) : Int) = (34 : Int))))) hf rfl rfl rfl (fun hact => (r_eq (gb_ev hact rfl) rfl)) rfl rfl ?_; clear hf fa; intro fa hf
      refine sqv hf (r_pickO (b := ((decide (((sbt s n : Nat) : Int) < (32 : Int))) || (decide ((126 : Int) < ((sbt s n : Nat) : Int))))) (e := (decide (((sbt s n : Nat) : Int) = (34 : Int)))) rfl rfl rfl) rfl rfl rfl ?_; clear hf fa; intro fa hf
      refine sqv hf (r_move rfl) rfl rfl rfl ?_; clear hf fa; intro fa hf
      refine sqgF (act := (!(((decide (((sbt s n : Nat) : Int) < (32 : Int))) || (decide ((126 : Int) < ((sbt s n : Nat) : Int)))) || (decide (((sbt s n : Nat) : Int) = (34 : Int)))))) (ag := true) (c := (((decide (((sbt s n : Nat) : Int) < (32 : Int))) || (decide ((126 : Int) < ((sbt s n : Nat) : Int)))) || (decide (((sbt s n : Nat) : Int) = (34 : Int))))) (v := (.int .u8 ((sbt s n : Nat) : Int))) hf rfl rfl rfl (fun hact => (r_move rfl)) rfl rfl ?_; clear hf fa; intro fa hf
      refine sqgF (act := (!(((decide (((sbt s n : Nat) : Int) < (32 : Int))) || (decide ((126 : Int) < ((sbt s n : Nat) : Int)))) || (decide (((sbt s n : Nat) : Int) = (34 : Int)))))) (ag := true) (c := (((decide (((sbt s n : Nat) : Int) < (32 : Int))) || (decide ((126 : Int) < ((sbt s n : Nat) : Int)))) || (decide (((sbt s n : Nat) : Int) = (34 : Int))))) (v := (.bool (decide (((sbt s n : Nat) : Int) = (92 : Int))))) hf rfl rfl rfl (fun hact => (r_eq (gb_ev hact rfl) rfl)) rfl rfl ?_; clear hf fa; intro fa hf
      refine sqv hf (r_pickO (b := (((decide (((sbt s n : Nat) : Int) < (32 : Int))) || (decide ((126 : Int) < ((sbt s n : Nat) : Int)))) || (decide (((sbt s n : Nat) : Int) = (34 : Int))))) (e := (decide (((sbt s n : Nat) : Int) = (92 : Int)))) rfl rfl rfl) rfl rfl rfl ?_; clear hf fa; intro fa hf
      apply wpList_nil
      (try simp only [Exit.then, Exit.inBlock, ↓reduceIte, Nat.reduceEqDiff])
      refine hK10 _ _ ?_
      refine wp_cond_split (t := ((((decide (((sbt s n : Nat) : Int) < (32 : Int))) || (decide ((126 : Int) < ((sbt s n : Nat) : Int)))) || (decide (((sbt s n : Nat) : Int) = (34 : Int)))) || (decide (((sbt s n : Nat) : Int) = (92 : Int))))) (hf.ev rfl) (fun hqt29_1 => ?_) (fun hqt29_1 => ?_)
      · have hqt29_1b := hqt29_1
        try simp only [decide_eq_true_eq, Bool.and_eq_true, Bool.or_eq_true, Bool.not_eq_true', decide_eq_false_iff_not, ne_eq, Bool.not_eq_true] at hqt29_1
        have hsl := sbt_lt s n
        refine wp_region_un (fun wq => Below w1.heap.size w1 wq) (fun w w' => Below w.heap.size w w')
          (fun V => [(fun x _ => x = (.string a)), (fun x _ => x = (.string (a ++ ⟨#[92]⟩))), (fun x _ => x = (.string ⟨#[48, 49, 50, 51, 52, 53, 54, 55, 56, 57, 97, 98, 99, 100, 101, 102]⟩)), (fun x _ => x = (.int .u8 ((sbt s n : Nat) : Int))), (fun x _ => x = (.int .u8 (((sbt s n : Nat) : Int) / (16 : Int)))), (fun x _ => x = (.int .u8 ((sbt s n : Nat) : Int))), (fun x _ => x = (.int .u8 (((sbt s n : Nat) : Int) / (16 : Int)))), (fun x _ => x = (.int .u8 ((((sbt s n : Nat) : Int) / (16 : Int)) + (1 : Int)))), (fun x _ => x = (.string ((⟨#[48, 49, 50, 51, 52, 53, 54, 55, 56, 57, 97, 98, 99, 100, 101, 102]⟩ : ByteArray).extract ((sbt s n) / 16) (((sbt s n) / 16) + 1)))), (fun x _ => x = (.string ((a ++ ⟨#[92]⟩) ++ ((⟨#[48, 49, 50, 51, 52, 53, 54, 55, 56, 57, 97, 98, 99, 100, 101, 102]⟩ : ByteArray).extract ((sbt s n) / 16) (((sbt s n) / 16) + 1))))), (fun x _ => x = (.string ⟨#[48, 49, 50, 51, 52, 53, 54, 55, 56, 57, 97, 98, 99, 100, 101, 102]⟩)), (fun x _ => x = (.int .u8 ((sbt s n : Nat) : Int))), (fun x _ => x = (.int .u8 (((sbt s n : Nat) : Int) % (16 : Int)))), (fun x _ => x = (.int .u8 ((sbt s n : Nat) : Int))), (fun x _ => x = (.int .u8 (((sbt s n : Nat) : Int) % (16 : Int)))), (fun x _ => x = (.int .u8 ((((sbt s n : Nat) : Int) % (16 : Int)) + (1 : Int)))), (fun x _ => x = (.string ((⟨#[48, 49, 50, 51, 52, 53, 54, 55, 56, 57, 97, 98, 99, 100, 101, 102]⟩ : ByteArray).extract ((sbt s n) % 16) (((sbt s n) % 16) + 1)))), (fun x _ => x = (.string (((a ++ ⟨#[92]⟩) ++ ((⟨#[48, 49, 50, 51, 52, 53, 54, 55, 56, 57, 97, 98, 99, 100, 101, 102]⟩ : ByteArray).extract ((sbt s n) / 16) (((sbt s n) / 16) + 1))) ++ ((⟨#[48, 49, 50, 51, 52, 53, 54, 55, 56, 57, 97, 98, 99, 100, 101, 102]⟩ : ByteArray).extract ((sbt s n) % 16) (((sbt s n) % 16) + 1))))), (fun x _ => x = (.string (((a ++ ⟨#[92]⟩) ++ ((⟨#[48, 49, 50, 51, 52, 53, 54, 55, 56, 57, 97, 98, 99, 100, 101, 102]⟩ : ByteArray).extract ((sbt s n) / 16) (((sbt s n) / 16) + 1))) ++ ((⟨#[48, 49, 50, 51, 52, 53, 54, 55, 56, 57, 97, 98, 99, 100, 101, 102]⟩ : ByteArray).extract ((sbt s n) % 16) (((sbt s n) % 16) + 1)))))])
          []
          [[], [0], [], [], [3], [], [5], [6], [2, 4, 7], [1, 8], [], [], [11], [], [13], [14], [10, 12, 15], [9, 16], [0, 1, 2, 3, 4, 5, 6, 7, 8, 9, 10, 11, 12, 13, 14, 15, 16, 17]]
          hf (by kernel_rfl) (by kernel_rfl) (fun _ => rfl) ((Below.refl _ _).drew) (fun a b h1 h2 => h1.trans (h2.mono h1.size)) (fun _ _ h => h.size) (fun V => ⟨kept_eq, kept_eq, kept_eq, kept_eq, kept_eq, kept_eq, kept_eq, kept_eq, kept_eq, kept_eq, kept_eq, kept_eq, kept_eq, kept_eq, kept_eq, kept_eq, kept_eq, kept_eq, kept_eq, trivial⟩) (fun _ _ _ _ _ => rfl) ?_ ?_
        · skip
          intro V
          refine ⟨fun wu0 hC hd => ?_, ?_⟩
          · clear hd
            replace hb := hb.trans (hC.mono hb.size)
            exact Runs.does (r_move rfl) ⟨Below.refl _ _, rfl, nofr rfl⟩
          refine ⟨fun wu1 hC hd => ?_, ?_⟩
          · obtain ⟨h0, _⟩ := hd
            skip
            replace h0 : V 0 = (.string a) := h0
            replace hb := hb.trans (hC.mono hb.size)
            exact Runs.does (r_sadd (congrArg some h0) rfl (by have : ((⟨#[92]⟩) : ByteArray).size = 1 := rfl; omega)) ⟨Below.refl _ _, rfl, nofr rfl⟩
          refine ⟨fun wu2 hC hd => ?_, ?_⟩
          · clear hd
            replace hb := hb.trans (hC.mono hb.size)
            exact Runs.does (r_move rfl) ⟨Below.refl _ _, rfl, nofr rfl⟩
          refine ⟨fun wu3 hC hd => ?_, ?_⟩
          · clear hd
            replace hb := hb.trans (hC.mono hb.size)
            exact Runs.does (r_move rfl) ⟨Below.refl _ _, rfl, nofr rfl⟩
          refine ⟨fun wu4 hC hd => ?_, ?_⟩
          · obtain ⟨h3, _⟩ := hd
            skip
            replace h3 : V 3 = (.int .u8 ((sbt s n : Nat) : Int)) := h3
            replace hb := hb.trans (hC.mono hb.size)
            exact Runs.does (r_quo (C := (((sbt s n : Nat) : Int) / (16 : Int))) (congrArg some h3) rfl (by omega) (by rw [Int.tdiv_eq_ediv_of_nonneg (by omega), IntKind.wrap_u8]; omega)) ⟨Below.refl _ _, rfl, nofr rfl⟩
          refine ⟨fun wu5 hC hd => ?_, ?_⟩
          · clear hd
            replace hb := hb.trans (hC.mono hb.size)
            exact Runs.does (r_move rfl) ⟨Below.refl _ _, rfl, nofr rfl⟩
          refine ⟨fun wu6 hC hd => ?_, ?_⟩
          · obtain ⟨h5, _⟩ := hd
            skip
            replace h5 : V 5 = (.int .u8 ((sbt s n : Nat) : Int)) := h5
            replace hb := hb.trans (hC.mono hb.size)
            exact Runs.does (r_quo (C := (((sbt s n : Nat) : Int) / (16 : Int))) (congrArg some h5) rfl (by omega) (by rw [Int.tdiv_eq_ediv_of_nonneg (by omega), IntKind.wrap_u8]; omega)) ⟨Below.refl _ _, rfl, nofr rfl⟩
          refine ⟨fun wu7 hC hd => ?_, ?_⟩
          · obtain ⟨h6, _⟩ := hd
            skip
            replace h6 : V 6 = (.int .u8 (((sbt s n : Nat) : Int) / (16 : Int))) := h6
            replace hb := hb.trans (hC.mono hb.size)
            exact Runs.does (r_add (C := ((((sbt s n : Nat) : Int) / (16 : Int)) + (1 : Int))) (congrArg some h6) rfl (by rw [IntKind.wrap_u8]; omega)) ⟨Below.refl _ _, rfl, nofr rfl⟩
          refine ⟨fun wu8 hC hd => ?_, ?_⟩
          · obtain ⟨h2, h4, h7, _⟩ := hd
            skip
            skip
            skip
            replace h2 : V 2 = (.string ⟨#[48, 49, 50, 51, 52, 53, 54, 55, 56, 57, 97, 98, 99, 100, 101, 102]⟩) := h2
            replace h4 : V 4 = (.int .u8 (((sbt s n : Nat) : Int) / (16 : Int))) := h4
            replace h7 : V 7 = (.int .u8 ((((sbt s n : Nat) : Int) / (16 : Int)) + (1 : Int))) := h7
            replace hb := hb.trans (hC.mono hb.size)
            exact Runs.does (r_sslice (a := ((sbt s n) / 16)) (b := (((sbt s n) / 16) + 1)) (k1 := .u8) (k2 := .u8) (A := (((sbt s n : Nat) : Int) / (16 : Int))) (B := ((((sbt s n : Nat) : Int) / (16 : Int)) + (1 : Int))) (congrArg some h2) Try.underlying9 (.inr ⟨_, rfl, (congrArg some h4), (by omega)⟩) (.inr ⟨_, rfl, (congrArg some h7), (by omega)⟩) (by have : ((⟨#[48, 49, 50, 51, 52, 53, 54, 55, 56, 57, 97, 98, 99, 100, 101, 102]⟩) : ByteArray).size = 16 := rfl; omega) (by have : ((⟨#[48, 49, 50, 51, 52, 53, 54, 55, 56, 57, 97, 98, 99, 100, 101, 102]⟩) : ByteArray).size = 16 := rfl; omega)) ⟨Below.refl _ _, rfl, nofr rfl⟩
          refine ⟨fun wu9 hC hd => ?_, ?_⟩
          · obtain ⟨h1, h8, _⟩ := hd
            skip
            skip
            replace h1 : V 1 = (.string (a ++ ⟨#[92]⟩)) := h1
            replace h8 : V 8 = (.string ((⟨#[48, 49, 50, 51, 52, 53, 54, 55, 56, 57, 97, 98, 99, 100, 101, 102]⟩ : ByteArray).extract ((sbt s n) / 16) (((sbt s n) / 16) + 1))) := h8
            replace hb := hb.trans (hC.mono hb.size)
            exact Runs.does (r_sadd (congrArg some h1) (congrArg some h8) (by have : ((⟨#[92]⟩) : ByteArray).size = 1 := rfl; have := sz_app a ⟨#[92]⟩; have : ((⟨#[48, 49, 50, 51, 52, 53, 54, 55, 56, 57, 97, 98, 99, 100, 101, 102]⟩) : ByteArray).size = 16 := rfl; have := sz_ext ⟨#[48, 49, 50, 51, 52, 53, 54, 55, 56, 57, 97, 98, 99, 100, 101, 102]⟩ ((sbt s n) / 16) (((sbt s n) / 16) + 1) (by omega) (by omega); omega)) ⟨Below.refl _ _, rfl, nofr rfl⟩
          refine ⟨fun wu10 hC hd => ?_, ?_⟩
          · clear hd
            replace hb := hb.trans (hC.mono hb.size)
            exact Runs.does (r_move rfl) ⟨Below.refl _ _, rfl, nofr rfl⟩
          refine ⟨fun wu11 hC hd => ?_, ?_⟩
          · clear hd
            replace hb := hb.trans (hC.mono hb.size)
            exact Runs.does (r_move rfl) ⟨Below.refl _ _, rfl, nofr rfl⟩
          refine ⟨fun wu12 hC hd => ?_, ?_⟩
          · obtain ⟨h11, _⟩ := hd
            skip
            replace h11 : V 11 = (.int .u8 ((sbt s n : Nat) : Int)) := h11
            replace hb := hb.trans (hC.mono hb.size)
            exact Runs.does (r_rem (C := (((sbt s n : Nat) : Int) % (16 : Int))) (congrArg some h11) rfl (by omega) (Int.tmod_eq_emod_of_nonneg (by omega))) ⟨Below.refl _ _, rfl, nofr rfl⟩
          refine ⟨fun wu13 hC hd => ?_, ?_⟩
          · clear hd
            replace hb := hb.trans (hC.mono hb.size)
            exact Runs.does (r_move rfl) ⟨Below.refl _ _, rfl, nofr rfl⟩
          refine ⟨fun wu14 hC hd => ?_, ?_⟩
          · obtain ⟨h13, _⟩ := hd
            skip
            replace h13 : V 13 = (.int .u8 ((sbt s n : Nat) : Int)) := h13
            replace hb := hb.trans (hC.mono hb.size)
            exact Runs.does (r_rem (C := (((sbt s n : Nat) : Int) % (16 : Int))) (congrArg some h13) rfl (by omega) (Int.tmod_eq_emod_of_nonneg (by omega))) ⟨Below.refl _ _, rfl, nofr rfl⟩
          refine ⟨fun wu15 hC hd => ?_, ?_⟩
          · obtain ⟨h14, _⟩ := hd
            skip
            replace h14 : V 14 = (.int .u8 (((sbt s n : Nat) : Int) % (16 : Int))) := h14
            replace hb := hb.trans (hC.mono hb.size)
            exact Runs.does (r_add (C := ((((sbt s n : Nat) : Int) % (16 : Int)) + (1 : Int))) (congrArg some h14) rfl (by rw [IntKind.wrap_u8]; omega)) ⟨Below.refl _ _, rfl, nofr rfl⟩
          refine ⟨fun wu16 hC hd => ?_, ?_⟩
          · obtain ⟨h10, h12, h15, _⟩ := hd
            skip
            skip
            skip
            replace h10 : V 10 = (.string ⟨#[48, 49, 50, 51, 52, 53, 54, 55, 56, 57, 97, 98, 99, 100, 101, 102]⟩) := h10
            replace h12 : V 12 = (.int .u8 (((sbt s n : Nat) : Int) % (16 : Int))) := h12
            replace h15 : V 15 = (.int .u8 ((((sbt s n : Nat) : Int) % (16 : Int)) + (1 : Int))) := h15
            replace hb := hb.trans (hC.mono hb.size)
            exact Runs.does (r_sslice (a := ((sbt s n) % 16)) (b := (((sbt s n) % 16) + 1)) (k1 := .u8) (k2 := .u8) (A := (((sbt s n : Nat) : Int) % (16 : Int))) (B := ((((sbt s n : Nat) : Int) % (16 : Int)) + (1 : Int))) (congrArg some h10) Try.underlying9 (.inr ⟨_, rfl, (congrArg some h12), (by omega)⟩) (.inr ⟨_, rfl, (congrArg some h15), (by omega)⟩) (by have : ((⟨#[48, 49, 50, 51, 52, 53, 54, 55, 56, 57, 97, 98, 99, 100, 101, 102]⟩) : ByteArray).size = 16 := rfl; omega) (by have : ((⟨#[48, 49, 50, 51, 52, 53, 54, 55, 56, 57, 97, 98, 99, 100, 101, 102]⟩) : ByteArray).size = 16 := rfl; omega)) ⟨Below.refl _ _, rfl, nofr rfl⟩
          refine ⟨fun wu17 hC hd => ?_, ?_⟩
          · obtain ⟨h9, h16, _⟩ := hd
            skip
            skip
            replace h9 : V 9 = (.string ((a ++ ⟨#[92]⟩) ++ ((⟨#[48, 49, 50, 51, 52, 53, 54, 55, 56, 57, 97, 98, 99, 100, 101, 102]⟩ : ByteArray).extract ((sbt s n) / 16) (((sbt s n) / 16) + 1)))) := h9
            replace h16 : V 16 = (.string ((⟨#[48, 49, 50, 51, 52, 53, 54, 55, 56, 57, 97, 98, 99, 100, 101, 102]⟩ : ByteArray).extract ((sbt s n) % 16) (((sbt s n) % 16) + 1))) := h16
            replace hb := hb.trans (hC.mono hb.size)
            exact Runs.does (r_sadd (congrArg some h9) (congrArg some h16) (by have : ((⟨#[92]⟩) : ByteArray).size = 1 := rfl; have := sz_app a ⟨#[92]⟩; have : ((⟨#[48, 49, 50, 51, 52, 53, 54, 55, 56, 57, 97, 98, 99, 100, 101, 102]⟩) : ByteArray).size = 16 := rfl; have := sz_ext ⟨#[48, 49, 50, 51, 52, 53, 54, 55, 56, 57, 97, 98, 99, 100, 101, 102]⟩ ((sbt s n) / 16) (((sbt s n) / 16) + 1) (by omega) (by omega); have := sz_app (a ++ ⟨#[92]⟩) ((⟨#[48, 49, 50, 51, 52, 53, 54, 55, 56, 57, 97, 98, 99, 100, 101, 102]⟩ : ByteArray).extract ((sbt s n) / 16) (((sbt s n) / 16) + 1)); have : ((⟨#[48, 49, 50, 51, 52, 53, 54, 55, 56, 57, 97, 98, 99, 100, 101, 102]⟩) : ByteArray).size = 16 := rfl; have := sz_ext ⟨#[48, 49, 50, 51, 52, 53, 54, 55, 56, 57, 97, 98, 99, 100, 101, 102]⟩ ((sbt s n) % 16) (((sbt s n) % 16) + 1) (by omega) (by omega); omega)) ⟨Below.refl _ _, rfl, nofr rfl⟩
          refine ⟨fun wu18 hC hd => ?_, ?_⟩
          · obtain ⟨h0, h1, h2, h3, h4, h5, h6, h7, h8, h9, h10, h11, h12, h13, h14, h15, h16, h17, _⟩ := hd
            skip
            skip
            skip
            skip
            skip
            skip
            skip
            skip
            skip
            skip
            skip
            skip
            skip
            skip
            skip
            skip
            skip
            skip
            replace h0 : V 0 = (.string a) := h0
            replace h1 : V 1 = (.string (a ++ ⟨#[92]⟩)) := h1
            replace h2 : V 2 = (.string ⟨#[48, 49, 50, 51, 52, 53, 54, 55, 56, 57, 97, 98, 99, 100, 101, 102]⟩) := h2
            replace h3 : V 3 = (.int .u8 ((sbt s n : Nat) : Int)) := h3
            replace h4 : V 4 = (.int .u8 (((sbt s n : Nat) : Int) / (16 : Int))) := h4
            replace h5 : V 5 = (.int .u8 ((sbt s n : Nat) : Int)) := h5
            replace h6 : V 6 = (.int .u8 (((sbt s n : Nat) : Int) / (16 : Int))) := h6
            replace h7 : V 7 = (.int .u8 ((((sbt s n : Nat) : Int) / (16 : Int)) + (1 : Int))) := h7
            replace h8 : V 8 = (.string ((⟨#[48, 49, 50, 51, 52, 53, 54, 55, 56, 57, 97, 98, 99, 100, 101, 102]⟩ : ByteArray).extract ((sbt s n) / 16) (((sbt s n) / 16) + 1))) := h8
            replace h9 : V 9 = (.string ((a ++ ⟨#[92]⟩) ++ ((⟨#[48, 49, 50, 51, 52, 53, 54, 55, 56, 57, 97, 98, 99, 100, 101, 102]⟩ : ByteArray).extract ((sbt s n) / 16) (((sbt s n) / 16) + 1)))) := h9
            replace h10 : V 10 = (.string ⟨#[48, 49, 50, 51, 52, 53, 54, 55, 56, 57, 97, 98, 99, 100, 101, 102]⟩) := h10
            replace h11 : V 11 = (.int .u8 ((sbt s n : Nat) : Int)) := h11
            replace h12 : V 12 = (.int .u8 (((sbt s n : Nat) : Int) % (16 : Int))) := h12
            replace h13 : V 13 = (.int .u8 ((sbt s n : Nat) : Int)) := h13
            replace h14 : V 14 = (.int .u8 (((sbt s n : Nat) : Int) % (16 : Int))) := h14
            replace h15 : V 15 = (.int .u8 ((((sbt s n : Nat) : Int) % (16 : Int)) + (1 : Int))) := h15
            replace h16 : V 16 = (.string ((⟨#[48, 49, 50, 51, 52, 53, 54, 55, 56, 57, 97, 98, 99, 100, 101, 102]⟩ : ByteArray).extract ((sbt s n) % 16) (((sbt s n) % 16) + 1))) := h16
            replace h17 : V 17 = (.string (((a ++ ⟨#[92]⟩) ++ ((⟨#[48, 49, 50, 51, 52, 53, 54, 55, 56, 57, 97, 98, 99, 100, 101, 102]⟩ : ByteArray).extract ((sbt s n) / 16) (((sbt s n) / 16) + 1))) ++ ((⟨#[48, 49, 50, 51, 52, 53, 54, 55, 56, 57, 97, 98, 99, 100, 101, 102]⟩ : ByteArray).extract ((sbt s n) % 16) (((sbt s n) % 16) + 1)))) := h17
            replace hb := hb.trans (hC.mono hb.size)
            exact Runs.does (r_assign (congrArg some h17)) ⟨Below.refl _ _, rfl, nofr rfl⟩
          trivial
        · skip
          clear hf fa; intro V w2 fa he1 hp hnb hf
          have hv0 : V 0 = (.string a) := postsHold_at hp 0 rfl
          have hv1 : V 1 = (.string (a ++ ⟨#[92]⟩)) := postsHold_at hp 1 rfl
          have hv2 : V 2 = (.string ⟨#[48, 49, 50, 51, 52, 53, 54, 55, 56, 57, 97, 98, 99, 100, 101, 102]⟩) := postsHold_at hp 2 rfl
          have hv3 : V 3 = (.int .u8 ((sbt s n : Nat) : Int)) := postsHold_at hp 3 rfl
          have hv4 : V 4 = (.int .u8 (((sbt s n : Nat) : Int) / (16 : Int))) := postsHold_at hp 4 rfl
          have hv5 : V 5 = (.int .u8 ((sbt s n : Nat) : Int)) := postsHold_at hp 5 rfl
          have hv6 : V 6 = (.int .u8 (((sbt s n : Nat) : Int) / (16 : Int))) := postsHold_at hp 6 rfl
          have hv7 : V 7 = (.int .u8 ((((sbt s n : Nat) : Int) / (16 : Int)) + (1 : Int))) := postsHold_at hp 7 rfl
          have hv8 : V 8 = (.string ((⟨#[48, 49, 50, 51, 52, 53, 54, 55, 56, 57, 97, 98, 99, 100, 101, 102]⟩ : ByteArray).extract ((sbt s n) / 16) (((sbt s n) / 16) + 1))) := postsHold_at hp 8 rfl
          have hv9 : V 9 = (.string ((a ++ ⟨#[92]⟩) ++ ((⟨#[48, 49, 50, 51, 52, 53, 54, 55, 56, 57, 97, 98, 99, 100, 101, 102]⟩ : ByteArray).extract ((sbt s n) / 16) (((sbt s n) / 16) + 1)))) := postsHold_at hp 9 rfl
          have hv10 : V 10 = (.string ⟨#[48, 49, 50, 51, 52, 53, 54, 55, 56, 57, 97, 98, 99, 100, 101, 102]⟩) := postsHold_at hp 10 rfl
          have hv11 : V 11 = (.int .u8 ((sbt s n : Nat) : Int)) := postsHold_at hp 11 rfl
          have hv12 : V 12 = (.int .u8 (((sbt s n : Nat) : Int) % (16 : Int))) := postsHold_at hp 12 rfl
          have hv13 : V 13 = (.int .u8 ((sbt s n : Nat) : Int)) := postsHold_at hp 13 rfl
          have hv14 : V 14 = (.int .u8 (((sbt s n : Nat) : Int) % (16 : Int))) := postsHold_at hp 14 rfl
          have hv15 : V 15 = (.int .u8 ((((sbt s n : Nat) : Int) % (16 : Int)) + (1 : Int))) := postsHold_at hp 15 rfl
          have hv16 : V 16 = (.string ((⟨#[48, 49, 50, 51, 52, 53, 54, 55, 56, 57, 97, 98, 99, 100, 101, 102]⟩ : ByteArray).extract ((sbt s n) % 16) (((sbt s n) % 16) + 1))) := postsHold_at hp 16 rfl
          have hv17 : V 17 = (.string (((a ++ ⟨#[92]⟩) ++ ((⟨#[48, 49, 50, 51, 52, 53, 54, 55, 56, 57, 97, 98, 99, 100, 101, 102]⟩ : ByteArray).extract ((sbt s n) / 16) (((sbt s n) / 16) + 1))) ++ ((⟨#[48, 49, 50, 51, 52, 53, 54, 55, 56, 57, 97, 98, 99, 100, 101, 102]⟩ : ByteArray).extract ((sbt s n) % 16) (((sbt s n) % 16) + 1)))) := postsHold_at hp 17 rfl
          have hv18 : V 18 = (.string (((a ++ ⟨#[92]⟩) ++ ((⟨#[48, 49, 50, 51, 52, 53, 54, 55, 56, 57, 97, 98, 99, 100, 101, 102]⟩ : ByteArray).extract ((sbt s n) / 16) (((sbt s n) / 16) + 1))) ++ ((⟨#[48, 49, 50, 51, 52, 53, 54, 55, 56, 57, 97, 98, 99, 100, 101, 102]⟩ : ByteArray).extract ((sbt s n) % 16) (((sbt s n) % 16) + 1)))) := postsHold_at hp 18 rfl
          simp only [List.take_succ_cons, List.take_zero, insAll, ins, hv0, hv1, hv2, hv3, hv4, hv5, hv6, hv7, hv8, hv9, hv10, hv11, hv12, hv13, hv14, hv15, hv16, hv17, hv18] at hf
          clear hp hnb hv0 hv1 hv2 hv3 hv4 hv5 hv6 hv7 hv8 hv9 hv10 hv11 hv12 hv13 hv14 hv15 hv16 hv17 hv18
          replace hb := hb.trans (Below.mono he1 hb.size)
          (try simp only [Exit.then, Exit.inBlock, ↓reduceIte, Nat.reduceEqDiff])
          refine hK8 _ _ ?_
          refine wp_region_lit ?_
          refine sqv hf (r_move rfl) rfl rfl rfl ?_; clear hf fa; intro fa hf
          refine sqv hf (r_add (C := (((n : Nat) : Int) + (1 : Int))) rfl rfl (by rw [IntKind.wrap_i64]; omega)) rfl rfl rfl ?_; clear hf fa; intro fa hf
          refine sqv hf (r_assign rfl) rfl rfl rfl ?_; clear hf fa; intro fa hf
          apply wpList_nil
          (try simp only [Exit.then, Exit.inBlock, ↓reduceIte, Nat.reduceEqDiff])
          refine hKL1 _ _ _ (by omega) ⟨(n + 1), (((a ++ ⟨#[92]⟩) ++ ((⟨#[48, 49, 50, 51, 52, 53, 54, 55, 56, 57, 97, 98, 99, 100, 101, 102]⟩ : ByteArray).extract ((sbt s n) / 16) (((sbt s n) / 16) + 1))) ++ ((⟨#[48, 49, 50, 51, 52, 53, 54, 55, 56, 57, 97, 98, 99, 100, 101, 102]⟩ : ByteArray).extract ((sbt s n) % 16) (((sbt s n) % 16) + 1))), rfl, hf.sub ⟨rfl, rfl, rfl, (some_int (by first | rfl | omega)), trivial⟩, hb, by omega, (by rw [flat_take _ _ (by rw [bl_length]; omega), bl_sbt s n (by omega), sh_esc (by omega)]; simp only [bl_app, Hs]; rw [bl_hex _ (by omega), bl_hex _ (by omega)]; simp [bl])⟩
      · have hqt29_1b := hqt29_1
        replace hqt29_1 := Bool.eq_false_iff.1 hqt29_1
        try simp only [ne_eq, decide_eq_true_eq, Bool.and_eq_true, Bool.or_eq_true, Bool.not_eq_true', decide_eq_false_iff_not] at hqt29_1
        refine wp_region_lit ?_
        refine sqv hf (r_move rfl) rfl rfl rfl ?_; clear hf fa; intro fa hf
        refine sqv hf (r_move rfl) rfl rfl rfl ?_; clear hf fa; intro fa hf
        refine sqv hf (r_move rfl) rfl rfl rfl ?_; clear hf fa; intro fa hf
        refine sqv hf (r_move rfl) rfl rfl rfl ?_; clear hf fa; intro fa hf
        refine sqv hf (r_add (C := (((n : Nat) : Int) + (1 : Int))) rfl rfl (by rw [IntKind.wrap_i64]; omega)) rfl rfl rfl ?_; clear hf fa; intro fa hf
        refine sqv hf (r_sslice (a := n) (b := (n + 1)) (k1 := .i64) (k2 := .i64) (A := ((n : Nat) : Int)) (B := (((n : Nat) : Int) + (1 : Int))) rfl Try.underlying9 (.inr ⟨_, rfl, rfl, rfl⟩) (.inr ⟨_, rfl, rfl, rfl⟩) (by omega) (by omega)) rfl rfl rfl ?_; clear hf fa; intro fa hf
        refine sqv hf (r_sadd rfl rfl (by have := sz_ext s n (n + 1) (by omega) (by omega); omega)) rfl rfl rfl ?_; clear hf fa; intro fa hf
        refine sqv hf (r_assign rfl) rfl rfl rfl ?_; clear hf fa; intro fa hf
        apply wpList_nil
        (try simp only [Exit.then, Exit.inBlock, ↓reduceIte, Nat.reduceEqDiff])
        refine hK8 _ _ ?_
        refine wp_region_lit ?_
        refine sqv hf (r_move rfl) rfl rfl rfl ?_; clear hf fa; intro fa hf
        refine sqv hf (r_add (C := (((n : Nat) : Int) + (1 : Int))) rfl rfl (by rw [IntKind.wrap_i64]; omega)) rfl rfl rfl ?_; clear hf fa; intro fa hf
        refine sqv hf (r_assign rfl) rfl rfl rfl ?_; clear hf fa; intro fa hf
        apply wpList_nil
        (try simp only [Exit.then, Exit.inBlock, ↓reduceIte, Nat.reduceEqDiff])
        refine hKL1 _ _ _ (by omega) ⟨(n + 1), (a ++ (s.extract n (n + 1))), rfl, hf.sub ⟨rfl, rfl, rfl, (some_int (by first | rfl | omega)), trivial⟩, hb, by omega, (by rw [flat_take _ _ (by rw [bl_length]; omega), bl_sbt s n (by omega), sh_pl (by omega)]; simp only [bl_app, Hs]; rw [bl_one s n (by omega)]; simp)⟩
    · have hqt10_1b := hqt10_1
      replace hqt10_1 := Bool.eq_false_iff.1 hqt10_1
      try simp only [ne_eq, decide_eq_true_eq, Bool.and_eq_true, Bool.or_eq_true, Bool.not_eq_true', decide_eq_false_iff_not] at hqt10_1
      refine wp_exit ?_
      (try simp only [Exit.then, Exit.inBlock, ↓reduceIte, Nat.reduceEqDiff])
      refine hK4 _ _ ?_
      refine wp_seq_k (fun K11 hK11 => ?_)
      refine wp_region_lit ?_
      refine sqv hf (r_move rfl) rfl rfl rfl ?_; clear hf fa; intro fa hf
      refine sqv hf (r_sadd rfl rfl (by have : ((⟨#[34]⟩) : ByteArray).size = 1 := rfl; omega)) rfl rfl rfl ?_; clear hf fa; intro fa hf
      refine sqv hf (r_assign rfl) rfl rfl rfl ?_; clear hf fa; intro fa hf
      apply wpList_nil
      (try simp only [Exit.then, Exit.inBlock, ↓reduceIte, Nat.reduceEqDiff])
      refine hK11 _ _ ?_
      refine wp_ret ?_
      (try simp only [Exit.then, Exit.inBlock])
      refine ret1 hf rfl rfl ?_
      refine ⟨?_, hb⟩; congr 2; apply bl_inj; rw [bl_strN _ (showL_lt _ (bl_lt s)), bl_app, Hs, List.take_of_length_le (by rw [bl_length]; omega)]; simp [bl, showL]

set_option maxHeartbeats 1000000 in
set_option maxRecDepth 100000 in
theorem read_any (s : ByteArray) (w : World) (hs : s.size ≤ 100000) : Calls Try.prog 18 #[(.string s)] w fun e w' => e = .returned (.tuple #[.string (strN (readP (bl s)).1), .bool (readP (bl s)).2]) ∧ Below w.heap.size w w' := by
  refine sx_enter (L := [(0, (.string s))]) Try.func18 rfl rfl rfl rfl (fun fa hf => ?_)
  have hb : Below w.heap.size w w := Below.refl _ _
  refine wp_seq_k (fun K1 hK1 => ?_)
  refine wp_region_lit ?_
  refine sqv hf (r_assign rfl) rfl rfl rfl ?_; clear hf fa; intro fa hf
  refine sqv hf (r_assign rfl) rfl rfl rfl ?_; clear hf fa; intro fa hf
  apply wpList_nil
  (try simp only [Exit.then, Exit.inBlock, ↓reduceIte, Nat.reduceEqDiff])
  refine hK1 _ _ ?_
  refine wp_seq_k (fun K2 hK2 => ?_)
  refine wp_seq_k (fun K3 hK3 => ?_)
  refine wp_region_lit ?_
  refine sqv hf (r_move rfl) rfl rfl rfl ?_; clear hf fa; intro fa hf
  refine sqv hf (r_lens rfl Try.underlying9) rfl rfl rfl ?_; clear hf fa; intro fa hf
  refine sqv hf (r_lt rfl rfl) rfl rfl rfl ?_; clear hf fa; intro fa hf
  refine sqv hf (r_move rfl) rfl rfl rfl ?_; clear hf fa; intro fa hf
  refine sqgF (act := (!(decide (((s.size : Nat) : Int) < (2 : Int))))) (ag := true) (c := (decide (((s.size : Nat) : Int) < (2 : Int)))) (v := (.string s)) hf rfl rfl rfl (fun hact => (r_move rfl)) rfl rfl ?_; clear hf fa; intro fa hf
  refine sqgF (act := (!(decide (((s.size : Nat) : Int) < (2 : Int))))) (ag := true) (c := (decide (((s.size : Nat) : Int) < (2 : Int)))) (v := (.int .u8 ((sbt s 0 : Nat) : Int))) hf rfl rfl rfl (fun hact => (by have hact0 := hact; simp only [Bool.and_eq_true, Bool.not_eq_true', Bool.or_eq_false_iff, Bool.or_eq_true, Bool.and_eq_false_iff, ne_eq, decide_eq_true_eq, decide_eq_false_iff_not] at hact0; exact (r_sindexD (j := 0) (gb_ev hact rfl) rfl Try.underlying9 rfl (by omega)))) rfl rfl ?_; clear hf fa; intro fa hf
  refine sqgF (act := (!(decide (((s.size : Nat) : Int) < (2 : Int))))) (ag := true) (c := (decide (((s.size : Nat) : Int) < (2 : Int)))) (v := (.bool (decide (((sbt s 0 : Nat) : Int) ≠ (34 : Int))))) hf rfl rfl rfl (fun hact => (r_ne (gb_ev hact rfl) rfl)) rfl rfl ?_; clear hf fa; intro fa hf
  refine sqv hf (r_pickO (b := (decide (((s.size : Nat) : Int) < (2 : Int)))) (e := (decide (((sbt s 0 : Nat) : Int) ≠ (34 : Int)))) rfl rfl rfl) rfl rfl rfl ?_; clear hf fa; intro fa hf
  refine sqv hf (r_move rfl) rfl rfl rfl ?_; clear hf fa; intro fa hf
  refine sqgF (act := (!((decide (((s.size : Nat) : Int) < (2 : Int))) || (decide (((sbt s 0 : Nat) : Int) ≠ (34 : Int)))))) (ag := true) (c := ((decide (((s.size : Nat) : Int) < (2 : Int))) || (decide (((sbt s 0 : Nat) : Int) ≠ (34 : Int))))) (v := (.string s)) hf rfl rfl rfl (fun hact => (r_move rfl)) rfl rfl ?_; clear hf fa; intro fa hf
  refine sqgF (act := (!((decide (((s.size : Nat) : Int) < (2 : Int))) || (decide (((sbt s 0 : Nat) : Int) ≠ (34 : Int)))))) (ag := true) (c := ((decide (((s.size : Nat) : Int) < (2 : Int))) || (decide (((sbt s 0 : Nat) : Int) ≠ (34 : Int))))) (v := (.string s)) hf rfl rfl rfl (fun hact => (r_move rfl)) rfl rfl ?_; clear hf fa; intro fa hf
  refine sqgF (act := (!((decide (((s.size : Nat) : Int) < (2 : Int))) || (decide (((sbt s 0 : Nat) : Int) ≠ (34 : Int)))))) (ag := true) (c := ((decide (((s.size : Nat) : Int) < (2 : Int))) || (decide (((sbt s 0 : Nat) : Int) ≠ (34 : Int))))) (v := (.int .i64 ((s.size : Nat) : Int))) hf rfl rfl rfl (fun hact => (r_lens (gb_ev hact rfl) Try.underlying9)) rfl rfl ?_; clear hf fa; intro fa hf
  refine sqgF (act := (!((decide (((s.size : Nat) : Int) < (2 : Int))) || (decide (((sbt s 0 : Nat) : Int) ≠ (34 : Int)))))) (ag := true) (c := ((decide (((s.size : Nat) : Int) < (2 : Int))) || (decide (((sbt s 0 : Nat) : Int) ≠ (34 : Int))))) (v := (.int .i64 (((s.size : Nat) : Int) - (1 : Int)))) hf rfl rfl rfl (fun hact => (by have hact0 := hact; simp only [Bool.and_eq_true, Bool.not_eq_true', Bool.or_eq_false_iff, Bool.or_eq_true, Bool.and_eq_false_iff, ne_eq, decide_eq_true_eq, decide_eq_false_iff_not] at hact0; exact (r_sub (C := (((s.size : Nat) : Int) - (1 : Int))) (gb_ev hact rfl) rfl (by rw [IntKind.wrap_i64]; omega)))) rfl rfl ?_; clear hf fa; intro fa hf
  refine sqgF (act := (!((decide (((s.size : Nat) : Int) < (2 : Int))) || (decide (((sbt s 0 : Nat) : Int) ≠ (34 : Int)))))) (ag := true) (c := ((decide (((s.size : Nat) : Int) < (2 : Int))) || (decide (((sbt s 0 : Nat) : Int) ≠ (34 : Int))))) (v := (.int .u8 ((sbt s (s.size - 1) : Nat) : Int))) hf rfl rfl rfl (fun hact => (by have hact0 := hact; simp only [Bool.and_eq_true, Bool.not_eq_true', Bool.or_eq_false_iff, Bool.or_eq_true, Bool.and_eq_false_iff, ne_eq, decide_eq_true_eq, decide_eq_false_iff_not] at hact0; exact (r_sindexD (j := (s.size - 1)) (gb_ev hact rfl) (gb_ev hact rfl) Try.underlying9 (by omega) (by omega)))) rfl rfl ?_; clear hf fa; intro fa hf
  refine sqgF (act := (!((decide (((s.size : Nat) : Int) < (2 : Int))) || (decide (((sbt s 0 : Nat) : Int) ≠ (34 : Int)))))) (ag := true) (c := ((decide (((s.size : Nat) : Int) < (2 : Int))) || (decide (((sbt s 0 : Nat) : Int) ≠ (34 : Int))))) (v := (.bool (decide (((sbt s (s.size - 1) : Nat) : Int) ≠ (34 : Int))))) hf rfl rfl rfl (fun hact => (r_ne (gb_ev hact rfl) rfl)) rfl rfl ?_; clear hf fa; intro fa hf
  refine sqv hf (r_pickO (b := ((decide (((s.size : Nat) : Int) < (2 : Int))) || (decide (((sbt s 0 : Nat) : Int) ≠ (34 : Int))))) (e := (decide (((sbt s (s.size - 1) : Nat) : Int) ≠ (34 : Int)))) rfl rfl rfl) rfl rfl rfl ?_; clear hf fa; intro fa hf
  apply wpList_nil
  (try simp only [Exit.then, Exit.inBlock, ↓reduceIte, Nat.reduceEqDiff])
  refine hK3 _ _ ?_
  refine wp_cond_split (t := (((decide (((s.size : Nat) : Int) < (2 : Int))) || (decide (((sbt s 0 : Nat) : Int) ≠ (34 : Int)))) || (decide (((sbt s (s.size - 1) : Nat) : Int) ≠ (34 : Int))))) (hf.ev rfl) (fun hqt22_1 => ?_) (fun hqt22_1 => ?_)
  · have hqt22_1b := hqt22_1
    try simp only [decide_eq_true_eq, Bool.and_eq_true, Bool.or_eq_true, Bool.not_eq_true', decide_eq_false_iff_not, ne_eq, Bool.not_eq_true] at hqt22_1
    refine wp_seq_k (fun K4 hK4 => ?_)
    refine wp_region_lit ?_
    refine sqv hf (r_assign rfl) rfl rfl rfl ?_; clear hf fa; intro fa hf
    refine sqv hf (r_assign rfl) rfl rfl rfl ?_; clear hf fa; intro fa hf
    apply wpList_nil
    (try simp only [Exit.then, Exit.inBlock, ↓reduceIte, Nat.reduceEqDiff])
    refine hK4 _ _ ?_
    refine wp_ret ?_
    (try simp only [Exit.then, Exit.inBlock])
    refine ret2 hf rfl rfl rfl ?_
    have hg : goodB (bl s) = false := by
      by_cases h2 : 2 ≤ s.size
      · unfold goodB; rw [bl_length, bl_sbt s 0 (by omega), bl_sbt s (s.size - 1) (by omega)]
        have h := hqt22_1
        simp only [Bool.and_eq_false_iff, decide_eq_false_iff_not]; omega
      · unfold goodB; rw [bl_length]; simp [h2]
    refine ⟨?_, hb⟩; unfold readP; rw [hg]; simp; rfl
  · have hqt22_1b := hqt22_1
    replace hqt22_1 := Bool.eq_false_iff.1 hqt22_1
    try simp only [ne_eq, decide_eq_true_eq, Bool.and_eq_true, Bool.or_eq_true, Bool.not_eq_true', decide_eq_false_iff_not] at hqt22_1
    refine wp_skip ?_
    (try simp only [Exit.then, Exit.inBlock, ↓reduceIte, Nat.reduceEqDiff])
    refine hK2 _ _ ?_
    refine wp_seq_k (fun K5 hK5 => ?_)
    refine wp_region_lit ?_
    refine sqv hf (r_assign rfl) rfl rfl rfl ?_; clear hf fa; intro fa hf
    apply wpList_nil
    (try simp only [Exit.then, Exit.inBlock, ↓reduceIte, Nat.reduceEqDiff])
    refine hK5 _ _ ?_
    refine wp_seq_k (fun K6 hK6 => ?_)
    refine wp_region_lit ?_
    refine sqv hf (r_move rfl) rfl rfl rfl ?_; clear hf fa; intro fa hf
    refine sqv hf (r_move rfl) rfl rfl rfl ?_; clear hf fa; intro fa hf
    refine sqv hf (r_lens rfl Try.underlying9) rfl rfl rfl ?_; clear hf fa; intro fa hf
    refine sqv hf (r_sub (C := (((s.size : Nat) : Int) - (1 : Int))) rfl rfl (by rw [IntKind.wrap_i64]; omega)) rfl rfl rfl ?_; clear hf fa; intro fa hf
    refine sqv hf (r_sslice (a := 1) (b := (s.size - 1)) (k1 := .i64) (k2 := .i64) (A := (1 : Int)) (B := (((s.size : Nat) : Int) - (1 : Int))) rfl Try.underlying9 (.inr ⟨_, rfl, rfl, rfl⟩) (.inr ⟨_, rfl, rfl, (by omega)⟩) (by omega) (by omega)) rfl rfl rfl ?_; clear hf fa; intro fa hf
    refine sqv hf (r_assign rfl) rfl rfl rfl ?_; clear hf fa; intro fa hf
    apply wpList_nil
    (try simp only [Exit.then, Exit.inBlock, ↓reduceIte, Nat.reduceEqDiff])
    refine hK6 _ _ ?_
    refine wp_seq_k (fun K7 hK7 => ?_)
    refine wp_seq_k (fun K8 hK8 => ?_)
    have hsz2 : 2 ≤ s.size := by omega
    have hul := sz_ext s 1 (s.size - 1) (by omega) (by omega)
    have hgd : goodB (bl s) = true := good_of s hsz2 (by have h := hqt22_1; omega) (by have h := hqt22_1; omega)
    generalize hu : s.extract 1 (s.size - 1) = u at hf hul
    have hin : inner (bl s) = bl u := by rw [inner_bl, hu]
    refine wp_region_lit ?_
    refine sqv hf (r_assign rfl) rfl rfl rfl ?_; clear hf fa; intro fa hf
    apply wpList_nil
    (try simp only [Exit.then, Exit.inBlock, ↓reduceIte, Nat.reduceEqDiff])
    refine hK8 _ _ ?_
    refine wp_block ?_
    refine wp_loop_k (fun m fa wr => ∃ (k : Nat) (f : Nat) (o : List Nat) (rOa : Option Addr) (rOc : Nat), m = u.size - k ∧ Fr 90 fa [(0, (.string s)), (5, (.string u)), (6, (.int .i64 ((k : Nat) : Int))), (4, (.slice rOa (((nI o)).length) rOc))] ∧ Below w.heap.size w wr ∧ Row 1 (vInt .u8) 5 (w.heap.size) wr (.slice rOa (((nI o)).length) rOc) (nI o) ∧ (k ≤ u.size) ∧ (u.size - k ≤ f) ∧ (decP (bl s).length (bl u) = (decP f ((bl u).drop k)).map (o ++ ·)) ∧ (o.length ≤ k)) ?_ ?_
    · skip
      exact ⟨_, 0, (bl s).length, [], none, 0, rfl, hf.sub ⟨rfl, rfl, (some_int (by first | rfl | omega)), (some_sl (by simp <;> omega) rfl), trivial⟩, hb, Row.nil, by omega, by rw [bl_length]; omega, (by simp), by simp⟩
    · skip
      clear hf fa; intro m1 fa w1 hI KL1 hKL1
      clear hb
      obtain ⟨k, f, o, rOa, rOc, hm1, hf, hb, hrO, hk, hff, Hs, hol⟩ := hI
      have hcrO := Row.caps hrO
      have hno := nI_length o
      refine wp_seq_k (fun K9 hK9 => ?_)
      refine wp_seq_k (fun K10 hK10 => ?_)
      refine wp_region_lit ?_
      refine sqv hf (r_move rfl) rfl rfl rfl ?_; clear hf fa; intro fa hf
      refine sqv hf (r_move rfl) rfl rfl rfl ?_; clear hf fa; intro fa hf
      refine sqv hf (r_lens rfl Try.underlying9) rfl rfl rfl ?_; clear hf fa; intro fa hf
      refine sqv hf (r_lt rfl rfl) rfl rfl rfl ?_; clear hf fa; intro fa hf
      apply wpList_nil
      (try simp only [Exit.then, Exit.inBlock, ↓reduceIte, Nat.reduceEqDiff])
      refine hK10 _ _ ?_
      refine wp_cond_split (t := (decide (((k : Nat) : Int) < ((u.size : Nat) : Int)))) (hf.ev rfl) (fun hqt31_1 => ?_) (fun hqt31_1 => ?_)
      · have hqt31_1b := hqt31_1
        try simp only [decide_eq_true_eq, Bool.and_eq_true, Bool.or_eq_true, Bool.not_eq_true', decide_eq_false_iff_not, ne_eq, Bool.not_eq_true] at hqt31_1
        refine wp_skip ?_
        (try simp only [Exit.then, Exit.inBlock, ↓reduceIte, Nat.reduceEqDiff])
        refine hK9 _ _ ?_
        refine wp_seq_k (fun K11 hK11 => ?_)
        refine wp_block ?_
        refine wp_seq_k (fun K12 hK12 => ?_)
        refine wp_seq_k (fun K13 hK13 => ?_)
        refine wp_region_lit ?_
        refine sqv hf (r_move rfl) rfl rfl rfl ?_; clear hf fa; intro fa hf
        refine sqv hf (r_move rfl) rfl rfl rfl ?_; clear hf fa; intro fa hf
        refine sqv hf (r_sindexD (j := k) rfl rfl Try.underlying9 rfl (by omega)) rfl rfl rfl ?_; clear hf fa; intro fa hf
        refine sqv hf (r_ne rfl rfl) rfl rfl rfl ?_; clear hf fa; intro fa hf
        apply wpList_nil
        (try simp only [Exit.then, Exit.inBlock, ↓reduceIte, Nat.reduceEqDiff])
        refine hK13 _ _ ?_
        refine wp_cond_split (t := (decide (((sbt u k : Nat) : Int) ≠ (92 : Int)))) (hf.ev rfl) (fun hqt37_1 => ?_) (fun hqt37_1 => ?_)
        · have hqt37_1b := hqt37_1
          try simp only [decide_eq_true_eq, Bool.and_eq_true, Bool.or_eq_true, Bool.not_eq_true', decide_eq_false_iff_not, ne_eq, Bool.not_eq_true] at hqt37_1
          refine wp_seq_k (fun K14 hK14 => ?_)
          refine wp_region_lit ?_
          refine sqv hf (r_move rfl) rfl rfl rfl ?_; clear hf fa; intro fa hf
          refine sqv hf (r_move rfl) rfl rfl rfl ?_; clear hf fa; intro fa hf
          refine sqv hf (r_move rfl) rfl rfl rfl ?_; clear hf fa; intro fa hf
          refine sqv hf (r_sindexD (j := k) rfl rfl Try.underlying9 rfl (by omega)) rfl rfl rfl ?_; clear hf fa; intro fa hf
          refine sqdt hf (d_bslice (z := (.int .u8 (0 : Int))) (sz := 1) (vs := [(0, (.int .u8 ((sbt u k : Nat) : Int)))]) (cs := #[(.int .u8 ((sbt u k : Nat) : Int))]) rfl Try.underlying86 (by kernel_rfl) rfl (by kernel_rfl)) rfl rfl rfl ?_; clear hf fa; rintro fa _ w2 ⟨b1, rfl, hle1, hk1, he1⟩ hf
          have hBb1 : w.heap.size ≤ b1 := Nat.le_trans hb.size hle1
          replace hrO := Row.ext hrO he1
          replace hb := hb.trans (Below.mono he1 hb.size)
          have hs1 := Row.rd (by intros; rfl) (Row.of_new (k := 1) (V := (vInt .u8)) (l := [((sbt u k : Nat) : Int)]) hk1 (Nat.le_refl _) rfl rfl (Nat.le_of_ble_eq_true rfl))
          refine sqdt hf (d_append (V := (vInt .u8)) (k := 1) (e := 5) (bytes := 1) (z := (.int .u8 (0 : Int))) (news := [((sbt u k : Nat) : Int)]) (base := w.heap.size) (by intros; rfl) (by intro x u hu; simp only [vInt, List.mem_singleton] at hu; subst hu; rfl) rfl rfl Try.underlying86 (by kernel_rfl) rfl rfl rfl hrO hs1 rfl (fun h => by cases h) (by simp only [List.length_cons, List.length_nil, List.length_append]; omega) (by have := hb.size; omega)) rfl rfl rfl ?_; clear hf fa; rintro fa v w3 ⟨hr1, hg1⟩ hf; obtain ⟨ra1, rc1, rfl, hcrc1, hmrc1⟩ := Row.slice hr1
          replace hb := hb.trans (row_below hrO hg1 hb.size (by have := hb.size; omega))
          refine sqv hf (r_assign rfl) rfl rfl rfl ?_; clear hf fa; intro fa hf
          apply wpList_nil
          (try simp only [Exit.then, Exit.inBlock, ↓reduceIte, Nat.reduceEqDiff])
          refine hK14 _ _ ?_
          refine wp_exit ?_
          (try simp only [Exit.then, Exit.inBlock, ↓reduceIte, Nat.reduceEqDiff])
          refine hK11 _ _ ?_
          refine wp_region_lit ?_
          refine sqv hf (r_move rfl) rfl rfl rfl ?_; clear hf fa; intro fa hf
          refine sqv hf (r_add (C := (((k : Nat) : Int) + (1 : Int))) rfl rfl (by rw [IntKind.wrap_i64]; omega)) rfl rfl rfl ?_; clear hf fa; intro fa hf
          refine sqv hf (r_assign rfl) rfl rfl rfl ?_; clear hf fa; intro fa hf
          apply wpList_nil
          (try simp only [Exit.then, Exit.inBlock, ↓reduceIte, Nat.reduceEqDiff])
          refine hKL1 _ _ _ (by omega) ⟨(k + 1), (f - 1), (o ++ [sbt u k]), ra1, rc1, rfl, hf.sub ⟨rfl, rfl, (some_int (by first | rfl | omega)), (some_sl (by simp <;> omega) rfl), trivial⟩, hb, (Row.relen (Row.eqL hr1 (by simp [nI]))), by omega, by omega, (by have h := Hs; rw [bl_dropc u k (by omega)] at h; obtain ⟨f2, rfl⟩ : ∃ f2, f = f2 + 1 := ⟨f - 1, by omega⟩; rw [decP_pl (by omega)] at h; exact h), by simp only [List.length_append, List.length_cons, List.length_nil]; omega⟩
        · have hqt37_1b := hqt37_1
          replace hqt37_1 := Bool.eq_false_iff.1 hqt37_1
          try simp only [ne_eq, decide_eq_true_eq, Bool.and_eq_true, Bool.or_eq_true, Bool.not_eq_true', decide_eq_false_iff_not] at hqt37_1
          refine wp_skip ?_
          (try simp only [Exit.then, Exit.inBlock, ↓reduceIte, Nat.reduceEqDiff])
          refine hK12 _ _ ?_
          refine wp_seq_k (fun K15 hK15 => ?_)
          refine wp_seq_k (fun K16 hK16 => ?_)
          refine wp_region_lit ?_
          refine sqv hf (r_move rfl) rfl rfl rfl ?_; clear hf fa; intro fa hf
          refine sqv hf (r_add (C := (((k : Nat) : Int) + (2 : Int))) rfl rfl (by rw [IntKind.wrap_i64]; omega)) rfl rfl rfl ?_; clear hf fa; intro fa hf
          refine sqv hf (r_move rfl) rfl rfl rfl ?_; clear hf fa; intro fa hf
          refine sqv hf (r_lens rfl Try.underlying9) rfl rfl rfl ?_; clear hf fa; intro fa hf
          refine sqv hf (r_ge rfl rfl) rfl rfl rfl ?_; clear hf fa; intro fa hf
          refine sqv hf (r_move rfl) rfl rfl rfl ?_; clear hf fa; intro fa hf
          refine sqgF (act := (!(decide (((u.size : Nat) : Int) ≤ (((k : Nat) : Int) + (2 : Int)))))) (ag := true) (c := (decide (((u.size : Nat) : Int) ≤ (((k : Nat) : Int) + (2 : Int))))) (v := (.string u)) hf rfl rfl rfl (fun hact => (r_move rfl)) rfl rfl ?_; clear hf fa; intro fa hf
          refine sqgF (act := (!(decide (((u.size : Nat) : Int) ≤ (((k : Nat) : Int) + (2 : Int)))))) (ag := true) (c := (decide (((u.size : Nat) : Int) ≤ (((k : Nat) : Int) + (2 : Int))))) (v := (.int .i64 ((k : Nat) : Int))) hf rfl rfl rfl (fun hact => (r_move rfl)) rfl rfl ?_; clear hf fa; intro fa hf
          refine sqgF (act := (!(decide (((u.size : Nat) : Int) ≤ (((k : Nat) : Int) + (2 : Int)))))) (ag := true) (c := (decide (((u.size : Nat) : Int) ≤ (((k : Nat) : Int) + (2 : Int))))) (v := (.int .i64 (((k : Nat) : Int) + (1 : Int)))) hf rfl rfl rfl (fun hact => (by have hact0 := hact; simp only [Bool.and_eq_true, Bool.not_eq_true', Bool.or_eq_false_iff, Bool.or_eq_true, Bool.and_eq_false_iff, ne_eq, decide_eq_true_eq, decide_eq_false_iff_not] at hact0; exact (r_add (C := (((k : Nat) : Int) + (1 : Int))) (gb_ev hact rfl) rfl (by rw [IntKind.wrap_i64]; omega)))) rfl rfl ?_; clear hf fa; intro fa hf
          refine sqgF (act := (!(decide (((u.size : Nat) : Int) ≤ (((k : Nat) : Int) + (2 : Int)))))) (ag := true) (c := (decide (((u.size : Nat) : Int) ≤ (((k : Nat) : Int) + (2 : Int))))) (v := (.int .u8 ((sbt u (k + 1) : Nat) : Int))) hf rfl rfl rfl (fun hact => (by have hact0 := hact; simp only [Bool.and_eq_true, Bool.not_eq_true', Bool.or_eq_false_iff, Bool.or_eq_true, Bool.and_eq_false_iff, ne_eq, decide_eq_true_eq, decide_eq_false_iff_not] at hact0; exact (r_sindexD (j := (k + 1)) (gb_ev hact rfl) (gb_ev hact rfl) Try.underlying9 rfl (by omega)))) rfl rfl ?_; clear hf fa; intro fa hf
          refine sqgd (R := fun vq wq => vq = gb (!(decide (((u.size : Nat) : Int) ≤ (((k : Nat) : Int) + (2 : Int))))) (.int .i64 ((valI (sbt u (k + 1))))) ∧ w1 = wq) (act := (!(decide (((u.size : Nat) : Int) ≤ (((k : Nat) : Int) + (2 : Int)))))) (g := 5) (want := false) (ag := true) (c := (decide (((u.size : Nat) : Int) ≤ (((k : Nat) : Int) + (2 : Int))))) hf (by rfl) (by rfl) (act_F _ _) (fun hact => (d_callS (vs := [(.int .u8 ((sbt u (k + 1) : Nat) : Int))]) (cons_ev (gb_ev hact rfl) rfl) Try.func61 (by kernel_rfl) (by kernel_rfl) (value_any (sbt u (k + 1)) (sbt_lt _ _) _)).mono (fun _ _ h => ⟨by rw [h.1, hact]; rfl, h.2⟩)) (fun h => ⟨by rw [h]; rfl, rfl⟩) rfl ?_; clear hf fa; rintro fa _ _ ⟨rfl, rfl⟩ hf
          change Fr _ _ ((54, (gb (!(decide (((u.size : Nat) : Int) ≤ (((k : Nat) : Int) + (2 : Int))))) (.int .i64 ((valI (sbt u (k + 1))))))) :: _) at hf
          refine sqgF (act := (!(decide (((u.size : Nat) : Int) ≤ (((k : Nat) : Int) + (2 : Int)))))) (ag := true) (c := (decide (((u.size : Nat) : Int) ≤ (((k : Nat) : Int) + (2 : Int))))) (v := (.bool (decide (((valI (sbt u (k + 1)))) < (0 : Int))))) hf rfl rfl rfl (fun hact => (r_lt (gb_ev hact rfl) rfl)) rfl rfl ?_; clear hf fa; intro fa hf
          refine sqv hf (r_pickO (b := (decide (((u.size : Nat) : Int) ≤ (((k : Nat) : Int) + (2 : Int))))) (e := (decide (((valI (sbt u (k + 1)))) < (0 : Int)))) rfl rfl rfl) rfl rfl rfl ?_; clear hf fa; intro fa hf
          refine sqv hf (r_move rfl) rfl rfl rfl ?_; clear hf fa; intro fa hf
          refine sqgF (act := (!((decide (((u.size : Nat) : Int) ≤ (((k : Nat) : Int) + (2 : Int)))) || (decide (((valI (sbt u (k + 1)))) < (0 : Int)))))) (ag := true) (c := ((decide (((u.size : Nat) : Int) ≤ (((k : Nat) : Int) + (2 : Int)))) || (decide (((valI (sbt u (k + 1)))) < (0 : Int))))) (v := (.string u)) hf rfl rfl rfl (fun hact => (r_move rfl)) rfl rfl ?_; clear hf fa; intro fa hf
          refine sqgF (act := (!((decide (((u.size : Nat) : Int) ≤ (((k : Nat) : Int) + (2 : Int)))) || (decide (((valI (sbt u (k + 1)))) < (0 : Int)))))) (ag := true) (c := ((decide (((u.size : Nat) : Int) ≤ (((k : Nat) : Int) + (2 : Int)))) || (decide (((valI (sbt u (k + 1)))) < (0 : Int))))) (v := (.int .i64 ((k : Nat) : Int))) hf rfl rfl rfl (fun hact => (r_move rfl)) rfl rfl ?_; clear hf fa; intro fa hf
          refine sqgF (act := (!((decide (((u.size : Nat) : Int) ≤ (((k : Nat) : Int) + (2 : Int)))) || (decide (((valI (sbt u (k + 1)))) < (0 : Int)))))) (ag := true) (c := ((decide (((u.size : Nat) : Int) ≤ (((k : Nat) : Int) + (2 : Int)))) || (decide (((valI (sbt u (k + 1)))) < (0 : Int))))) (v := (.int .i64 (((k : Nat) : Int) + (2 : Int)))) hf rfl rfl rfl (fun hact => (by have hact0 := hact; simp only [Bool.and_eq_true, Bool.not_eq_true', Bool.or_eq_false_iff, Bool.or_eq_true, Bool.and_eq_false_iff, ne_eq, decide_eq_true_eq, decide_eq_false_iff_not] at hact0; exact (r_add (C := (((k : Nat) : Int) + (2 : Int))) (gb_ev hact rfl) rfl (by rw [IntKind.wrap_i64]; omega)))) rfl rfl ?_; clear hf fa; intro fa hf
          refine sqgF (act := (!((decide (((u.size : Nat) : Int) ≤ (((k : Nat) : Int) + (2 : Int)))) || (decide (((valI (sbt u (k + 1)))) < (0 : Int)))))) (ag := true) (c := ((decide (((u.size : Nat) : Int) ≤ (((k : Nat) : Int) + (2 : Int)))) || (decide (((valI (sbt u (k + 1)))) < (0 : Int))))) (v := (.int .u8 ((sbt u (k + 2) : Nat) : Int))) hf rfl rfl rfl (fun hact => (by have hact0 := hact; simp only [Bool.and_eq_true, Bool.not_eq_true', Bool.or_eq_false_iff, Bool.or_eq_true, Bool.and_eq_false_iff, ne_eq, decide_eq_true_eq, decide_eq_false_iff_not] at hact0; exact (r_sindexD (j := (k + 2)) (gb_ev hact rfl) (gb_ev hact rfl) Try.underlying9 rfl (by omega)))) rfl rfl ?_; clear hf fa; intro fa hf
          refine sqgd (R := fun vq wq => vq = gb (!((decide (((u.size : Nat) : Int) ≤ (((k : Nat) : Int) + (2 : Int)))) || (decide (((valI (sbt u (k + 1)))) < (0 : Int))))) (.int .i64 ((valI (sbt u (k + 2))))) ∧ w1 = wq) (act := (!((decide (((u.size : Nat) : Int) ≤ (((k : Nat) : Int) + (2 : Int)))) || (decide (((valI (sbt u (k + 1)))) < (0 : Int)))))) (g := 13) (want := false) (ag := true) (c := ((decide (((u.size : Nat) : Int) ≤ (((k : Nat) : Int) + (2 : Int)))) || (decide (((valI (sbt u (k + 1)))) < (0 : Int))))) hf (by rfl) (by rfl) (act_F _ _) (fun hact => (d_callS (vs := [(.int .u8 ((sbt u (k + 2) : Nat) : Int))]) (cons_ev (gb_ev hact rfl) rfl) Try.func61 (by kernel_rfl) (by kernel_rfl) (value_any (sbt u (k + 2)) (sbt_lt _ _) _)).mono (fun _ _ h => ⟨by rw [h.1, hact]; rfl, h.2⟩)) (fun h => ⟨by rw [h]; rfl, rfl⟩) rfl ?_; clear hf fa; rintro fa _ _ ⟨rfl, rfl⟩ hf
          change Fr _ _ ((62, (gb (!((decide (((u.size : Nat) : Int) ≤ (((k : Nat) : Int) + (2 : Int)))) || (decide (((valI (sbt u (k + 1)))) < (0 : Int))))) (.int .i64 ((valI (sbt u (k + 2))))))) :: _) at hf
          refine sqgF (act := (!((decide (((u.size : Nat) : Int) ≤ (((k : Nat) : Int) + (2 : Int)))) || (decide (((valI (sbt u (k + 1)))) < (0 : Int)))))) (ag := true) (c := ((decide (((u.size : Nat) : Int) ≤ (((k : Nat) : Int) + (2 : Int)))) || (decide (((valI (sbt u (k + 1)))) < (0 : Int))))) (v := (.bool (decide (((valI (sbt u (k + 2)))) < (0 : Int))))) hf rfl rfl rfl (fun hact => (r_lt (gb_ev hact rfl) rfl)) rfl rfl ?_; clear hf fa; intro fa hf
          refine sqv hf (r_pickO (b := ((decide (((u.size : Nat) : Int) ≤ (((k : Nat) : Int) + (2 : Int)))) || (decide (((valI (sbt u (k + 1)))) < (0 : Int))))) (e := (decide (((valI (sbt u (k + 2)))) < (0 : Int)))) rfl rfl rfl) rfl rfl rfl ?_; clear hf fa; intro fa hf
          apply wpList_nil
          (try simp only [Exit.then, Exit.inBlock, ↓reduceIte, Nat.reduceEqDiff])
          refine hK16 _ _ ?_
          refine wp_cond_split (t := (((decide (((u.size : Nat) : Int) ≤ (((k : Nat) : Int) + (2 : Int)))) || (decide (((valI (sbt u (k + 1)))) < (0 : Int)))) || (decide (((valI (sbt u (k + 2)))) < (0 : Int))))) (hf.ev rfl) (fun hqt64_1 => ?_) (fun hqt64_1 => ?_)
          · have hqt64_1b := hqt64_1
            try simp only [decide_eq_true_eq, Bool.and_eq_true, Bool.or_eq_true, Bool.not_eq_true', decide_eq_false_iff_not, ne_eq, Bool.not_eq_true] at hqt64_1
            refine wp_seq_k (fun K17 hK17 => ?_)
            refine wp_region_lit ?_
            refine sqv hf (r_assign rfl) rfl rfl rfl ?_; clear hf fa; intro fa hf
            refine sqv hf (r_assign rfl) rfl rfl rfl ?_; clear hf fa; intro fa hf
            apply wpList_nil
            (try simp only [Exit.then, Exit.inBlock, ↓reduceIte, Nat.reduceEqDiff])
            refine hK17 _ _ ?_
            refine wp_ret ?_
            (try simp only [Exit.then, Exit.inBlock])
            refine ret2 hf rfl rfl rfl ?_
            have hn : decP (bl s).length (inner (bl s)) = none := by
              rw [hin, Hs, bl_dropc u k (by omega), show sbt u k = 92 by omega]; obtain ⟨f2, rfl⟩ : ∃ f2, f = f2 + 1 := ⟨f - 1, by omega⟩
              by_cases h2 : k + 2 < u.size
              · rw [bl_dropc u (k + 1) (by omega), bl_dropc u (k + 1 + 1) (by omega), decP_no (by have h := hqt64_1; rw [show sbt u (k + 1 + 1) = sbt u (k + 2) from rfl]; omega)]; rfl
              · rw [decP_short _ _ (by rw [List.length_drop, bl_length]; omega)]; rfl
            refine ⟨?_, hb⟩; unfold readP; rw [hgd, if_pos rfl, hn]; rfl
          · have hqt64_1b := hqt64_1
            replace hqt64_1 := Bool.eq_false_iff.1 hqt64_1
            try simp only [ne_eq, decide_eq_true_eq, Bool.and_eq_true, Bool.or_eq_true, Bool.not_eq_true', decide_eq_false_iff_not] at hqt64_1
            refine wp_skip ?_
            (try simp only [Exit.then, Exit.inBlock, ↓reduceIte, Nat.reduceEqDiff])
            refine hK15 _ _ ?_
            refine wp_seq_k (fun K18 hK18 => ?_)
            obtain ⟨x1, hx1, hx1l⟩ := valI_lt (sbt u (k + 1)) (by have h := hqt64_1; omega)
            obtain ⟨x2, hx2, hx2l⟩ := valI_lt (sbt u (k + 2)) (by have h := hqt64_1; omega)
            refine wp_region_unT 15 (fun wq => Below w1.heap.size w1 wq) (fun w w' => Below w.heap.size w w')
              (fun V => [(fun x _ => x = (.slice rOa (((nI o)).length) rOc)), (fun x _ => x = (.string u)), (fun x _ => x = (.int .i64 ((k : Nat) : Int))), (fun x _ => x = (.int .i64 (((k : Nat) : Int) + (1 : Int)))), (fun x _ => x = (.int .u8 ((sbt u (k + 1) : Nat) : Int))), (fun x _ => x = (.int .i64 ((x1 : Nat) : Int))), (fun x _ => x = (.int .i64 (((x1 * 16) : Nat) : Int))), (fun x _ => x = (.string u)), (fun x _ => x = (.int .i64 ((k : Nat) : Int))), (fun x _ => x = (.int .i64 (((k : Nat) : Int) + (2 : Int)))), (fun x _ => x = (.int .u8 ((sbt u (k + 2) : Nat) : Int))), (fun x _ => x = (.int .i64 ((x2 : Nat) : Int))), (fun x _ => x = (.int .i64 (((x1 * 16 + x2) : Nat) : Int))), (fun x _ => x = (.int .u8 (((x1 * 16 + x2) : Nat) : Int))), (fun x wq => ∃ b, x = .slice (some ⟨b, 0, none⟩) 1 1 ∧ w1.heap.size ≤ b ∧ wq.heap[b]? = some (.cells #[(.int .u8 (((x1 * 16 + x2) : Nat) : Int))] 5 (0, 0)))])
              [14]
              [[], [], [], [2], [1, 3], [4], [5], [], [], [8], [7, 9], [5, 10], [6, 11], [12], [13], [], []]
              hf (by kernel_rfl) (by kernel_rfl) (by kernel_rfl) (fun _ => rfl) ((Below.refl _ _).drew) (fun a b h1 h2 => h1.trans (h2.mono h1.size)) (fun _ _ h => h.size) (fun V => ⟨kept_eq, kept_eq, kept_eq, kept_eq, kept_eq, kept_eq, kept_eq, kept_eq, kept_eq, kept_eq, kept_eq, kept_eq, kept_eq, kept_eq, keptB, trivial⟩) (fun _ _ _ _ _ => rfl) ?_ ?_
            · skip
              intro V
              refine ⟨fun wu0 hC hd => ?_, ?_⟩
              · clear hd
                replace hb := hb.trans (hC.mono hb.size)
                replace hrO := Row.ext hrO hC
                exact Runs.does (r_move rfl) ⟨Below.refl _ _, rfl, nofr rfl⟩
              refine ⟨fun wu1 hC hd => ?_, ?_⟩
              · clear hd
                replace hb := hb.trans (hC.mono hb.size)
                replace hrO := Row.ext hrO hC
                exact Runs.does (r_move rfl) ⟨Below.refl _ _, rfl, nofr rfl⟩
              refine ⟨fun wu2 hC hd => ?_, ?_⟩
              · clear hd
                replace hb := hb.trans (hC.mono hb.size)
                replace hrO := Row.ext hrO hC
                exact Runs.does (r_move rfl) ⟨Below.refl _ _, rfl, nofr rfl⟩
              refine ⟨fun wu3 hC hd => ?_, ?_⟩
              · obtain ⟨h2, _⟩ := hd
                skip
                replace h2 : V 2 = (.int .i64 ((k : Nat) : Int)) := h2
                replace hb := hb.trans (hC.mono hb.size)
                replace hrO := Row.ext hrO hC
                exact Runs.does (r_add (C := (((k : Nat) : Int) + (1 : Int))) (congrArg some h2) rfl (by rw [IntKind.wrap_i64]; omega)) ⟨Below.refl _ _, rfl, nofr rfl⟩
              refine ⟨fun wu4 hC hd => ?_, ?_⟩
              · obtain ⟨h1, h3, _⟩ := hd
                skip
                skip
                replace h1 : V 1 = (.string u) := h1
                replace h3 : V 3 = (.int .i64 (((k : Nat) : Int) + (1 : Int))) := h3
                replace hb := hb.trans (hC.mono hb.size)
                replace hrO := Row.ext hrO hC
                exact Runs.does (r_sindexD (j := (k + 1)) (congrArg some h1) (congrArg some h3) Try.underlying9 rfl (by omega)) ⟨Below.refl _ _, rfl, nofr rfl⟩
              refine ⟨fun wu5 hC hd => ?_, ?_⟩
              · obtain ⟨h4, _⟩ := hd
                skip
                replace h4 : V 4 = (.int .u8 ((sbt u (k + 1) : Nat) : Int)) := h4
                replace hb := hb.trans (hC.mono hb.size)
                replace hrO := Row.ext hrO hC
                refine Does.mono (d_callS (vs := [(.int .u8 ((sbt u (k + 1) : Nat) : Int))]) (show [some (V 4)] = [some (.int .u8 ((sbt u (k + 1) : Nat) : Int))] from by rw [h4]) Try.func61 (by kernel_rfl) (by kernel_rfl) (hx1 ▸ value_any (sbt u (k + 1)) (sbt_lt _ _) _)) (fun _ _ h => ⟨h.2 ▸ Below.refl _ _, h.1, nofr rfl⟩)
              refine ⟨fun wu6 hC hd => ?_, ?_⟩
              · obtain ⟨h5, _⟩ := hd
                skip
                replace h5 : V 5 = (.int .i64 ((x1 : Nat) : Int)) := h5
                replace hb := hb.trans (hC.mono hb.size)
                replace hrO := Row.ext hrO hC
                exact Runs.does (r_shl (n := 4) (C := (((x1 * 16) : Nat) : Int)) (congrArg some h5) rfl rfl (by rw [IntKind.wrap_i64]; simp only [IntKind.bits, show min 4 64 = 4 from rfl]; omega)) ⟨Below.refl _ _, rfl, nofr rfl⟩
              refine ⟨fun wu7 hC hd => ?_, ?_⟩
              · clear hd
                replace hb := hb.trans (hC.mono hb.size)
                replace hrO := Row.ext hrO hC
                exact Runs.does (r_move rfl) ⟨Below.refl _ _, rfl, nofr rfl⟩
              refine ⟨fun wu8 hC hd => ?_, ?_⟩
              · clear hd
                replace hb := hb.trans (hC.mono hb.size)
                replace hrO := Row.ext hrO hC
                exact Runs.does (r_move rfl) ⟨Below.refl _ _, rfl, nofr rfl⟩
              refine ⟨fun wu9 hC hd => ?_, ?_⟩
              · obtain ⟨h8, _⟩ := hd
                skip
                replace h8 : V 8 = (.int .i64 ((k : Nat) : Int)) := h8
                replace hb := hb.trans (hC.mono hb.size)
                replace hrO := Row.ext hrO hC
                exact Runs.does (r_add (C := (((k : Nat) : Int) + (2 : Int))) (congrArg some h8) rfl (by rw [IntKind.wrap_i64]; omega)) ⟨Below.refl _ _, rfl, nofr rfl⟩
              refine ⟨fun wu10 hC hd => ?_, ?_⟩
              · obtain ⟨h7, h9, _⟩ := hd
                skip
                skip
                replace h7 : V 7 = (.string u) := h7
                replace h9 : V 9 = (.int .i64 (((k : Nat) : Int) + (2 : Int))) := h9
                replace hb := hb.trans (hC.mono hb.size)
                replace hrO := Row.ext hrO hC
                exact Runs.does (r_sindexD (j := (k + 2)) (congrArg some h7) (congrArg some h9) Try.underlying9 rfl (by omega)) ⟨Below.refl _ _, rfl, nofr rfl⟩
              refine ⟨fun wu11 hC hd => ?_, ?_⟩
              · obtain ⟨h5, h10, _⟩ := hd
                skip
                skip
                replace h5 : V 5 = (.int .i64 ((x1 : Nat) : Int)) := h5
                replace h10 : V 10 = (.int .u8 ((sbt u (k + 2) : Nat) : Int)) := h10
                replace hb := hb.trans (hC.mono hb.size)
                replace hrO := Row.ext hrO hC
                refine Does.mono (d_callS (vs := [(.int .u8 ((sbt u (k + 2) : Nat) : Int))]) (show [some (V 10)] = [some (.int .u8 ((sbt u (k + 2) : Nat) : Int))] from by rw [h10]) Try.func61 (by kernel_rfl) (by kernel_rfl) (hx2 ▸ value_any (sbt u (k + 2)) (sbt_lt _ _) _)) (fun _ _ h => ⟨h.2 ▸ Below.refl _ _, h.1, nofr rfl⟩)
              refine ⟨fun wu12 hC hd => ?_, ?_⟩
              · obtain ⟨h6, h11, _⟩ := hd
                skip
                skip
                replace h6 : V 6 = (.int .i64 (((x1 * 16) : Nat) : Int)) := h6
                replace h11 : V 11 = (.int .i64 ((x2 : Nat) : Int)) := h11
                replace hb := hb.trans (hC.mono hb.size)
                replace hrO := Row.ext hrO hC
                exact Runs.does (r_or (C := (((x1 * 16 + x2) : Nat) : Int)) (congrArg some h6) (congrArg some h11) (or_i64 x1 x2 hx1l hx2l)) ⟨Below.refl _ _, rfl, nofr rfl⟩
              refine ⟨fun wu13 hC hd => ?_, ?_⟩
              · obtain ⟨h12, _⟩ := hd
                skip
                replace h12 : V 12 = (.int .i64 (((x1 * 16 + x2) : Nat) : Int)) := h12
                replace hb := hb.trans (hC.mono hb.size)
                replace hrO := Row.ext hrO hC
                exact Runs.does (r_conv (C := (((x1 * 16 + x2) : Nat) : Int)) (congrArg some h12) Try.underlying3 Try.underlying5 (by rw [IntKind.wrap_u8]; omega)) ⟨Below.refl _ _, rfl, nofr rfl⟩
              refine ⟨fun wu14 hC hd => ?_, ?_⟩
              · obtain ⟨h13, _⟩ := hd
                skip
                replace h13 : V 13 = (.int .u8 (((x1 * 16 + x2) : Nat) : Int)) := h13
                replace hb := hb.trans (hC.mono hb.size)
                replace hrO := Row.ext hrO hC
                refine Does.mono (d_bslice (z := (.int .u8 (0 : Int))) (sz := 1) (vs := [(0, (.int .u8 (((x1 * 16 + x2) : Nat) : Int)))]) (cs := #[(.int .u8 (((x1 * 16 + x2) : Nat) : Int))]) (show [(0, some (V 13))] = [(0, some (.int .u8 (((x1 * 16 + x2) : Nat) : Int)))] from by rw [h13]) Try.underlying86 (by kernel_rfl) rfl (by kernel_rfl)) ?_
                rintro _ w' ⟨b, rfl, hF⟩
                exact ⟨hF.2.2, ⟨b, rfl, Nat.le_trans hC.size hF.1, hF.2.1⟩, isfr rfl hF.1 (blk_lt hF.2.1)⟩
              trivial
            · skip
              clear hf fa; intro V w4 fa he2 hp hnb hf
              have hv0 : V 0 = (.slice rOa (((nI o)).length) rOc) := postsHold_at hp 0 rfl
              have hv1 : V 1 = (.string u) := postsHold_at hp 1 rfl
              have hv2 : V 2 = (.int .i64 ((k : Nat) : Int)) := postsHold_at hp 2 rfl
              have hv3 : V 3 = (.int .i64 (((k : Nat) : Int) + (1 : Int))) := postsHold_at hp 3 rfl
              have hv4 : V 4 = (.int .u8 ((sbt u (k + 1) : Nat) : Int)) := postsHold_at hp 4 rfl
              have hv5 : V 5 = (.int .i64 ((x1 : Nat) : Int)) := postsHold_at hp 5 rfl
              have hv6 : V 6 = (.int .i64 (((x1 * 16) : Nat) : Int)) := postsHold_at hp 6 rfl
              have hv7 : V 7 = (.string u) := postsHold_at hp 7 rfl
              have hv8 : V 8 = (.int .i64 ((k : Nat) : Int)) := postsHold_at hp 8 rfl
              have hv9 : V 9 = (.int .i64 (((k : Nat) : Int) + (2 : Int))) := postsHold_at hp 9 rfl
              have hv10 : V 10 = (.int .u8 ((sbt u (k + 2) : Nat) : Int)) := postsHold_at hp 10 rfl
              have hv11 : V 11 = (.int .i64 ((x2 : Nat) : Int)) := postsHold_at hp 11 rfl
              have hv12 : V 12 = (.int .i64 (((x1 * 16 + x2) : Nat) : Int)) := postsHold_at hp 12 rfl
              have hv13 : V 13 = (.int .u8 (((x1 * 16 + x2) : Nat) : Int)) := postsHold_at hp 13 rfl
              have hv14 := postsHold_at hp 14 rfl
              obtain ⟨b2, hv14, hle2, hk2⟩ := hv14
              have hBb2 : w.heap.size ≤ b2 := Nat.le_trans hb.size hle2
              simp only [List.take_succ_cons, List.take_zero, insAll, ins, hv0, hv1, hv2, hv3, hv4, hv5, hv6, hv7, hv8, hv9, hv10, hv11, hv12, hv13, hv14] at hf
              clear hp hnb hv0 hv1 hv2 hv3 hv4 hv5 hv6 hv7 hv8 hv9 hv10 hv11 hv12 hv13 hv14
              replace hrO := Row.ext hrO he2
              replace hb := hb.trans (Below.mono he2 hb.size)
              simp only [List.drop_succ_cons, List.drop_zero]
              have hs2 := Row.rd (by intros; rfl) (Row.of_new (k := 1) (V := (vInt .u8)) (l := [(((x1 * 16 + x2) : Nat) : Int)]) hk2 (Nat.le_refl _) rfl rfl (Nat.le_of_ble_eq_true rfl))
              refine sqdt hf (d_append (V := (vInt .u8)) (k := 1) (e := 5) (bytes := 1) (z := (.int .u8 (0 : Int))) (news := [(((x1 * 16 + x2) : Nat) : Int)]) (base := w.heap.size) (by intros; rfl) (by intro x u hu; simp only [vInt, List.mem_singleton] at hu; subst hu; rfl) rfl rfl Try.underlying86 (by kernel_rfl) rfl rfl rfl hrO hs2 rfl (fun h => by cases h) (by simp only [List.length_cons, List.length_nil, List.length_append]; omega) (by have := hb.size; omega)) rfl rfl rfl ?_; clear hf fa; rintro fa v w5 ⟨hr2, hg2⟩ hf; obtain ⟨ra2, rc2, rfl, hcrc2, hmrc2⟩ := Row.slice hr2
              replace hb := hb.trans (row_below hrO hg2 hb.size (by have := hb.size; omega))
              refine sqv hf (r_assign rfl) rfl rfl rfl ?_; clear hf fa; intro fa hf
              apply wpList_nil
              (try simp only [Exit.then, Exit.inBlock, ↓reduceIte, Nat.reduceEqDiff])
              refine hK18 _ _ ?_
              refine wp_region_lit ?_
              refine sqv hf (r_move rfl) rfl rfl rfl ?_; clear hf fa; intro fa hf
              refine sqv hf (r_add (C := (((k : Nat) : Int) + (2 : Int))) rfl rfl (by rw [IntKind.wrap_i64]; omega)) rfl rfl rfl ?_; clear hf fa; intro fa hf
              refine sqv hf (r_assign rfl) rfl rfl rfl ?_; clear hf fa; intro fa hf
              apply wpList_nil
              (try simp only [Exit.then, Exit.inBlock, ↓reduceIte, Nat.reduceEqDiff])
              refine hK11 _ _ ?_
              refine wp_region_lit ?_
              refine sqv hf (r_move rfl) rfl rfl rfl ?_; clear hf fa; intro fa hf
              refine sqv hf (r_add (C := ((((k : Nat) : Int) + (2 : Int)) + (1 : Int))) rfl rfl (by rw [IntKind.wrap_i64]; omega)) rfl rfl rfl ?_; clear hf fa; intro fa hf
              refine sqv hf (r_assign rfl) rfl rfl rfl ?_; clear hf fa; intro fa hf
              apply wpList_nil
              (try simp only [Exit.then, Exit.inBlock, ↓reduceIte, Nat.reduceEqDiff])
              refine hKL1 _ _ _ (by omega) ⟨((k + 2) + 1), (f - 1), (o ++ [x1 * 16 + x2]), ra2, rc2, rfl, hf.sub ⟨rfl, rfl, (some_int (by first | rfl | omega)), (some_sl (by simp <;> omega) rfl), trivial⟩, hb, (Row.relen (Row.eqL hr2 (by simp [nI]))), by omega, by omega, (by have h := Hs; rw [bl_dropc u k (by omega), bl_dropc u (k + 1) (by omega), bl_dropc u (k + 1 + 1) (by omega), show sbt u k = 92 by omega] at h; obtain ⟨f2, rfl⟩ : ∃ f2, f = f2 + 1 := ⟨f - 1, by omega⟩; rw [decP_es (by rw [hx1, show sbt u (k + 1 + 1) = sbt u (k + 2) from rfl, hx2]; omega), hx1, show sbt u (k + 1 + 1) = sbt u (k + 2) from rfl, hx2] at h; exact h), by simp only [List.length_append, List.length_cons, List.length_nil]; omega⟩
      · have hqt31_1b := hqt31_1
        replace hqt31_1 := Bool.eq_false_iff.1 hqt31_1
        try simp only [ne_eq, decide_eq_true_eq, Bool.and_eq_true, Bool.or_eq_true, Bool.not_eq_true', decide_eq_false_iff_not] at hqt31_1
        refine wp_exit ?_
        (try simp only [Exit.then, Exit.inBlock, ↓reduceIte, Nat.reduceEqDiff])
        refine hK7 _ _ ?_
        refine wp_seq_k (fun K19 hK19 => ?_)
        refine wp_seq_k (fun K20 hK20 => ?_)
        have hfin : decP (bl s).length (inner (bl s)) = some o := by
          rw [hin]; have h := Hs; rw [List.drop_eq_nil_of_le (by rw [bl_length]; omega), decP_end] at h; simpa using h
        have hol9 := decP_lt _ _ _ (fun x hx => by rw [hin] at hx; exact bl_lt u x hx) hfin
        have hbo : bl (strOfNums (nI o)) = o := bl_strN o hol9
        refine wp_region_lit ?_
        refine sqv hf (r_move rfl) rfl rfl rfl ?_; clear hf fa; intro fa hf
        refine sqv hf (r_rowstr rfl Try.underlying86 Try.underlying5 Try.underlying9 hrO) rfl rfl rfl ?_; clear hf fa; intro fa hf
        refine sqdt hf (d_callB (vs := [(.string (strOfNums (nI o)))]) rfl Try.func17 (by kernel_rfl) (by kernel_rfl) (show_any (strOfNums (nI o)) _ (by have := strOfNums_size (nI o); (try simp only [List.length_cons, List.length_nil, List.length_append] at this); omega))) rfl rfl rfl ?_; clear hf fa; rintro fa _ w6 ⟨rfl, he3⟩ hf
        replace hrO := Row.ext hrO he3
        replace hb := hb.trans (Below.mono he3 hb.size)
        refine sqv hf (r_move rfl) rfl rfl rfl ?_; clear hf fa; intro fa hf
        refine sqv hf (r_sne rfl rfl) rfl rfl rfl ?_; clear hf fa; intro fa hf
        apply wpList_nil
        (try simp only [Exit.then, Exit.inBlock, ↓reduceIte, Nat.reduceEqDiff])
        refine hK20 _ _ ?_
        refine wp_cond_split (t := (decide ((strN (showL (bl (strOfNums (nI o))))) ≠ s))) (hf.ev rfl) (fun hqt87_1 => ?_) (fun hqt87_1 => ?_)
        · have hqt87_1b := hqt87_1
          try simp only [decide_eq_true_eq, Bool.and_eq_true, Bool.or_eq_true, Bool.not_eq_true', decide_eq_false_iff_not, ne_eq, Bool.not_eq_true] at hqt87_1
          refine wp_seq_k (fun K21 hK21 => ?_)
          refine wp_region_lit ?_
          refine sqv hf (r_assign rfl) rfl rfl rfl ?_; clear hf fa; intro fa hf
          refine sqv hf (r_assign rfl) rfl rfl rfl ?_; clear hf fa; intro fa hf
          apply wpList_nil
          (try simp only [Exit.then, Exit.inBlock, ↓reduceIte, Nat.reduceEqDiff])
          refine hK21 _ _ ?_
          refine wp_ret ?_
          (try simp only [Exit.then, Exit.inBlock])
          refine ret2 hf rfl rfl rfl ?_
          refine ⟨?_, hb⟩; unfold readP; rw [hgd, if_pos rfl, hfin]; simp only [readOf]; rw [if_neg (fun e => hqt87_1 (by rw [hbo, e, strN_bl]))]; rfl
        · have hqt87_1b := hqt87_1
          replace hqt87_1 := Bool.eq_false_iff.1 hqt87_1
          try simp only [ne_eq, decide_eq_true_eq, Bool.and_eq_true, Bool.or_eq_true, Bool.not_eq_true', decide_eq_false_iff_not] at hqt87_1
          refine wp_skip ?_
          (try simp only [Exit.then, Exit.inBlock, ↓reduceIte, Nat.reduceEqDiff])
          refine hK19 _ _ ?_
          refine wp_seq_k (fun K22 hK22 => ?_)
          refine wp_region_lit ?_
          refine sqv hf (r_move rfl) rfl rfl rfl ?_; clear hf fa; intro fa hf
          refine sqv hf (r_rowstr rfl Try.underlying86 Try.underlying5 Try.underlying9 hrO) rfl rfl rfl ?_; clear hf fa; intro fa hf
          refine sqv hf (r_assign rfl) rfl rfl rfl ?_; clear hf fa; intro fa hf
          refine sqv hf (r_assign rfl) rfl rfl rfl ?_; clear hf fa; intro fa hf
          apply wpList_nil
          (try simp only [Exit.then, Exit.inBlock, ↓reduceIte, Nat.reduceEqDiff])
          refine hK22 _ _ ?_
          refine wp_ret ?_
          (try simp only [Exit.then, Exit.inBlock])
          refine ret2 hf rfl rfl rfl ?_
          refine ⟨?_, hb⟩; unfold readP; rw [hgd, if_pos rfl, hfin]; simp only [readOf]; rw [if_pos (by have h := Decidable.of_not_not hqt87_1; rw [hbo] at h; have h2 := congrArg bl h; rwa [bl_strN _ (showL_lt _ hol9)] at h2)]; rfl
end Go.Proofs.Ytahgkfekggkjnaa
