/- What is proved here: what the texts of names (Show, Read), and the document's of them, come to. What is proved here: the document's Read of names; the law UtfShows is true. What is proved here: equality of structs, parts of structs in memory, and results that lie in cells. What is proved here: rules for arrays behind a pointer. What is proved here: a string appended to a row of bytes; bytes as numbers and back. What is proved here: arguments read as data of Lean, with what is known of their size: no slice that came in takes more bytes than a machine has. What is proved here: modules as plain values, and how they are read. What is proved here: numbers as digits: natural, Digits, nibble. What is proved here: library functions (laid by the kit's shelf). What is proved here: CutPrefix, Index, Count, Contains at one byte, in words of lists of numbers. What is proved here: Number: what a text is of digits, by the program. What is proved here: Digits and Number, by the document. What is proved here: a builder's WriteByte, off the kit's shelf. What is proved here: Contains at one byte; a builder of bytes. What is proved here: types of values: which may be, and their names, by the program and by the document. What is proved here: strings.Join (laid by the kit's shelf). What is proved here: names of types and texts, by the program and by the document. -/
import Derived.Test.YtpalmpfkliepfaaOpPartsMgAA
import Derived.Laws.StructEq
import Derived.Lib.AppendStr
import Derived.SizedLaws
import Derived.Shelf.Strings.Builder1
import Derived.Shelf.Small.Wraps
import Derived.Shelf.Strings.Search3
import Derived.Shelf.Strings.Count
import Derived.Shelf.Strings.OnBuilder
namespace Go.Proofs.Ytpalmpfkliepfaa.Ut
open Go.RowKit
set_option linter.unusedVariables false
set_option linter.unusedSimpArgs false

theorem bl_mid (s : ByteArray) (a b : Nat) : bl (s.extract a b) = ((bl s).drop a).take (b - a) := by
  unfold bl
  rw [← List.map_drop, ← List.map_take]
  congr 1
  rw [ByteArray.data_extract, Array.toList_extract, List.extract_eq_take_drop]
theorem or_i64 (a b : Nat) (ha : a < 16) (hb : b < 16) : bits BinOp.or .i64 ((a * 16 : Nat) : Int) (b : Int) = ((a * 16 + b : Nat) : Int) := by
  have : ∀ x : Fin 16, ∀ y : Fin 16, bits BinOp.or .i64 ((x.val * 16 : Nat) : Int) ((y.val : Nat) : Int) = ((x.val * 16 + y.val : Nat) : Int) := by decide +kernel
  exact this ⟨a, ha⟩ ⟨b, hb⟩
theorem decP_short (f : Nat) (r : List Nat) (h : r.length < 2) : decP (f + 1) (92 :: r) = none := by
  match r, h with
  | [], _ => rfl
  | [a], _ => rfl
theorem decP_end (f : Nat) : decP f [] = some [] := by cases f <;> rfl
theorem bl_sbt (s : ByteArray) (n : Nat) (h : n < s.size) : (bl s).getD n 0 = sbt s n := bl_getD s n h
theorem bl_dropc (s : ByteArray) (n : Nat) (h : n < s.size) : (bl s).drop n = sbt s n :: (bl s).drop (n + 1) := by
  have h2 : n < (bl s).length := by rw [bl_length]; exact h
  rw [List.drop_eq_getElem_cons h2, ← bl_sbt s n h, List.getD_eq_getElem?_getD, List.getElem?_eq_getElem h2]; rfl
def nI (l : List Nat) : List Int := l.map fun (x : Nat) => (x : Int)
@[simp] theorem nI_length (l : List Nat) : (nI l).length = l.length := by simp [nI]
theorem strN_size (l : List Nat) : (strN l).size = l.length := by unfold strN; rw [strOfNums_size]; simp
theorem strN_bl (s : ByteArray) : strN (bl s) = s := bl_inj (bl_strN _ (bl_lt s))
theorem valI_lt (c : Nat) (h : ¬ valI c < 0) : ∃ x : Nat, valI c = x ∧ x < 16 := by
  unfold valI at h ⊢
  split
  · exact ⟨c - 48, by omega, by omega⟩
  · split
    · exact ⟨c - 87, by omega, by omega⟩
    · rename_i h1 h2; rw [if_neg h1, if_neg h2] at h; omega
theorem decP_pl0 {f c : Nat} {r : List Nat} (h : ¬ c = 92) : decP (f + 1) (c :: r) = (decP f r).map (c :: ·) := by
  conv => lhs; unfold decP
  simp only [ne_eq, h, not_false_eq_true, if_true]
theorem decP_pl {f c : Nat} {r o : List Nat} (h : ¬ c = 92) : (decP (f + 1) (c :: r)).map (o ++ ·) = (decP f r).map ((o ++ [c]) ++ ·) := by
  rw [decP_pl0 h]; cases decP f r <;> simp
theorem decP_es {f a b : Nat} {r o : List Nat} (h : ¬ (valI a < 0 ∨ valI b < 0)) : (decP (f + 1) (92 :: a :: b :: r)).map (o ++ ·) = (decP f r).map ((o ++ [(valI a).toNat * 16 + (valI b).toNat]) ++ ·) := by
  rw [decP, if_neg (by simp)]; simp only [if_neg h]; cases decP f r <;> simp
theorem decP_no {f a b : Nat} {r : List Nat} (h : valI a < 0 ∨ valI b < 0) : decP (f + 1) (92 :: a :: b :: r) = none := by
  rw [decP, if_neg (by simp)]; simp only [if_pos h]
theorem good_of (s : ByteArray) (h : 2 ≤ s.size) (h1 : sbt s 0 = 34) (h2 : sbt s (s.size - 1) = 34) : goodB (bl s) = true := by
  unfold goodB; rw [bl_length, bl_sbt s 0 (by omega), bl_sbt s (s.size - 1) (by omega), h1, h2]; simp; exact h
theorem inner_bl (s : ByteArray) : inner (bl s) = bl (s.extract 1 (s.size - 1)) := by
  rw [bl_mid]; unfold inner; rw [bl_length]; congr 1
set_option maxHeartbeats 1000000 in
set_option maxRecDepth 100000 in
theorem value_any (c : Nat) (h : c < 256) (w : World) : Calls Try.prog 102 #[(.int .u8 ((c : Nat) : Int))] w fun e w' => e = .returned (.int .i64 (valI c)) ∧ w = w' := by
  refine sx_enter (L := [(0, (.int .u8 ((c : Nat) : Int)))]) Try.func102 rfl rfl rfl rfl (fun fa hf => ?_)
  have hb : Below w.heap.size w w := Below.refl _ _
  refine wp_seq_k (fun K1 hK1 => ?_)
  refine wp_region_lit ?_
  refine sqv hf (r_assign rfl) rfl rfl rfl ?_; clear hf fa; intro fa hf
  apply wpList_nil
  (try simp only [Exit.then, Exit.inBlock, ↓reduceIte, Nat.reduceEqDiff])
  refine hK1 _ _ ?_
  refine wp_seq_k (fun K2 hK2 => ?_)
  refine wp_block ?_
  refine wp_seq_k (fun K3 hK3 => ?_)
  refine wp_region_lit ?_
  refine sqv hf (r_move rfl) rfl rfl rfl ?_; clear hf fa; intro fa hf
  refine sqv hf (r_ge rfl rfl) rfl rfl rfl ?_; clear hf fa; intro fa hf
  refine sqv hf (r_move rfl) rfl rfl rfl ?_; clear hf fa; intro fa hf
  refine sqgT (act := (decide ((48 : Int) ≤ ((c : Nat) : Int)))) (ag := true) (c := (decide ((48 : Int) ≤ ((c : Nat) : Int)))) (v := (.int .u8 ((c : Nat) : Int))) hf rfl rfl rfl (fun hact => (r_move rfl)) rfl rfl ?_; clear hf fa; intro fa hf
  refine sqgT (act := (decide ((48 : Int) ≤ ((c : Nat) : Int)))) (ag := true) (c := (decide ((48 : Int) ≤ ((c : Nat) : Int)))) (v := (.bool (decide (((c : Nat) : Int) ≤ (57 : Int))))) hf rfl rfl rfl (fun hact => (r_le (gb_ev hact rfl) rfl)) rfl rfl ?_; clear hf fa; intro fa hf
  refine sqv hf (r_pickA (b := (decide ((48 : Int) ≤ ((c : Nat) : Int)))) (e := (decide (((c : Nat) : Int) ≤ (57 : Int)))) rfl rfl rfl) rfl rfl rfl ?_; clear hf fa; intro fa hf
  refine sqv hf (r_assign rfl) rfl rfl rfl ?_; clear hf fa; intro fa hf
  apply wpList_nil
  (try simp only [Exit.then, Exit.inBlock, ↓reduceIte, Nat.reduceEqDiff])
  refine hK3 _ _ ?_
  refine wp_cond_split (t := ((decide ((48 : Int) ≤ ((c : Nat) : Int))) && (decide (((c : Nat) : Int) ≤ (57 : Int))))) (hf.ev rfl) (fun hqt3_1 => ?_) (fun hqt3_1 => ?_)
  · have hqt3_1b := hqt3_1
    try simp only [decide_eq_true_eq, Bool.and_eq_true, Bool.or_eq_true, Bool.not_eq_true', decide_eq_false_iff_not, ne_eq, Bool.not_eq_true] at hqt3_1
    refine wp_seq_k (fun K4 hK4 => ?_)
    refine wp_region_lit ?_
    refine sqv hf (r_move rfl) rfl rfl rfl ?_; clear hf fa; intro fa hf
    refine sqv hf (r_sub (C := (((c : Nat) : Int) - (48 : Int))) rfl rfl (by rw [IntKind.wrap_u8]; omega)) rfl rfl rfl ?_; clear hf fa; intro fa hf
    refine sqv hf (r_conv (C := (((c : Nat) : Int) - (48 : Int))) rfl Try.underlying5 Try.underlying3 (by rw [IntKind.wrap_i64]; omega)) rfl rfl rfl ?_; clear hf fa; intro fa hf
    refine sqv hf (r_assign rfl) rfl rfl rfl ?_; clear hf fa; intro fa hf
    apply wpList_nil
    (try simp only [Exit.then, Exit.inBlock, ↓reduceIte, Nat.reduceEqDiff])
    refine hK4 _ _ ?_
    refine wp_ret ?_
    (try simp only [Exit.then, Exit.inBlock])
    refine ret1 hf rfl rfl ?_
    refine ⟨?_, rfl⟩; congr 2; unfold valI; split <;> (try split) <;> omega
  · have hqt3_1b := hqt3_1
    replace hqt3_1 := Bool.eq_false_iff.1 hqt3_1
    try simp only [ne_eq, decide_eq_true_eq, Bool.and_eq_true, Bool.or_eq_true, Bool.not_eq_true', decide_eq_false_iff_not] at hqt3_1
    refine wp_seq_k (fun K5 hK5 => ?_)
    refine wp_region_lit ?_
    refine sqv hf (r_move rfl) rfl rfl rfl ?_; clear hf fa; intro fa hf
    refine sqv hf (r_ge rfl rfl) rfl rfl rfl ?_; clear hf fa; intro fa hf
    refine sqv hf (r_move rfl) rfl rfl rfl ?_; clear hf fa; intro fa hf
    refine sqgT (act := (decide ((97 : Int) ≤ ((c : Nat) : Int)))) (ag := true) (c := (decide ((97 : Int) ≤ ((c : Nat) : Int)))) (v := (.int .u8 ((c : Nat) : Int))) hf rfl rfl rfl (fun hact => (r_move rfl)) rfl rfl ?_; clear hf fa; intro fa hf
    refine sqgT (act := (decide ((97 : Int) ≤ ((c : Nat) : Int)))) (ag := true) (c := (decide ((97 : Int) ≤ ((c : Nat) : Int)))) (v := (.bool (decide (((c : Nat) : Int) ≤ (102 : Int))))) hf rfl rfl rfl (fun hact => (r_le (gb_ev hact rfl) rfl)) rfl rfl ?_; clear hf fa; intro fa hf
    refine sqv hf (r_pickA (b := (decide ((97 : Int) ≤ ((c : Nat) : Int)))) (e := (decide (((c : Nat) : Int) ≤ (102 : Int)))) rfl rfl rfl) rfl rfl rfl ?_; clear hf fa; intro fa hf
    refine sqv hf (r_assign rfl) rfl rfl rfl ?_; clear hf fa; intro fa hf
    apply wpList_nil
    (try simp only [Exit.then, Exit.inBlock, ↓reduceIte, Nat.reduceEqDiff])
    refine hK5 _ _ ?_
    refine wp_cond_split (t := ((decide ((97 : Int) ≤ ((c : Nat) : Int))) && (decide (((c : Nat) : Int) ≤ (102 : Int))))) (hf.ev rfl) (fun hqt13_1 => ?_) (fun hqt13_1 => ?_)
    · have hqt13_1b := hqt13_1
      try simp only [decide_eq_true_eq, Bool.and_eq_true, Bool.or_eq_true, Bool.not_eq_true', decide_eq_false_iff_not, ne_eq, Bool.not_eq_true] at hqt13_1
      refine wp_seq_k (fun K6 hK6 => ?_)
      refine wp_region_lit ?_
      refine sqv hf (r_move rfl) rfl rfl rfl ?_; clear hf fa; intro fa hf
      refine sqv hf (r_sub (C := (((c : Nat) : Int) - (97 : Int))) rfl rfl (by rw [IntKind.wrap_u8]; omega)) rfl rfl rfl ?_; clear hf fa; intro fa hf
      refine sqv hf (r_conv (C := (((c : Nat) : Int) - (97 : Int))) rfl Try.underlying5 Try.underlying3 (by rw [IntKind.wrap_i64]; omega)) rfl rfl rfl ?_; clear hf fa; intro fa hf
      refine sqv hf (r_add (C := ((((c : Nat) : Int) - (97 : Int)) + (10 : Int))) rfl rfl (by rw [IntKind.wrap_i64]; omega)) rfl rfl rfl ?_; clear hf fa; intro fa hf
      refine sqv hf (r_assign rfl) rfl rfl rfl ?_; clear hf fa; intro fa hf
      apply wpList_nil
      (try simp only [Exit.then, Exit.inBlock, ↓reduceIte, Nat.reduceEqDiff])
      refine hK6 _ _ ?_
      refine wp_ret ?_
      (try simp only [Exit.then, Exit.inBlock])
      refine ret1 hf rfl rfl ?_
      refine ⟨?_, rfl⟩; congr 2; unfold valI; split <;> (try split) <;> omega
    · have hqt13_1b := hqt13_1
      replace hqt13_1 := Bool.eq_false_iff.1 hqt13_1
      try simp only [ne_eq, decide_eq_true_eq, Bool.and_eq_true, Bool.or_eq_true, Bool.not_eq_true', decide_eq_false_iff_not] at hqt13_1
      refine wp_skip ?_
      (try simp only [Exit.then, Exit.inBlock, ↓reduceIte, Nat.reduceEqDiff])
      refine hK2 _ _ ?_
      refine wp_seq_k (fun K7 hK7 => ?_)
      refine wp_region_lit ?_
      refine sqv hf (r_assign rfl) rfl rfl rfl ?_; clear hf fa; intro fa hf
      apply wpList_nil
      (try simp only [Exit.then, Exit.inBlock, ↓reduceIte, Nat.reduceEqDiff])
      refine hK7 _ _ ?_
      refine wp_ret ?_
      (try simp only [Exit.then, Exit.inBlock])
      refine ret1 hf rfl rfl ?_
      refine ⟨?_, rfl⟩; congr 2; unfold valI; split <;> (try split) <;> omega

set_option maxHeartbeats 1000000 in
set_option maxRecDepth 100000 in
theorem read_any (s : ByteArray) (w : World) (hs : s.size ≤ 100000) : Calls Try.prog 87 #[(.string s)] w fun e w' => e = .returned (.tuple #[.string (strN (readP (bl s)).1), .bool (readP (bl s)).2]) ∧ Below w.heap.size w w' := by
  refine sx_enter (L := [(0, (.string s))]) Try.func87 rfl rfl rfl rfl (fun fa hf => ?_)
  have hb : Below w.heap.size w w := Below.refl _ _
  refine wp_seq_k (fun K1 hK1 => ?_)
  refine wp_region_lit ?_
  refine sqv hf (r_assign rfl) rfl rfl rfl ?_; clear hf fa; intro fa hf
  refine sqv hf (r_assign rfl) rfl rfl rfl ?_; clear hf fa; intro fa hf
  apply wpList_nil
  (try simp only [Exit.then, Exit.inBlock, ↓reduceIte, Nat.reduceEqDiff])
  refine hK1 _ _ ?_
  refine wp_seq_k (fun K2 hK2 => ?_)
  refine wp_seq_k (fun K3 hK3 => ?_)
  refine wp_region_lit ?_
  refine sqv hf (r_move rfl) rfl rfl rfl ?_; clear hf fa; intro fa hf
  refine sqv hf (r_lens rfl Try.underlying9) rfl rfl rfl ?_; clear hf fa; intro fa hf
  refine sqv hf (r_lt rfl rfl) rfl rfl rfl ?_; clear hf fa; intro fa hf
  refine sqv hf (r_move rfl) rfl rfl rfl ?_; clear hf fa; intro fa hf
  refine sqgF (act := (!(decide (((s.size : Nat) : Int) < (2 : Int))))) (ag := true) (c := (decide (((s.size : Nat) : Int) < (2 : Int)))) (v := (.string s)) hf rfl rfl rfl (fun hact => (r_move rfl)) rfl rfl ?_; clear hf fa; intro fa hf
  refine sqgF (act := (!(decide (((s.size : Nat) : Int) < (2 : Int))))) (ag := true) (c := (decide (((s.size : Nat) : Int) < (2 : Int)))) (v := (.int .u8 ((sbt s 0 : Nat) : Int))) hf rfl rfl rfl (fun hact => (by have hact0 := hact; (try simp only [Bool.and_eq_true, Bool.not_eq_true', Bool.or_eq_false_iff, Bool.or_eq_true, Bool.and_eq_false_iff, ne_eq, decide_eq_true_eq, decide_eq_false_iff_not] at hact0); exact (r_sindexD (j := 0) (gb_ev hact rfl) rfl Try.underlying9 rfl (by omega)))) rfl rfl ?_; clear hf fa; intro fa hf
  refine sqgF (act := (!(decide (((s.size : Nat) : Int) < (2 : Int))))) (ag := true) (c := (decide (((s.size : Nat) : Int) < (2 : Int)))) (v := (.bool (decide (((sbt s 0 : Nat) : Int) ≠ (34 : Int))))) hf rfl rfl rfl (fun hact => (r_ne (gb_ev hact rfl) rfl)) rfl rfl ?_; clear hf fa; intro fa hf
  refine sqv hf (r_pickO (b := (decide (((s.size : Nat) : Int) < (2 : Int)))) (e := (decide (((sbt s 0 : Nat) : Int) ≠ (34 : Int)))) rfl rfl rfl) rfl rfl rfl ?_; clear hf fa; intro fa hf
  refine sqv hf (r_move rfl) rfl rfl rfl ?_; clear hf fa; intro fa hf
  refine sqgF (act := (!((decide (((s.size : Nat) : Int) < (2 : Int))) || (decide (((sbt s 0 : Nat) : Int) ≠ (34 : Int)))))) (ag := true) (c := ((decide (((s.size : Nat) : Int) < (2 : Int))) || (decide (((sbt s 0 : Nat) : Int) ≠ (34 : Int))))) (v := (.string s)) hf rfl rfl rfl (fun hact => (r_move rfl)) rfl rfl ?_; clear hf fa; intro fa hf
  refine sqgF (act := (!((decide (((s.size : Nat) : Int) < (2 : Int))) || (decide (((sbt s 0 : Nat) : Int) ≠ (34 : Int)))))) (ag := true) (c := ((decide (((s.size : Nat) : Int) < (2 : Int))) || (decide (((sbt s 0 : Nat) : Int) ≠ (34 : Int))))) (v := (.string s)) hf rfl rfl rfl (fun hact => (r_move rfl)) rfl rfl ?_; clear hf fa; intro fa hf
  refine sqgF (act := (!((decide (((s.size : Nat) : Int) < (2 : Int))) || (decide (((sbt s 0 : Nat) : Int) ≠ (34 : Int)))))) (ag := true) (c := ((decide (((s.size : Nat) : Int) < (2 : Int))) || (decide (((sbt s 0 : Nat) : Int) ≠ (34 : Int))))) (v := (.int .i64 ((s.size : Nat) : Int))) hf rfl rfl rfl (fun hact => (r_lens (gb_ev hact rfl) Try.underlying9)) rfl rfl ?_; clear hf fa; intro fa hf
  refine sqgF (act := (!((decide (((s.size : Nat) : Int) < (2 : Int))) || (decide (((sbt s 0 : Nat) : Int) ≠ (34 : Int)))))) (ag := true) (c := ((decide (((s.size : Nat) : Int) < (2 : Int))) || (decide (((sbt s 0 : Nat) : Int) ≠ (34 : Int))))) (v := (.int .i64 (((s.size : Nat) : Int) - (1 : Int)))) hf rfl rfl rfl (fun hact => (by have hact0 := hact; (try simp only [Bool.and_eq_true, Bool.not_eq_true', Bool.or_eq_false_iff, Bool.or_eq_true, Bool.and_eq_false_iff, ne_eq, decide_eq_true_eq, decide_eq_false_iff_not] at hact0); exact (r_sub (C := (((s.size : Nat) : Int) - (1 : Int))) (gb_ev hact rfl) rfl (by rw [IntKind.wrap_i64]; omega)))) rfl rfl ?_; clear hf fa; intro fa hf
  refine sqgF (act := (!((decide (((s.size : Nat) : Int) < (2 : Int))) || (decide (((sbt s 0 : Nat) : Int) ≠ (34 : Int)))))) (ag := true) (c := ((decide (((s.size : Nat) : Int) < (2 : Int))) || (decide (((sbt s 0 : Nat) : Int) ≠ (34 : Int))))) (v := (.int .u8 ((sbt s (s.size - 1) : Nat) : Int))) hf rfl rfl rfl (fun hact => (by have hact0 := hact; (try simp only [Bool.and_eq_true, Bool.not_eq_true', Bool.or_eq_false_iff, Bool.or_eq_true, Bool.and_eq_false_iff, ne_eq, decide_eq_true_eq, decide_eq_false_iff_not] at hact0); exact (r_sindexD (j := (s.size - 1)) (gb_ev hact rfl) (gb_ev hact rfl) Try.underlying9 (by omega) (by omega)))) rfl rfl ?_; clear hf fa; intro fa hf
  refine sqgF (act := (!((decide (((s.size : Nat) : Int) < (2 : Int))) || (decide (((sbt s 0 : Nat) : Int) ≠ (34 : Int)))))) (ag := true) (c := ((decide (((s.size : Nat) : Int) < (2 : Int))) || (decide (((sbt s 0 : Nat) : Int) ≠ (34 : Int))))) (v := (.bool (decide (((sbt s (s.size - 1) : Nat) : Int) ≠ (34 : Int))))) hf rfl rfl rfl (fun hact => (r_ne (gb_ev hact rfl) rfl)) rfl rfl ?_; clear hf fa; intro fa hf
  refine sqv hf (r_pickO (b := ((decide (((s.size : Nat) : Int) < (2 : Int))) || (decide (((sbt s 0 : Nat) : Int) ≠ (34 : Int))))) (e := (decide (((sbt s (s.size - 1) : Nat) : Int) ≠ (34 : Int)))) rfl rfl rfl) rfl rfl rfl ?_; clear hf fa; intro fa hf
  apply wpList_nil
  (try simp only [Exit.then, Exit.inBlock, ↓reduceIte, Nat.reduceEqDiff])
  refine hK3 _ _ ?_
  refine wp_cond_split (t := (((decide (((s.size : Nat) : Int) < (2 : Int))) || (decide (((sbt s 0 : Nat) : Int) ≠ (34 : Int)))) || (decide (((sbt s (s.size - 1) : Nat) : Int) ≠ (34 : Int))))) (hf.ev rfl) (fun hqt22_1 => ?_) (fun hqt22_1 => ?_)
  · have hqt22_1b := hqt22_1
    try simp only [decide_eq_true_eq, Bool.and_eq_true, Bool.or_eq_true, Bool.not_eq_true', decide_eq_false_iff_not, ne_eq, Bool.not_eq_true] at hqt22_1
    refine wp_seq_k (fun K4 hK4 => ?_)
    refine wp_region_lit ?_
    refine sqv hf (r_assign rfl) rfl rfl rfl ?_; clear hf fa; intro fa hf
    refine sqv hf (r_assign rfl) rfl rfl rfl ?_; clear hf fa; intro fa hf
    apply wpList_nil
    (try simp only [Exit.then, Exit.inBlock, ↓reduceIte, Nat.reduceEqDiff])
    refine hK4 _ _ ?_
    refine wp_ret ?_
    (try simp only [Exit.then, Exit.inBlock])
    refine ret2 hf rfl rfl rfl ?_
    have hg : goodB (bl s) = false := by
      by_cases h2 : 2 ≤ s.size
      · unfold goodB; rw [bl_length, bl_sbt s 0 (by omega), bl_sbt s (s.size - 1) (by omega)]
        have h := hqt22_1
        simp only [Bool.and_eq_false_iff, decide_eq_false_iff_not]; omega
      · unfold goodB; rw [bl_length]; simp [h2]
    refine ⟨?_, hb⟩; unfold readP; rw [hg]; simp; rfl
  · have hqt22_1b := hqt22_1
    replace hqt22_1 := Bool.eq_false_iff.1 hqt22_1
    try simp only [ne_eq, decide_eq_true_eq, Bool.and_eq_true, Bool.or_eq_true, Bool.not_eq_true', decide_eq_false_iff_not] at hqt22_1
    refine wp_skip ?_
    (try simp only [Exit.then, Exit.inBlock, ↓reduceIte, Nat.reduceEqDiff])
    refine hK2 _ _ ?_
    refine wp_seq_k (fun K5 hK5 => ?_)
    refine wp_region_lit ?_
    refine sqv hf (r_assign rfl) rfl rfl rfl ?_; clear hf fa; intro fa hf
    apply wpList_nil
    (try simp only [Exit.then, Exit.inBlock, ↓reduceIte, Nat.reduceEqDiff])
    refine hK5 _ _ ?_
    refine wp_seq_k (fun K6 hK6 => ?_)
    refine wp_region_lit ?_
    refine sqv hf (r_move rfl) rfl rfl rfl ?_; clear hf fa; intro fa hf
    refine sqv hf (r_move rfl) rfl rfl rfl ?_; clear hf fa; intro fa hf
    refine sqv hf (r_lens rfl Try.underlying9) rfl rfl rfl ?_; clear hf fa; intro fa hf
    refine sqv hf (r_sub (C := (((s.size : Nat) : Int) - (1 : Int))) rfl rfl (by rw [IntKind.wrap_i64]; omega)) rfl rfl rfl ?_; clear hf fa; intro fa hf
    refine sqv hf (r_sslice (a := 1) (b := (s.size - 1)) (k1 := .i64) (k2 := .i64) (A := (1 : Int)) (B := (((s.size : Nat) : Int) - (1 : Int))) rfl Try.underlying9 (.inr ⟨_, rfl, rfl, rfl⟩) (.inr ⟨_, rfl, rfl, (by omega)⟩) (by omega) (by omega)) rfl rfl rfl ?_; clear hf fa; intro fa hf
    refine sqv hf (r_assign rfl) rfl rfl rfl ?_; clear hf fa; intro fa hf
    apply wpList_nil
    (try simp only [Exit.then, Exit.inBlock, ↓reduceIte, Nat.reduceEqDiff])
    refine hK6 _ _ ?_
    refine wp_seq_k (fun K7 hK7 => ?_)
    refine wp_seq_k (fun K8 hK8 => ?_)
    have hsz2 : 2 ≤ s.size := by omega
    have hul := sz_ext s 1 (s.size - 1) (by omega) (by omega)
    have hgd : goodB (bl s) = true := good_of s hsz2 (by have h := hqt22_1; omega) (by have h := hqt22_1; omega)
    generalize hu : s.extract 1 (s.size - 1) = u at hf hul
    have hin : inner (bl s) = bl u := by rw [inner_bl, hu]
    refine wp_region_lit ?_
    refine sqv hf (r_assign rfl) rfl rfl rfl ?_; clear hf fa; intro fa hf
    apply wpList_nil
    (try simp only [Exit.then, Exit.inBlock, ↓reduceIte, Nat.reduceEqDiff])
    refine hK8 _ _ ?_
    refine wp_block ?_
    refine wp_loop_k (fun mq fa wr => ∃ (k : Nat) (f : Nat) (o : List Nat) (rOa : Option Addr) (rOc : Nat), mq = u.size - k ∧ Fr 90 fa [(0, (.string s)), (5, (.string u)), (6, (.int .i64 ((k : Nat) : Int))), (4, (.slice rOa (((nI o)).length) rOc))] ∧ Below w.heap.size w wr ∧ Row 1 (vInt .u8) 5 (w.heap.size) wr (.slice rOa (((nI o)).length) rOc) (nI o) ∧ (k ≤ u.size) ∧ (u.size - k ≤ f) ∧ (decP (bl s).length (bl u) = (decP f ((bl u).drop k)).map (o ++ ·)) ∧ (o.length ≤ k)) ?_ ?_
    · skip
      exact ⟨_, 0, (bl s).length, [], none, 0, rfl, hf.sub ⟨rfl, rfl, (some_int (by first | rfl | omega)), (some_sl (by first | omega | rfl | (simp only [List.length_append, List.length_cons, List.length_nil]; omega) | (simp <;> omega)) rfl), trivial⟩, hb, Row.nil, by omega, by rw [bl_length]; omega, (by simp), by simp⟩
    · skip
      clear hf fa; intro mq1 fa w1 hI KL1 hKL1
      clear hb
      obtain ⟨k, f, o, rOa, rOc, hmq1, hf, hb, hrO, hk, hff, Hs, hol⟩ := hI
      have hcrO := Row.caps hrO
      have hno := nI_length o
      refine wp_seq_k (fun K9 hK9 => ?_)
      refine wp_seq_k (fun K10 hK10 => ?_)
      refine wp_region_lit ?_
      refine sqv hf (r_move rfl) rfl rfl rfl ?_; clear hf fa; intro fa hf
      refine sqv hf (r_move rfl) rfl rfl rfl ?_; clear hf fa; intro fa hf
      refine sqv hf (r_lens rfl Try.underlying9) rfl rfl rfl ?_; clear hf fa; intro fa hf
      refine sqv hf (r_lt rfl rfl) rfl rfl rfl ?_; clear hf fa; intro fa hf
      apply wpList_nil
      (try simp only [Exit.then, Exit.inBlock, ↓reduceIte, Nat.reduceEqDiff])
      refine hK10 _ _ ?_
      refine wp_cond_split (t := (decide (((k : Nat) : Int) < ((u.size : Nat) : Int)))) (hf.ev rfl) (fun hqt31_1 => ?_) (fun hqt31_1 => ?_)
      · have hqt31_1b := hqt31_1
        try simp only [decide_eq_true_eq, Bool.and_eq_true, Bool.or_eq_true, Bool.not_eq_true', decide_eq_false_iff_not, ne_eq, Bool.not_eq_true] at hqt31_1
        refine wp_skip ?_
        (try simp only [Exit.then, Exit.inBlock, ↓reduceIte, Nat.reduceEqDiff])
        refine hK9 _ _ ?_
        refine wp_seq_k (fun K11 hK11 => ?_)
        refine wp_block ?_
        refine wp_seq_k (fun K12 hK12 => ?_)
        refine wp_seq_k (fun K13 hK13 => ?_)
        refine wp_region_lit ?_
        refine sqv hf (r_move rfl) rfl rfl rfl ?_; clear hf fa; intro fa hf
        refine sqv hf (r_move rfl) rfl rfl rfl ?_; clear hf fa; intro fa hf
        refine sqv hf (r_sindexD (j := k) rfl rfl Try.underlying9 rfl (by omega)) rfl rfl rfl ?_; clear hf fa; intro fa hf
        refine sqv hf (r_ne rfl rfl) rfl rfl rfl ?_; clear hf fa; intro fa hf
        apply wpList_nil
        (try simp only [Exit.then, Exit.inBlock, ↓reduceIte, Nat.reduceEqDiff])
        refine hK13 _ _ ?_
        refine wp_cond_split (t := (decide (((sbt u k : Nat) : Int) ≠ (92 : Int)))) (hf.ev rfl) (fun hqt37_1 => ?_) (fun hqt37_1 => ?_)
        · have hqt37_1b := hqt37_1
          try simp only [decide_eq_true_eq, Bool.and_eq_true, Bool.or_eq_true, Bool.not_eq_true', decide_eq_false_iff_not, ne_eq, Bool.not_eq_true] at hqt37_1
          refine wp_seq_k (fun K14 hK14 => ?_)
          refine wp_region_lit ?_
          refine sqv hf (r_move rfl) rfl rfl rfl ?_; clear hf fa; intro fa hf
          refine sqv hf (r_move rfl) rfl rfl rfl ?_; clear hf fa; intro fa hf
          refine sqv hf (r_move rfl) rfl rfl rfl ?_; clear hf fa; intro fa hf
          refine sqv hf (r_sindexD (j := k) rfl rfl Try.underlying9 rfl (by omega)) rfl rfl rfl ?_; clear hf fa; intro fa hf
          refine sqdt hf (d_bslice (z := (.int .u8 (0 : Int))) (sz := 1) (vs := [(0, (.int .u8 ((sbt u k : Nat) : Int)))]) (cs := #[(.int .u8 ((sbt u k : Nat) : Int))]) rfl Try.underlying43 (by kernel_rfl) rfl (by kernel_rfl)) rfl rfl rfl ?_; clear hf fa; rintro fa _ w2 ⟨b1, rfl, hle1, hk1, he1⟩ hf
          have hBb1 : w.heap.size ≤ b1 := Nat.le_trans hb.size hle1
          have hnr1 : (Value.slice rOa ((((nI o)).length)) rOc).ownBlock ≠ some b1 := fun hq => by have := (Row.lt hrO _ hq).2; omega
          have hnl1 : ∀ q, (Value.slice rOa ((((nI o)).length)) rOc).ownBlock = some q → q < b1 := fun q hq => Nat.lt_of_lt_of_le (Row.lt hrO q hq).2 hle1
          replace hrO := Row.ext hrO he1
          replace hb := hb.trans (Below.mono he1 hb.size)
          have hs1 := Row.rd (by intros; rfl) (Row.of_new (k := 1) (V := (vInt .u8)) (l := [((sbt u k : Nat) : Int)]) hk1 (Nat.le_refl _) rfl rfl (Nat.le_of_ble_eq_true rfl))
          refine sqdt hf (d_append (V := (vInt .u8)) (k := 1) (e := 5) (bytes := 1) (z := (.int .u8 (0 : Int))) (news := [((sbt u k : Nat) : Int)]) (base := w.heap.size) (by intros; rfl) (by intro x u hu; simp only [vInt, List.mem_singleton] at hu; subst hu; rfl) rfl rfl Try.underlying43 (by kernel_rfl) rfl rfl rfl hrO hs1 rfl (fun h => by cases h) (by first | omega | (simp only [List.length_cons, List.length_nil, List.length_append]; omega)) (by have := hb.size; omega)) rfl rfl rfl ?_; clear hf fa; rintro fa v w3 ⟨hr1, hg1⟩ hf; obtain ⟨ra1, rc1, rfl, hcrc1, hmrc1⟩ := Row.slice hr1
          replace hb := hb.trans (row_below hrO hg1 hb.size (by have := hb.size; omega))
          refine sqv hf (r_assign rfl) rfl rfl rfl ?_; clear hf fa; intro fa hf
          apply wpList_nil
          (try simp only [Exit.then, Exit.inBlock, ↓reduceIte, Nat.reduceEqDiff])
          refine hK14 _ _ ?_
          refine wp_exit ?_
          (try simp only [Exit.then, Exit.inBlock, ↓reduceIte, Nat.reduceEqDiff])
          refine hK11 _ _ ?_
          refine wp_region_lit ?_
          refine sqv hf (r_move rfl) rfl rfl rfl ?_; clear hf fa; intro fa hf
          refine sqv hf (r_add (C := (((k : Nat) : Int) + (1 : Int))) rfl rfl (by rw [IntKind.wrap_i64]; omega)) rfl rfl rfl ?_; clear hf fa; intro fa hf
          refine sqv hf (r_assign rfl) rfl rfl rfl ?_; clear hf fa; intro fa hf
          apply wpList_nil
          (try simp only [Exit.then, Exit.inBlock, ↓reduceIte, Nat.reduceEqDiff])
          refine hKL1 _ _ _ (by omega) ⟨(k + 1), (f - 1), (o ++ [sbt u k]), ra1, rc1, rfl, hf.sub ⟨rfl, rfl, (some_int (by first | rfl | omega)), (some_sl (by first | omega | rfl | (simp only [List.length_append, List.length_cons, List.length_nil]; omega) | (simp <;> omega)) rfl), trivial⟩, hb, (Row.relen (Row.eqL hr1 (by simp [nI]))), by omega, by omega, (by have h := Hs; rw [bl_dropc u k (by omega)] at h; obtain ⟨f2, rfl⟩ : ∃ f2, f = f2 + 1 := ⟨f - 1, by omega⟩; rw [decP_pl (by omega)] at h; exact h), by simp only [List.length_append, List.length_cons, List.length_nil]; omega⟩
        · have hqt37_1b := hqt37_1
          replace hqt37_1 := Bool.eq_false_iff.1 hqt37_1
          try simp only [ne_eq, decide_eq_true_eq, Bool.and_eq_true, Bool.or_eq_true, Bool.not_eq_true', decide_eq_false_iff_not] at hqt37_1
          refine wp_skip ?_
          (try simp only [Exit.then, Exit.inBlock, ↓reduceIte, Nat.reduceEqDiff])
          refine hK12 _ _ ?_
          refine wp_seq_k (fun K15 hK15 => ?_)
          refine wp_seq_k (fun K16 hK16 => ?_)
          refine wp_region_lit ?_
          refine sqv hf (r_move rfl) rfl rfl rfl ?_; clear hf fa; intro fa hf
          refine sqv hf (r_add (C := (((k : Nat) : Int) + (2 : Int))) rfl rfl (by rw [IntKind.wrap_i64]; omega)) rfl rfl rfl ?_; clear hf fa; intro fa hf
          refine sqv hf (r_move rfl) rfl rfl rfl ?_; clear hf fa; intro fa hf
          refine sqv hf (r_lens rfl Try.underlying9) rfl rfl rfl ?_; clear hf fa; intro fa hf
          refine sqv hf (r_ge rfl rfl) rfl rfl rfl ?_; clear hf fa; intro fa hf
          refine sqv hf (r_move rfl) rfl rfl rfl ?_; clear hf fa; intro fa hf
          refine sqgF (act := (!(decide (((u.size : Nat) : Int) ≤ (((k : Nat) : Int) + (2 : Int)))))) (ag := true) (c := (decide (((u.size : Nat) : Int) ≤ (((k : Nat) : Int) + (2 : Int))))) (v := (.string u)) hf rfl rfl rfl (fun hact => (r_move rfl)) rfl rfl ?_; clear hf fa; intro fa hf
          refine sqgF (act := (!(decide (((u.size : Nat) : Int) ≤ (((k : Nat) : Int) + (2 : Int)))))) (ag := true) (c := (decide (((u.size : Nat) : Int) ≤ (((k : Nat) : Int) + (2 : Int))))) (v := (.int .i64 ((k : Nat) : Int))) hf rfl rfl rfl (fun hact => (r_move rfl)) rfl rfl ?_; clear hf fa; intro fa hf
          refine sqgF (act := (!(decide (((u.size : Nat) : Int) ≤ (((k : Nat) : Int) + (2 : Int)))))) (ag := true) (c := (decide (((u.size : Nat) : Int) ≤ (((k : Nat) : Int) + (2 : Int))))) (v := (.int .i64 (((k : Nat) : Int) + (1 : Int)))) hf rfl rfl rfl (fun hact => (by have hact0 := hact; (try simp only [Bool.and_eq_true, Bool.not_eq_true', Bool.or_eq_false_iff, Bool.or_eq_true, Bool.and_eq_false_iff, ne_eq, decide_eq_true_eq, decide_eq_false_iff_not] at hact0); exact (r_add (C := (((k : Nat) : Int) + (1 : Int))) (gb_ev hact rfl) rfl (by rw [IntKind.wrap_i64]; omega)))) rfl rfl ?_; clear hf fa; intro fa hf
          refine sqgF (act := (!(decide (((u.size : Nat) : Int) ≤ (((k : Nat) : Int) + (2 : Int)))))) (ag := true) (c := (decide (((u.size : Nat) : Int) ≤ (((k : Nat) : Int) + (2 : Int))))) (v := (.int .u8 ((sbt u (k + 1) : Nat) : Int))) hf rfl rfl rfl (fun hact => (by have hact0 := hact; (try simp only [Bool.and_eq_true, Bool.not_eq_true', Bool.or_eq_false_iff, Bool.or_eq_true, Bool.and_eq_false_iff, ne_eq, decide_eq_true_eq, decide_eq_false_iff_not] at hact0); exact (r_sindexD (j := (k + 1)) (gb_ev hact rfl) (gb_ev hact rfl) Try.underlying9 rfl (by omega)))) rfl rfl ?_; clear hf fa; intro fa hf
          refine sqgd (R := fun vq wq => vq = gb (!(decide (((u.size : Nat) : Int) ≤ (((k : Nat) : Int) + (2 : Int))))) (.int .i64 ((valI (sbt u (k + 1))))) ∧ w1 = wq) (act := (!(decide (((u.size : Nat) : Int) ≤ (((k : Nat) : Int) + (2 : Int)))))) (g := 5) (want := false) (ag := true) (c := (decide (((u.size : Nat) : Int) ≤ (((k : Nat) : Int) + (2 : Int))))) hf (by rfl) (by rfl) (act_F _ _) (fun hact => (d_callS (vs := [(.int .u8 ((sbt u (k + 1) : Nat) : Int))]) (cons_ev (gb_ev hact rfl) rfl) Try.func102 (by kernel_rfl) (by kernel_rfl) (value_any (sbt u (k + 1)) (sbt_lt _ _) _)).mono (fun _ _ h => ⟨by rw [h.1, hact]; rfl, h.2⟩)) (fun h => ⟨by rw [h]; rfl, rfl⟩) rfl ?_; clear hf fa; rintro fa _ _ ⟨rfl, rfl⟩ hf
          change Fr _ _ ((54, (gb (!(decide (((u.size : Nat) : Int) ≤ (((k : Nat) : Int) + (2 : Int))))) (.int .i64 ((valI (sbt u (k + 1))))))) :: _) at hf
          refine sqgF (act := (!(decide (((u.size : Nat) : Int) ≤ (((k : Nat) : Int) + (2 : Int)))))) (ag := true) (c := (decide (((u.size : Nat) : Int) ≤ (((k : Nat) : Int) + (2 : Int))))) (v := (.bool (decide (((valI (sbt u (k + 1)))) < (0 : Int))))) hf rfl rfl rfl (fun hact => (r_lt (gb_ev hact rfl) rfl)) rfl rfl ?_; clear hf fa; intro fa hf
          refine sqv hf (r_pickO (b := (decide (((u.size : Nat) : Int) ≤ (((k : Nat) : Int) + (2 : Int))))) (e := (decide (((valI (sbt u (k + 1)))) < (0 : Int)))) rfl rfl rfl) rfl rfl rfl ?_; clear hf fa; intro fa hf
          refine sqv hf (r_move rfl) rfl rfl rfl ?_; clear hf fa; intro fa hf
          refine sqgF (act := (!((decide (((u.size : Nat) : Int) ≤ (((k : Nat) : Int) + (2 : Int)))) || (decide (((valI (sbt u (k + 1)))) < (0 : Int)))))) (ag := true) (c := ((decide (((u.size : Nat) : Int) ≤ (((k : Nat) : Int) + (2 : Int)))) || (decide (((valI (sbt u (k + 1)))) < (0 : Int))))) (v := (.string u)) hf rfl rfl rfl (fun hact => (r_move rfl)) rfl rfl ?_; clear hf fa; intro fa hf
          refine sqgF (act := (!((decide (((u.size : Nat) : Int) ≤ (((k : Nat) : Int) + (2 : Int)))) || (decide (((valI (sbt u (k + 1)))) < (0 : Int)))))) (ag := true) (c := ((decide (((u.size : Nat) : Int) ≤ (((k : Nat) : Int) + (2 : Int)))) || (decide (((valI (sbt u (k + 1)))) < (0 : Int))))) (v := (.int .i64 ((k : Nat) : Int))) hf rfl rfl rfl (fun hact => (r_move rfl)) rfl rfl ?_; clear hf fa; intro fa hf
          refine sqgF (act := (!((decide (((u.size : Nat) : Int) ≤ (((k : Nat) : Int) + (2 : Int)))) || (decide (((valI (sbt u (k + 1)))) < (0 : Int)))))) (ag := true) (c := ((decide (((u.size : Nat) : Int) ≤ (((k : Nat) : Int) + (2 : Int)))) || (decide (((valI (sbt u (k + 1)))) < (0 : Int))))) (v := (.int .i64 (((k : Nat) : Int) + (2 : Int)))) hf rfl rfl rfl (fun hact => (by have hact0 := hact; (try simp only [Bool.and_eq_true, Bool.not_eq_true', Bool.or_eq_false_iff, Bool.or_eq_true, Bool.and_eq_false_iff, ne_eq, decide_eq_true_eq, decide_eq_false_iff_not] at hact0); exact (r_add (C := (((k : Nat) : Int) + (2 : Int))) (gb_ev hact rfl) rfl (by rw [IntKind.wrap_i64]; omega)))) rfl rfl ?_; clear hf fa; intro fa hf
          refine sqgF (act := (!((decide (((u.size : Nat) : Int) ≤ (((k : Nat) : Int) + (2 : Int)))) || (decide (((valI (sbt u (k + 1)))) < (0 : Int)))))) (ag := true) (c := ((decide (((u.size : Nat) : Int) ≤ (((k : Nat) : Int) + (2 : Int)))) || (decide (((valI (sbt u (k + 1)))) < (0 : Int))))) (v := (.int .u8 ((sbt u (k + 2) : Nat) : Int))) hf rfl rfl rfl (fun hact => (by have hact0 := hact; (try simp only [Bool.and_eq_true, Bool.not_eq_true', Bool.or_eq_false_iff, Bool.or_eq_true, Bool.and_eq_false_iff, ne_eq, decide_eq_true_eq, decide_eq_false_iff_not] at hact0); exact (r_sindexD (j := (k + 2)) (gb_ev hact rfl) (gb_ev hact rfl) Try.underlying9 rfl (by omega)))) rfl rfl ?_; clear hf fa; intro fa hf
          refine sqgd (R := fun vq wq => vq = gb (!((decide (((u.size : Nat) : Int) ≤ (((k : Nat) : Int) + (2 : Int)))) || (decide (((valI (sbt u (k + 1)))) < (0 : Int))))) (.int .i64 ((valI (sbt u (k + 2))))) ∧ w1 = wq) (act := (!((decide (((u.size : Nat) : Int) ≤ (((k : Nat) : Int) + (2 : Int)))) || (decide (((valI (sbt u (k + 1)))) < (0 : Int)))))) (g := 13) (want := false) (ag := true) (c := ((decide (((u.size : Nat) : Int) ≤ (((k : Nat) : Int) + (2 : Int)))) || (decide (((valI (sbt u (k + 1)))) < (0 : Int))))) hf (by rfl) (by rfl) (act_F _ _) (fun hact => (d_callS (vs := [(.int .u8 ((sbt u (k + 2) : Nat) : Int))]) (cons_ev (gb_ev hact rfl) rfl) Try.func102 (by kernel_rfl) (by kernel_rfl) (value_any (sbt u (k + 2)) (sbt_lt _ _) _)).mono (fun _ _ h => ⟨by rw [h.1, hact]; rfl, h.2⟩)) (fun h => ⟨by rw [h]; rfl, rfl⟩) rfl ?_; clear hf fa; rintro fa _ _ ⟨rfl, rfl⟩ hf
          change Fr _ _ ((62, (gb (!((decide (((u.size : Nat) : Int) ≤ (((k : Nat) : Int) + (2 : Int)))) || (decide (((valI (sbt u (k + 1)))) < (0 : Int))))) (.int .i64 ((valI (sbt u (k + 2))))))) :: _) at hf
          refine sqgF (act := (!((decide (((u.size : Nat) : Int) ≤ (((k : Nat) : Int) + (2 : Int)))) || (decide (((valI (sbt u (k + 1)))) < (0 : Int)))))) (ag := true) (c := ((decide (((u.size : Nat) : Int) ≤ (((k : Nat) : Int) + (2 : Int)))) || (decide (((valI (sbt u (k + 1)))) < (0 : Int))))) (v := (.bool (decide (((valI (sbt u (k + 2)))) < (0 : Int))))) hf rfl rfl rfl (fun hact => (r_lt (gb_ev hact rfl) rfl)) rfl rfl ?_; clear hf fa; intro fa hf
          refine sqv hf (r_pickO (b := ((decide (((u.size : Nat) : Int) ≤ (((k : Nat) : Int) + (2 : Int)))) || (decide (((valI (sbt u (k + 1)))) < (0 : Int))))) (e := (decide (((valI (sbt u (k + 2)))) < (0 : Int)))) rfl rfl rfl) rfl rfl rfl ?_; clear hf fa; intro fa hf
          apply wpList_nil
          (try simp only [Exit.then, Exit.inBlock, ↓reduceIte, Nat.reduceEqDiff])
          refine hK16 _ _ ?_
          refine wp_cond_split (t := (((decide (((u.size : Nat) : Int) ≤ (((k : Nat) : Int) + (2 : Int)))) || (decide (((valI (sbt u (k + 1)))) < (0 : Int)))) || (decide (((valI (sbt u (k + 2)))) < (0 : Int))))) (hf.ev rfl) (fun hqt64_1 => ?_) (fun hqt64_1 => ?_)
          · have hqt64_1b := hqt64_1
            try simp only [decide_eq_true_eq, Bool.and_eq_true, Bool.or_eq_true, Bool.not_eq_true', decide_eq_false_iff_not, ne_eq, Bool.not_eq_true] at hqt64_1
            refine wp_seq_k (fun K17 hK17 => ?_)
            refine wp_region_lit ?_
            refine sqv hf (r_assign rfl) rfl rfl rfl ?_; clear hf fa; intro fa hf
            refine sqv hf (r_assign rfl) rfl rfl rfl ?_; clear hf fa; intro fa hf
            apply wpList_nil
            (try simp only [Exit.then, Exit.inBlock, ↓reduceIte, Nat.reduceEqDiff])
            refine hK17 _ _ ?_
            refine wp_ret ?_
            (try simp only [Exit.then, Exit.inBlock])
            refine ret2 hf rfl rfl rfl ?_
            have hn : decP (bl s).length (inner (bl s)) = none := by
              rw [hin, Hs, bl_dropc u k (by omega), show sbt u k = 92 by omega]; obtain ⟨f2, rfl⟩ : ∃ f2, f = f2 + 1 := ⟨f - 1, by omega⟩
              by_cases h2 : k + 2 < u.size
              · rw [bl_dropc u (k + 1) (by omega), bl_dropc u (k + 1 + 1) (by omega), decP_no (by have h := hqt64_1; rw [show sbt u (k + 1 + 1) = sbt u (k + 2) from rfl]; omega)]; rfl
              · rw [decP_short _ _ (by rw [List.length_drop, bl_length]; omega)]; rfl
            refine ⟨?_, hb⟩; unfold readP; rw [hgd, if_pos rfl, hn]; rfl
          · have hqt64_1b := hqt64_1
            replace hqt64_1 := Bool.eq_false_iff.1 hqt64_1
            try simp only [ne_eq, decide_eq_true_eq, Bool.and_eq_true, Bool.or_eq_true, Bool.not_eq_true', decide_eq_false_iff_not] at hqt64_1
            refine wp_skip ?_
            (try simp only [Exit.then, Exit.inBlock, ↓reduceIte, Nat.reduceEqDiff])
            refine hK15 _ _ ?_
            refine wp_seq_k (fun K18 hK18 => ?_)
            obtain ⟨x1, hx1, hx1l⟩ := valI_lt (sbt u (k + 1)) (by have h := hqt64_1; omega)
            obtain ⟨x2, hx2, hx2l⟩ := valI_lt (sbt u (k + 2)) (by have h := hqt64_1; omega)
            refine wp_region_unT 15 (fun wq => Below w1.heap.size w1 wq) (fun w w' => Below w.heap.size w w')
              (fun V => [(fun x _ => x = (.slice rOa (((nI o)).length) rOc)), (fun x _ => x = (.string u)), (fun x _ => x = (.int .i64 ((k : Nat) : Int))), (fun x _ => x = (.int .i64 (((k : Nat) : Int) + (1 : Int)))), (fun x _ => x = (.int .u8 ((sbt u (k + 1) : Nat) : Int))), (fun x _ => x = (.int .i64 ((x1 : Nat) : Int))), (fun x _ => x = (.int .i64 (((x1 * 16) : Nat) : Int))), (fun x _ => x = (.string u)), (fun x _ => x = (.int .i64 ((k : Nat) : Int))), (fun x _ => x = (.int .i64 (((k : Nat) : Int) + (2 : Int)))), (fun x _ => x = (.int .u8 ((sbt u (k + 2) : Nat) : Int))), (fun x _ => x = (.int .i64 ((x2 : Nat) : Int))), (fun x _ => x = (.int .i64 (((x1 * 16 + x2) : Nat) : Int))), (fun x _ => x = (.int .u8 (((x1 * 16 + x2) : Nat) : Int))), (fun x wq => ∃ b, x = .slice (some ⟨b, 0, none⟩) 1 1 ∧ w1.heap.size ≤ b ∧ wq.heap[b]? = some (.cells #[(.int .u8 (((x1 * 16 + x2) : Nat) : Int))] 5 (0, 0)))])
              [14]
              [[], [], [], [2], [1, 3], [4], [5], [], [], [8], [7, 9], [5, 10], [6, 11], [12], [13], [], []]
              hf (by kernel_rfl) (by kernel_rfl) (by kernel_rfl) (fun _ => rfl) ((Below.refl _ _).drew) (fun a b h1 h2 => h1.trans (h2.mono h1.size)) (fun _ _ h => h.size) (fun V => ⟨kept_eq, kept_eq, kept_eq, kept_eq, kept_eq, kept_eq, kept_eq, kept_eq, kept_eq, kept_eq, kept_eq, kept_eq, kept_eq, kept_eq, keptB, trivial⟩) (fun _ _ _ _ _ => rfl) ?_ ?_
            · skip
              intro V
              refine ⟨fun wu0 hC hd => ?_, ?_⟩
              · clear hd
                replace hb := hb.trans (hC.mono hb.size)
                replace hrO := Row.ext hrO hC
                exact Runs.does (r_move rfl) ⟨Below.refl _ _, rfl, nofr rfl⟩
              refine ⟨fun wu1 hC hd => ?_, ?_⟩
              · clear hd
                replace hb := hb.trans (hC.mono hb.size)
                replace hrO := Row.ext hrO hC
                exact Runs.does (r_move rfl) ⟨Below.refl _ _, rfl, nofr rfl⟩
              refine ⟨fun wu2 hC hd => ?_, ?_⟩
              · clear hd
                replace hb := hb.trans (hC.mono hb.size)
                replace hrO := Row.ext hrO hC
                exact Runs.does (r_move rfl) ⟨Below.refl _ _, rfl, nofr rfl⟩
              refine ⟨fun wu3 hC hd => ?_, ?_⟩
              · obtain ⟨h2, _⟩ := hd
                skip
                replace h2 : V 2 = (.int .i64 ((k : Nat) : Int)) := h2
                replace hb := hb.trans (hC.mono hb.size)
                replace hrO := Row.ext hrO hC
                exact Runs.does (r_add (C := (((k : Nat) : Int) + (1 : Int))) (congrArg some h2) rfl (by rw [IntKind.wrap_i64]; omega)) ⟨Below.refl _ _, rfl, nofr rfl⟩
              refine ⟨fun wu4 hC hd => ?_, ?_⟩
              · obtain ⟨h1, h3, _⟩ := hd
                skip
                skip
                replace h1 : V 1 = (.string u) := h1
                replace h3 : V 3 = (.int .i64 (((k : Nat) : Int) + (1 : Int))) := h3
                replace hb := hb.trans (hC.mono hb.size)
                replace hrO := Row.ext hrO hC
                exact Runs.does (r_sindexD (j := (k + 1)) (congrArg some h1) (congrArg some h3) Try.underlying9 rfl (by omega)) ⟨Below.refl _ _, rfl, nofr rfl⟩
              refine ⟨fun wu5 hC hd => ?_, ?_⟩
              · obtain ⟨h4, _⟩ := hd
                skip
                replace h4 : V 4 = (.int .u8 ((sbt u (k + 1) : Nat) : Int)) := h4
                replace hb := hb.trans (hC.mono hb.size)
                replace hrO := Row.ext hrO hC
                refine Does.mono (d_callS (vs := [(.int .u8 ((sbt u (k + 1) : Nat) : Int))]) (show [some (V 4)] = [some (.int .u8 ((sbt u (k + 1) : Nat) : Int))] from by rw [h4]) Try.func102 (by kernel_rfl) (by kernel_rfl) (hx1 ▸ value_any (sbt u (k + 1)) (sbt_lt _ _) _)) (fun _ _ h => ⟨h.2 ▸ Below.refl _ _, h.1, nofr rfl⟩)
              refine ⟨fun wu6 hC hd => ?_, ?_⟩
              · obtain ⟨h5, _⟩ := hd
                skip
                replace h5 : V 5 = (.int .i64 ((x1 : Nat) : Int)) := h5
                replace hb := hb.trans (hC.mono hb.size)
                replace hrO := Row.ext hrO hC
                exact Runs.does (r_shl (n := 4) (C := (((x1 * 16) : Nat) : Int)) (congrArg some h5) rfl rfl (by rw [IntKind.wrap_i64]; simp only [IntKind.bits, show min 4 64 = 4 from rfl]; omega)) ⟨Below.refl _ _, rfl, nofr rfl⟩
              refine ⟨fun wu7 hC hd => ?_, ?_⟩
              · clear hd
                replace hb := hb.trans (hC.mono hb.size)
                replace hrO := Row.ext hrO hC
                exact Runs.does (r_move rfl) ⟨Below.refl _ _, rfl, nofr rfl⟩
              refine ⟨fun wu8 hC hd => ?_, ?_⟩
              · clear hd
                replace hb := hb.trans (hC.mono hb.size)
                replace hrO := Row.ext hrO hC
                exact Runs.does (r_move rfl) ⟨Below.refl _ _, rfl, nofr rfl⟩
              refine ⟨fun wu9 hC hd => ?_, ?_⟩
              · obtain ⟨h8, _⟩ := hd
                skip
                replace h8 : V 8 = (.int .i64 ((k : Nat) : Int)) := h8
                replace hb := hb.trans (hC.mono hb.size)
                replace hrO := Row.ext hrO hC
                exact Runs.does (r_add (C := (((k : Nat) : Int) + (2 : Int))) (congrArg some h8) rfl (by rw [IntKind.wrap_i64]; omega)) ⟨Below.refl _ _, rfl, nofr rfl⟩
              refine ⟨fun wu10 hC hd => ?_, ?_⟩
              · obtain ⟨h7, h9, _⟩ := hd
                skip
                skip
                replace h7 : V 7 = (.string u) := h7
                replace h9 : V 9 = (.int .i64 (((k : Nat) : Int) + (2 : Int))) := h9
                replace hb := hb.trans (hC.mono hb.size)
                replace hrO := Row.ext hrO hC
                exact Runs.does (r_sindexD (j := (k + 2)) (congrArg some h7) (congrArg some h9) Try.underlying9 rfl (by omega)) ⟨Below.refl _ _, rfl, nofr rfl⟩
              refine ⟨fun wu11 hC hd => ?_, ?_⟩
              · obtain ⟨h5, h10, _⟩ := hd
                skip
                skip
                replace h5 : V 5 = (.int .i64 ((x1 : Nat) : Int)) := h5
                replace h10 : V 10 = (.int .u8 ((sbt u (k + 2) : Nat) : Int)) := h10
                replace hb := hb.trans (hC.mono hb.size)
                replace hrO := Row.ext hrO hC
                refine Does.mono (d_callS (vs := [(.int .u8 ((sbt u (k + 2) : Nat) : Int))]) (show [some (V 10)] = [some (.int .u8 ((sbt u (k + 2) : Nat) : Int))] from by rw [h10]) Try.func102 (by kernel_rfl) (by kernel_rfl) (hx2 ▸ value_any (sbt u (k + 2)) (sbt_lt _ _) _)) (fun _ _ h => ⟨h.2 ▸ Below.refl _ _, h.1, nofr rfl⟩)
              refine ⟨fun wu12 hC hd => ?_, ?_⟩
              · obtain ⟨h6, h11, _⟩ := hd
                skip
                skip
                replace h6 : V 6 = (.int .i64 (((x1 * 16) : Nat) : Int)) := h6
                replace h11 : V 11 = (.int .i64 ((x2 : Nat) : Int)) := h11
                replace hb := hb.trans (hC.mono hb.size)
                replace hrO := Row.ext hrO hC
                exact Runs.does (r_or (C := (((x1 * 16 + x2) : Nat) : Int)) (congrArg some h6) (congrArg some h11) (or_i64 x1 x2 hx1l hx2l)) ⟨Below.refl _ _, rfl, nofr rfl⟩
              refine ⟨fun wu13 hC hd => ?_, ?_⟩
              · obtain ⟨h12, _⟩ := hd
                skip
                replace h12 : V 12 = (.int .i64 (((x1 * 16 + x2) : Nat) : Int)) := h12
                replace hb := hb.trans (hC.mono hb.size)
                replace hrO := Row.ext hrO hC
                exact Runs.does (r_conv (C := (((x1 * 16 + x2) : Nat) : Int)) (congrArg some h12) Try.underlying3 Try.underlying5 (by rw [IntKind.wrap_u8]; omega)) ⟨Below.refl _ _, rfl, nofr rfl⟩
              refine ⟨fun wu14 hC hd => ?_, ?_⟩
              · obtain ⟨h13, _⟩ := hd
                skip
                replace h13 : V 13 = (.int .u8 (((x1 * 16 + x2) : Nat) : Int)) := h13
                replace hb := hb.trans (hC.mono hb.size)
                replace hrO := Row.ext hrO hC
                refine Does.mono (d_bslice (z := (.int .u8 (0 : Int))) (sz := 1) (vs := [(0, (.int .u8 (((x1 * 16 + x2) : Nat) : Int)))]) (cs := #[(.int .u8 (((x1 * 16 + x2) : Nat) : Int))]) (show [(0, some (V 13))] = [(0, some (.int .u8 (((x1 * 16 + x2) : Nat) : Int)))] from by rw [h13]) Try.underlying43 (by kernel_rfl) rfl (by kernel_rfl)) ?_
                rintro _ w' ⟨b, rfl, hF⟩
                exact ⟨hF.2.2, ⟨b, rfl, Nat.le_trans hC.size hF.1, hF.2.1⟩, isfr rfl hF.1 (blk_lt hF.2.1)⟩
              trivial
            · skip
              clear hf fa; intro V w4 fa he2 hp hnb hf
              have hv0 : V 0 = (.slice rOa (((nI o)).length) rOc) := postsHold_at hp 0 rfl
              have hv1 : V 1 = (.string u) := postsHold_at hp 1 rfl
              have hv2 : V 2 = (.int .i64 ((k : Nat) : Int)) := postsHold_at hp 2 rfl
              have hv3 : V 3 = (.int .i64 (((k : Nat) : Int) + (1 : Int))) := postsHold_at hp 3 rfl
              have hv4 : V 4 = (.int .u8 ((sbt u (k + 1) : Nat) : Int)) := postsHold_at hp 4 rfl
              have hv5 : V 5 = (.int .i64 ((x1 : Nat) : Int)) := postsHold_at hp 5 rfl
              have hv6 : V 6 = (.int .i64 (((x1 * 16) : Nat) : Int)) := postsHold_at hp 6 rfl
              have hv7 : V 7 = (.string u) := postsHold_at hp 7 rfl
              have hv8 : V 8 = (.int .i64 ((k : Nat) : Int)) := postsHold_at hp 8 rfl
              have hv9 : V 9 = (.int .i64 (((k : Nat) : Int) + (2 : Int))) := postsHold_at hp 9 rfl
              have hv10 : V 10 = (.int .u8 ((sbt u (k + 2) : Nat) : Int)) := postsHold_at hp 10 rfl
              have hv11 : V 11 = (.int .i64 ((x2 : Nat) : Int)) := postsHold_at hp 11 rfl
              have hv12 : V 12 = (.int .i64 (((x1 * 16 + x2) : Nat) : Int)) := postsHold_at hp 12 rfl
              have hv13 : V 13 = (.int .u8 (((x1 * 16 + x2) : Nat) : Int)) := postsHold_at hp 13 rfl
              have hv14 := postsHold_at hp 14 rfl
              obtain ⟨b2, hv14, hle2, hk2⟩ := hv14
              have hBb2 : w.heap.size ≤ b2 := Nat.le_trans hb.size hle2
              simp only [List.take_succ_cons, List.take_zero, insAll, ins, hv0, hv1, hv2, hv3, hv4, hv5, hv6, hv7, hv8, hv9, hv10, hv11, hv12, hv13, hv14] at hf
              have hnr2 : (Value.slice rOa ((((nI o)).length)) rOc).ownBlock ≠ some b2 := fun hq => by have := (Row.lt hrO _ hq).2; have := hle2; omega
              clear hp hnb hv0 hv1 hv2 hv3 hv4 hv5 hv6 hv7 hv8 hv9 hv10 hv11 hv12 hv13 hv14
              replace hrO := Row.ext hrO he2
              replace hb := hb.trans (Below.mono he2 hb.size)
              simp only [List.drop_succ_cons, List.drop_zero]
              have hs2 := Row.rd (by intros; rfl) (Row.of_new (k := 1) (V := (vInt .u8)) (l := [(((x1 * 16 + x2) : Nat) : Int)]) hk2 (Nat.le_refl _) rfl rfl (Nat.le_of_ble_eq_true rfl))
              refine sqdt hf (d_append (V := (vInt .u8)) (k := 1) (e := 5) (bytes := 1) (z := (.int .u8 (0 : Int))) (news := [(((x1 * 16 + x2) : Nat) : Int)]) (base := w.heap.size) (by intros; rfl) (by intro x u hu; simp only [vInt, List.mem_singleton] at hu; subst hu; rfl) rfl rfl Try.underlying43 (by kernel_rfl) rfl rfl rfl hrO hs2 rfl (fun h => by cases h) (by first | omega | (simp only [List.length_cons, List.length_nil, List.length_append]; omega)) (by have := hb.size; omega)) rfl rfl rfl ?_; clear hf fa; rintro fa v w5 ⟨hr2, hg2⟩ hf; obtain ⟨ra2, rc2, rfl, hcrc2, hmrc2⟩ := Row.slice hr2
              replace hb := hb.trans (row_below hrO hg2 hb.size (by have := hb.size; omega))
              refine sqv hf (r_assign rfl) rfl rfl rfl ?_; clear hf fa; intro fa hf
              apply wpList_nil
              (try simp only [Exit.then, Exit.inBlock, ↓reduceIte, Nat.reduceEqDiff])
              refine hK18 _ _ ?_
              refine wp_region_lit ?_
              refine sqv hf (r_move rfl) rfl rfl rfl ?_; clear hf fa; intro fa hf
              refine sqv hf (r_add (C := (((k : Nat) : Int) + (2 : Int))) rfl rfl (by rw [IntKind.wrap_i64]; omega)) rfl rfl rfl ?_; clear hf fa; intro fa hf
              refine sqv hf (r_assign rfl) rfl rfl rfl ?_; clear hf fa; intro fa hf
              apply wpList_nil
              (try simp only [Exit.then, Exit.inBlock, ↓reduceIte, Nat.reduceEqDiff])
              refine hK11 _ _ ?_
              refine wp_region_lit ?_
              refine sqv hf (r_move rfl) rfl rfl rfl ?_; clear hf fa; intro fa hf
              refine sqv hf (r_add (C := ((((k : Nat) : Int) + (2 : Int)) + (1 : Int))) rfl rfl (by rw [IntKind.wrap_i64]; omega)) rfl rfl rfl ?_; clear hf fa; intro fa hf
              refine sqv hf (r_assign rfl) rfl rfl rfl ?_; clear hf fa; intro fa hf
              apply wpList_nil
              (try simp only [Exit.then, Exit.inBlock, ↓reduceIte, Nat.reduceEqDiff])
              refine hKL1 _ _ _ (by omega) ⟨((k + 2) + 1), (f - 1), (o ++ [x1 * 16 + x2]), ra2, rc2, rfl, hf.sub ⟨rfl, rfl, (some_int (by first | rfl | omega)), (some_sl (by first | omega | rfl | (simp only [List.length_append, List.length_cons, List.length_nil]; omega) | (simp <;> omega)) rfl), trivial⟩, hb, (Row.relen (Row.eqL hr2 (by simp [nI]))), by omega, by omega, (by have h := Hs; rw [bl_dropc u k (by omega), bl_dropc u (k + 1) (by omega), bl_dropc u (k + 1 + 1) (by omega), show sbt u k = 92 by omega] at h; obtain ⟨f2, rfl⟩ : ∃ f2, f = f2 + 1 := ⟨f - 1, by omega⟩; rw [decP_es (by rw [hx1, show sbt u (k + 1 + 1) = sbt u (k + 2) from rfl, hx2]; omega), hx1, show sbt u (k + 1 + 1) = sbt u (k + 2) from rfl, hx2] at h; exact h), by simp only [List.length_append, List.length_cons, List.length_nil]; omega⟩
      · have hqt31_1b := hqt31_1
        replace hqt31_1 := Bool.eq_false_iff.1 hqt31_1
        try simp only [ne_eq, decide_eq_true_eq, Bool.and_eq_true, Bool.or_eq_true, Bool.not_eq_true', decide_eq_false_iff_not] at hqt31_1
        refine wp_exit ?_
        (try simp only [Exit.then, Exit.inBlock, ↓reduceIte, Nat.reduceEqDiff])
        refine hK7 _ _ ?_
        refine wp_seq_k (fun K19 hK19 => ?_)
        refine wp_seq_k (fun K20 hK20 => ?_)
        have hfin : decP (bl s).length (inner (bl s)) = some o := by
          rw [hin]; have h := Hs; rw [List.drop_eq_nil_of_le (by rw [bl_length]; omega), decP_end] at h; simpa using h
        have hol9 := decP_lt _ _ _ (fun x hx => by rw [hin] at hx; exact bl_lt u x hx) hfin
        have hbo : bl (strOfNums (nI o)) = o := bl_strN o hol9
        refine wp_region_lit ?_
        refine sqv hf (r_move rfl) rfl rfl rfl ?_; clear hf fa; intro fa hf
        refine sqv hf (r_rowstr rfl Try.underlying43 Try.underlying5 Try.underlying9 hrO) rfl rfl rfl ?_; clear hf fa; intro fa hf
        refine sqdt hf (d_callB (vs := [(.string (strOfNums (nI o)))]) rfl Try.func41 (by kernel_rfl) (by kernel_rfl) (show_any (strOfNums (nI o)) _ (by have := strOfNums_size (nI o); (try simp only [List.length_cons, List.length_nil, List.length_append] at this); omega))) rfl rfl rfl ?_; clear hf fa; rintro fa _ w6 ⟨rfl, he3⟩ hf
        replace hrO := Row.ext hrO he3
        replace hb := hb.trans (Below.mono he3 hb.size)
        refine sqv hf (r_move rfl) rfl rfl rfl ?_; clear hf fa; intro fa hf
        refine sqv hf (r_sne rfl rfl) rfl rfl rfl ?_; clear hf fa; intro fa hf
        apply wpList_nil
        (try simp only [Exit.then, Exit.inBlock, ↓reduceIte, Nat.reduceEqDiff])
        refine hK20 _ _ ?_
        refine wp_cond_split (t := (decide ((strN (showL (bl (strOfNums (nI o))))) ≠ s))) (hf.ev rfl) (fun hqt87_1 => ?_) (fun hqt87_1 => ?_)
        · have hqt87_1b := hqt87_1
          try simp only [decide_eq_true_eq, Bool.and_eq_true, Bool.or_eq_true, Bool.not_eq_true', decide_eq_false_iff_not, ne_eq, Bool.not_eq_true] at hqt87_1
          refine wp_seq_k (fun K21 hK21 => ?_)
          refine wp_region_lit ?_
          refine sqv hf (r_assign rfl) rfl rfl rfl ?_; clear hf fa; intro fa hf
          refine sqv hf (r_assign rfl) rfl rfl rfl ?_; clear hf fa; intro fa hf
          apply wpList_nil
          (try simp only [Exit.then, Exit.inBlock, ↓reduceIte, Nat.reduceEqDiff])
          refine hK21 _ _ ?_
          refine wp_ret ?_
          (try simp only [Exit.then, Exit.inBlock])
          refine ret2 hf rfl rfl rfl ?_
          refine ⟨?_, hb⟩; unfold readP; rw [hgd, if_pos rfl, hfin]; simp only [readOf]; rw [if_neg (fun e => hqt87_1 (by rw [hbo, e, strN_bl]))]; rfl
        · have hqt87_1b := hqt87_1
          replace hqt87_1 := Bool.eq_false_iff.1 hqt87_1
          try simp only [ne_eq, decide_eq_true_eq, Bool.and_eq_true, Bool.or_eq_true, Bool.not_eq_true', decide_eq_false_iff_not] at hqt87_1
          refine wp_skip ?_
          (try simp only [Exit.then, Exit.inBlock, ↓reduceIte, Nat.reduceEqDiff])
          refine hK19 _ _ ?_
          refine wp_seq_k (fun K22 hK22 => ?_)
          refine wp_region_lit ?_
          refine sqv hf (r_move rfl) rfl rfl rfl ?_; clear hf fa; intro fa hf
          refine sqv hf (r_rowstr rfl Try.underlying43 Try.underlying5 Try.underlying9 hrO) rfl rfl rfl ?_; clear hf fa; intro fa hf
          refine sqv hf (r_assign rfl) rfl rfl rfl ?_; clear hf fa; intro fa hf
          refine sqv hf (r_assign rfl) rfl rfl rfl ?_; clear hf fa; intro fa hf
          apply wpList_nil
          (try simp only [Exit.then, Exit.inBlock, ↓reduceIte, Nat.reduceEqDiff])
          refine hK22 _ _ ?_
          refine wp_ret ?_
          (try simp only [Exit.then, Exit.inBlock])
          refine ret2 hf rfl rfl rfl ?_
          refine ⟨?_, hb⟩; unfold readP; rw [hgd, if_pos rfl, hfin]; simp only [readOf]; rw [if_pos (by have h := Decidable.of_not_not hqt87_1; rw [hbo] at h; have h2 := congrArg bl h; rwa [bl_strN _ (showL_lt _ hol9)] at h2)]; rfl
end Go.Proofs.Ytpalmpfkliepfaa.Ut

namespace Go.Proofs.Ytpalmpfkliepfaa.Ut
open Go.RowKit
set_option linter.unusedVariables false
set_option linter.unusedSimpArgs false

theorem readP_len (l : List Nat) (h : ∀ x ∈ l, x < 256) : (readP l).1.length ≤ l.length := by
  have h2 := (read_eq l h).2
  by_cases hb : (readP l).2 = true
  · have h3 := congrArg List.length (h2 hb)
    have h4 : ∀ o : List Nat, o.length ≤ (o.flatMap sh).length := by
      intro o
      induction o with
      | nil => simp
      | cons a o ih => have := (sh_len a).2; simp only [List.flatMap_cons, List.length_append, List.length_cons]; omega
    have := h4 (readP l).1
    unfold showL at h3
    simp only [List.length_cons, List.length_append, List.length_nil] at h3
    omega
  · have : (readP l).1 = [] := by
      unfold readP at hb ⊢
      split
      · rename_i hg
        rw [if_pos hg] at hb
        unfold readOf at hb ⊢
        split
        · rename_i o hd
          rw [hd] at hb
          simp only at hb ⊢
          split
          · rename_i he; rw [if_pos he] at hb; exact absurd rfl hb
          · rfl
        · rfl
      · rfl
    rw [this]; simp
def FndR (L : List Nat) (o : ByteArray) (n k : Nat) (fd : Bool) (o2 : ByteArray) (n2 : Nat) : Prop :=
  (fd = false ∧ o2 = o ∧ n2 = n ∧ findR L 0 256 = findR L k (256 - k)) ∨ (fd = true ∧ ∃ c, findR L 0 256 = some c ∧ bl o2 = bl o ++ [c] ∧ n2 + 1 = n + (sh c).length)
theorem FndR.no {L : List Nat} {o o2 : ByteArray} {n k n2 : Nat} {fd : Bool} (h1 : fd = false) (h2 : o2 = o) (h3 : n2 = n) (h4 : findR L 0 256 = findR L k (256 - k)) : FndR L o n k fd o2 n2 := by unfold FndR; exact .inl ⟨h1, h2, h3, h4⟩
end Go.Proofs.Ytpalmpfkliepfaa.Ut

namespace Go.Proofs.Ytpalmpfkliepfaa
open Go.RowKit
set_option linter.unusedVariables false
set_option linter.unusedSimpArgs false

/-- Two values of a type are equal, or not. -/
def EqT (P : Program) (t : TypeId) (k : Nat) (x y : Value) (b : Bool) : Prop := ∀ d w, (Op.equalIn (d + k) t x y).run P w = .ok b w
def EqF (P : Program) (k : Nat) (xs ys : Array Value) (fs : List Field) (b : Bool) : Prop := ∀ d w, (Op.eqFields (d + k) xs ys fs).run P w = .ok b w
section
variable {P : Program} {t : TypeId} {k : Nat} {xs ys : Array Value}
theorem eqt_int {kk k' : IntKind} {a b : Int} (h : P.underlying t = some (.int k')) : EqT P t (k + 1) (.int kk a) (.int kk b) (decide (a = b)) := fun d w => by
  have := run_equalIn_int (P := P) w (d + k) t kk k' a b h
  rw [show d + (k + 1) = (d + k) + 1 from rfl, this]; rfl
theorem eqt_struct {fs : Array Field} {b : Bool} (ht : P.underlying t = some (.struct fs)) (hp : P.stoodInHeld t = false) (hf : EqF P k xs ys fs.toList b) : EqT P t (k + 1) (.agg xs) (.agg ys) b := fun d w => by
  have hfo : P.fieldsOf t = fs := by unfold Program.fieldsOf; rw [ht]
  rw [show d + (k + 1) = (d + k) + 1 from rfl, run_equalIn_struct w (d + k) t xs ys (by rw [hfo]; exact ht) hp, hfo]
  exact hf d w
theorem eqf_nil : EqF P k xs ys [] true := fun d w => by simp [Op.eqFields]
theorem eqf_cons {f : Field} {fs : List Field} {x y : Value} {r rs : Bool} (hn : (f.name != "_") = true) (hx : ∀ w, (part f.type xs f.offset).run P w = .ok x w) (hy : ∀ w, (part f.type ys f.offset).run P w = .ok y w)
    (h : EqT P f.type k x y r) (hr : EqF P k xs ys fs rs) : EqF P k xs ys (f :: fs) (r && rs) := fun d w => by
  have hn' : f.name ≠ "_" := by simpa using hn
  simp only [Op.eqFields, if_pos hn', Sem.run_bind, hx, hy, Result.andThen_ok, h d w]
  cases r
  · simp
  · simpa using hr d w
theorem eqf_one {f : Field} {x y : Value} {r : Bool} (hn : (f.name != "_") = true) (hx : ∀ w, (part f.type xs f.offset).run P w = .ok x w) (hy : ∀ w, (part f.type ys f.offset).run P w = .ok y w)
    (h : EqT P f.type k x y r) : EqF P k xs ys [f] r := by
  have := eqf_cons (fs := []) hn hx hy h eqf_nil
  rwa [Bool.and_true] at this
end
section
variable {P : Program} {L : List (Nat × Value)} {w : World} {d : Option Tmp} {ty : TypeId} {ps : String} {af : Array Edge} {g : Option (Nat × Bool)}
theorem r_aeq {t yt : TypeId} {x y : Operand} {xs ys : Array Value} {k : Nat} {b : Bool} (hx : evO L x = some (.agg xs)) (hy : evO L y = some (.agg ys)) (hm : P.eqGuardType P.depth t = false) (h : EqT P t k (.agg xs) (.agg ys) b) (hk : Nat.ble k 10000 = true) :
    Runs P L ⟨d, .binOp .eql t x y yt, ty, ps, af, g⟩ w (.bool b) w := by
  intro ρ hρ
  have hk' : 10000 - k + k = 10000 := Nat.sub_add_cancel (by simpa [Nat.ble_eq] using hk)
  have h1 := h (10000 - k) w
  rw [hk'] at h1
  simp only [execOp, hρ x _ hx, hρ y _ hy]
  simp [run_eqGuard_agg (P := P) w .eql t x y xs ys hm, run_eql_struct, h1]
theorem r_ane {t yt : TypeId} {x y : Operand} {xs ys : Array Value} {k : Nat} {b : Bool} (hx : evO L x = some (.agg xs)) (hy : evO L y = some (.agg ys)) (hm : P.eqGuardType P.depth t = false) (h : EqT P t k (.agg xs) (.agg ys) b) (hk : Nat.ble k 10000 = true) :
    Runs P L ⟨d, .binOp .neq t x y yt, ty, ps, af, g⟩ w (.bool (!b)) w := by
  intro ρ hρ
  have hk' : 10000 - k + k = 10000 := Nat.sub_add_cancel (by simpa [Nat.ble_eq] using hk)
  have h1 := h (10000 - k) w
  rw [hk'] at h1
  simp only [execOp, hρ x _ hx, hρ y _ hy]
  simp [run_eqGuard_agg (P := P) w .neq t x y xs ys hm, run_neq_struct, h1]
end

section
variable {P : Program} {fn : Func} {R : Ending → World → Prop} {a : Act} {w : World} {N : Nat} {L : List (Nat × Value)}
theorem load_cell {T T2 : TypeId} {b : Nat} {cs : Array Value} {fr : Nat × Nat} {td : TypeDesc} (hb : w.heap[b]? = some (.cells cs T2 fr)) (hu : P.underlying T = some td) (hd : plainT td = false) (hi : (P.info? T).map (·.size) = some cs.size) : Sem.run P (loadVar T { block := b, off := 0 }) w = .ok (.agg cs) w :=
  run_loadVar_row (P := P) w b T2 T cs fr td hb hu (by cases td <;> simp_all [plainT]) hi
end
section
variable {P : Program} {L : List (Nat × Value)} {w : World} {d : Option Tmp} {ty : TypeId} {ps : String} {af : Array Edge} {g : Option (Nat × Bool)}
theorem d_storeK {t T : TypeId} {x y : Operand} {b o : Nat} {cs cs' : Array Value} {v : Value} (hx : evO L x = some (.pointer (some ⟨b, o, none⟩))) (hy : evO L y = some v) (hs : (P.info? t).map (·.size) = some v.cells.size) (h1 : v.cells.toList.all (·.oneCell') = true)
    (hb : w.heap[b]? = some (.cells cs T (0, 0))) (hl : Nat.ble (o + v.cells.size) cs.size = true) (hcs : setAll cs o v.cells.toList = cs') : Does P L ⟨d, .store t x y, ty, ps, af, g⟩ w (fun _ w' => Wrote w b cs' T w') :=
  d_store hx hy hs (fun u hu => List.all_eq_true.1 h1 u hu) hb (Nat.le_of_ble_eq_true hl) hcs
end
/-- A slice's rest, for reading. -/
theorem RdS.drop {α : Type} {k : Nat} {V : α → List Value} {w : World} {b off : Nat} {l : List α} (m : Nat) (h : RdS k V w (some ⟨b, off, none⟩) l) : RdS k V w (some ⟨b, off + m * k, none⟩) (l.drop m) := by
  intro j x hx
  rw [List.getElem?_drop] at hx
  obtain ⟨b', o', ha, hl, hc⟩ := h _ x hx
  cases ha
  exact ⟨_, _, rfl, hl, fun i u hu => by rw [show off + m * k + j * k + i = off + (m + j) * k + i by rw [Nat.add_mul]; omega]; exact hc i u hu⟩
theorem RdS.take {α : Type} {k : Nat} {V : α → List Value} {w : World} {a : Option Addr} {l : List α} (m : Nat) (h : RdS k V w a l) : RdS k V w a (l.take m) := by
  intro j x hx
  rw [List.getElem?_take] at hx
  split at hx
  · exact h j x hx
  · cases hx
end Go.Proofs.Ytpalmpfkliepfaa

namespace Go.Proofs.Ytpalmpfkliepfaa
open Go.RowKit
set_option linter.unusedVariables false
set_option linter.unusedSimpArgs false
section
variable {P : Program} {L : List (Nat × Value)} {w : World} {d : Option Tmp} {ty : TypeId} {ps : String} {af : Array Edge} {g : Option (Nat × Bool)}
theorem r_ixp {tt e : TypeId} {x i : Operand} {k : IntKind} {I : Int} {b off nn j sz q : Nat} (hx : evO L x = some (.pointer (some ⟨b, off, none⟩))) (hi : evO L i = some (.int k I)) (ht : P.underlying tt = some (.array nn e)) (hsz : (P.info? e).map (·.size) = some sz)
    (hj : I = j) (hlt : j < nn) (hq : off + j * sz = q) : Runs P L ⟨d, .indexAddr tt x i, ty, ps, af, g⟩ w (.pointer (some ⟨b, q, none⟩)) w := by
  intro ρ hρ
  obtain ⟨ii, hii, hs⟩ : ∃ ii, P.info? e = some ii ∧ ii.size = sz := by
    cases hh : P.info? e with
    | none => rw [hh] at hsz; cases hsz
    | some ii => rw [hh] at hsz; exact ⟨ii, rfl, by simpa using hsz⟩
  subst hj hq
  simp [execOp, hρ x _ hx, hρ i _ hi, Instr.indexAt, asIntOf, run_underlying ht, hlt, sizeOf, typeInfo, hii, hs, Addr.add_lit, Instr.sureAddr]
end
end Go.Proofs.Ytpalmpfkliepfaa

namespace Go.Proofs.Ytpalmpfkliepfaa
open Go.RowKit
set_option linter.unusedVariables false
set_option linter.unusedSimpArgs false

theorem fInt_u64 {w : World} {n : Int} (h : fInt .u64 w n) : 0 ≤ n ∧ n < 18446744073709551616 := by
  simp [fInt, Lit.wf, IntKind.min, IntKind.max, IntKind.signed, IntKind.bits] at h; omega
/-- The bytes of a string, as numbers. -/
def nums (s : ByteArray) : List Int := s.data.toList.map fun b => ((b.toNat : Nat) : Int)
theorem nums_len (s : ByteArray) : (nums s).length = s.size := by unfold nums; rw [List.length_map, Array.length_toList]; rfl
theorem strOfNums_app (a b : List Int) : strOfNums (a ++ b) = strOfNums a ++ strOfNums b := by
  apply ByteArray.ext
  unfold strOfNums
  rw [ByteArray.data_append]
  simp
theorem nums_get {s : ByteArray} {j : Nat} (h : j < s.size) : (nums s)[j]? = some ((sbt s j : Nat) : Int) := by
  have hl : j < s.data.toList.length := by rw [Array.length_toList]; exact h
  unfold nums sbt
  rw [List.getElem?_map, List.getElem?_eq_getElem hl, List.getD_eq_getElem?_getD, List.getElem?_eq_getElem hl]
  rfl
section
variable {P : Program} {L : List (Nat × Value)} {w : World} {d : Option Tmp} {ty : TypeId} {ps : String} {af : Array Edge} {g : Option (Nat × Bool)}
theorem retC {fn : Func} {R : Ending → World → Prop} {a : Act} {N : Nat} {p : Tmp} {T T2 : TypeId} {b : Nat} {cs : Array Value} {fr : Nat × Nat} {td : TypeDesc} (hf : Fr N a L) (hr : fn.results = #[.cell p T]) (hp : lk L p = some (.pointer (some ⟨b, 0, none⟩)))
    (hb : w.heap[b]? = some (.cells cs T2 fr)) (hu : P.underlying T = some td) (hd : plainT td = false) (hi : (P.info? T).map (·.size) = some cs.size) (hR : R (.returned (.agg cs)) w) : bodyPost P fn R .ret a w := by
  refine bodyPost_ret (v := .agg cs) ?_ hf.defers hR
  simp [results, hr, hf.has p _ hp, asAddr, load_cell hb hu hd hi]
end
end Go.Proofs.Ytpalmpfkliepfaa

namespace Go.Proofs.Ytpalmpfkliepfaa
open Go.RowKit Go.ChangeShapes Go.WideShapes Go.Deep
set_option linter.unusedVariables false
set_option linter.unusedSimpArgs false

structure ReadsW (P : Program) (t : TypeId) {α : Type} (V : α → List Value) (F : World → α → Prop) : Prop where
  get : ∀ (H : Type) (enc : TypeId × Value → H) (w : World) (base : Nat) (spare : Nat → Bool) (held : Bool) (fuel : Nat) (cs : List Value) (x : DataW H × List MemPlace), DataW.trod enc P w base spare held fuel t cs = some x → (∀ n ∈ x.1.weights P t, n ≤ reachBytes) → ∃ d, cs = V d ∧ F w d
  kept : ∀ w w' d, Below w.heap.size w w' → F w d → F w' d

theorem Reads.toW {P : Program} {t : TypeId} {α : Type} {V : α → List Value} {F : World → α → Prop} (R : Reads P t V F) : ReadsW P t V F :=
  ⟨fun H enc w base spare held fuel cs x h _ => R.get H enc w base spare held fuel cs x h, R.kept⟩

structure ReadsFsW (P : Program) (fs : List Field) (o tot : Nat) {α : Type} (V : α → List Value) (F : World → α → Prop) : Prop where
  get : ∀ (H : Type) (enc : TypeId × Value → H) (w : World) (base : Nat) (spare : Nat → Bool) (held : Bool) (n : Nat) (cs : List Value) (xs : List (DataW H × List MemPlace)), cs.length = tot → xs.length = fs.length →
    (∀ (i : Nat) (f : Field), fs[i]? = some f → DataW.trod enc P w base spare held n f.type ((cs.drop f.offset).take (P.cellsOf f.type)) = xs[i]?) →
    (∀ (i : Nat) (f : Field) (x : DataW H × List MemPlace), fs[i]? = some f → xs[i]? = some x → ∀ n ∈ x.1.weights P f.type, n ≤ reachBytes) → ∃ d, cs.drop o = V d ∧ F w d
  kept : ∀ w w' d, Below w.heap.size w w' → F w d → F w' d

theorem readsFsW_nil {P : Program} {o tot : Nat} (h : o = tot) : ReadsFsW P [] o tot (fun (_ : Unit) => []) (fun _ _ => True) where
  get := by
    intro H enc w base spare held n cs xs hl hx hf hw
    exact ⟨(), List.drop_eq_nil_of_le (by omega), trivial⟩
  kept := fun _ _ _ _ h => h

theorem readsFsW_cons {P : Program} {f : Field} {fs : List Field} {o c tot : Nat} {α β : Type} {V : α → List Value} {F : World → α → Prop} {V' : β → List Value} {F' : World → β → Prop} (h0 : f.offset = o) (hc : P.cellsOf f.type = c) (R : ReadsW P f.type V F) (Rs : ReadsFsW P fs (o + c) tot V' F') :
    ReadsFsW P (f :: fs) o tot (fun (d : α × β) => V d.1 ++ V' d.2) (fun w d => F w d.1 ∧ F' w d.2) where
  get := by
    intro H enc w base spare held n cs xs hl hx hf hw
    cases xs with
    | nil => simp at hx
    | cons y ys =>
      have hh := hf 0 f rfl
      obtain ⟨d1, e1, g1⟩ := R.get H enc w base spare held n _ y (by simpa using hh) (hw 0 f y rfl rfl)
      obtain ⟨d2, e2, g2⟩ := Rs.get H enc w base spare held n cs ys hl (by simpa using hx) (fun i g hg => by simpa using hf (i + 1) g (by simpa using hg)) (fun i g x hg hx => hw (i + 1) g x (by simpa using hg) (by simpa using hx))
      refine ⟨(d1, d2), ?_, g1, g2⟩
      rw [h0, hc] at e1
      show _ = V d1 ++ V' d2
      rw [← e1, ← e2, ← List.drop_drop, List.take_append_drop]
  kept := fun w w' d hb h => ⟨R.kept w w' _ hb h.1, Rs.kept w w' _ hb h.2⟩

theorem readsW_struct {P : Program} {t : TypeId} {fs : Array Field} {tot : Nat} {α : Type} {V : α → List Value} {F : World → α → Prop} (ht : P.underlying t = some (.struct fs)) (hc : P.cellsOf t = tot) (Rs : ReadsFsW P fs.toList 0 tot V F) : ReadsW P t V F where
  get := by
    intro H enc w base spare held fuel cs x h hw
    obtain ⟨xs, n, _, hx, hl, hlen, hf⟩ := DataW.trod_struct ht h
    obtain ⟨d, e, g⟩ := Rs.get H enc w base spare held n cs xs (hl.trans hc) (by simpa using hlen) (fun i f hi => hf i f (by simpa using hi)) (fun i f y hi hy n hn => hw n (by
      rw [hx]
      simp only [DataW.weights, ht]
      exact DataW.weights_mem_each (j := i) (t := f.type) (d := y.1) (by simp [List.getElem?_map, hi]) (by simp [List.getElem?_map, hy]) n hn))
    exact ⟨d, by simpa using e, g⟩
  kept := Rs.kept

theorem ReadsW.arg {P : Program} {t : TypeId} {α : Type} {V : α → List Value} {F : World → α → Prop} (R : ReadsW P t V F) {H : Type} {enc : TypeId × Value → H} {w : World} {base : Nat} {spare : Nat → Bool} {held : Bool} {v : Value} {d : DataW H} {p : List MemPlace}
    (h : DataW.Trod enc P w base spare held t v d p) (hw : ∀ n ∈ d.weights P t, n ≤ reachBytes) : ∃ d, v.cells.toList = V d ∧ F w d := by
  obtain ⟨fuel, hf⟩ := h
  exact R.get H enc w base spare held fuel _ _ hf hw
theorem weights_at {H : Type} {P : Program} {ts : List TypeId} {ds : List (DataW H)} (h : (DataW.weightsEach P ts ds).all (· ≤ reachBytes) = true) {j : Nat} {t : TypeId} {d : DataW H} (ht : ts[j]? = some t) (hd : ds[j]? = some d) : ∀ n ∈ d.weights P t, n ≤ reachBytes := fun n hn => by
  have := List.all_eq_true.1 h n (DataW.weights_mem_each ht hd n hn)
  simpa using this
end Go.Proofs.Ytpalmpfkliepfaa

namespace Go.Proofs.Ytpalmpfkliepfaa
open Go.RowKit
set_option linter.unusedVariables false
set_option linter.unusedSimpArgs false
set_option maxRecDepth 100000
instance {α : Type} [Inhabited α] : Inhabited (Sl α) := ⟨⟨none, 0, 0, fun _ => default⟩⟩
theorem fInt_u8 {w : World} {n : Int} (h : fInt .u8 w n) : 0 ≤ n ∧ n < 256 := by
  simp [fInt, Lit.wf, IntKind.min, IntKind.max, IntKind.signed, IntKind.bits] at h; omega
abbrev MVal := (Int × Int × Unit)
def zMVal : MVal := ((0 : Int), (0 : Int), ())
def vMVal : MVal → List Value := (fun d => (vInt .u8) d.1 ++ (fun d => (vInt .u64) d.1 ++ (fun _ => []) d.2) d.2)
def fMVal : World → MVal → Prop := (fun w d => (fInt .u8) w d.1 ∧ (fun w d => (fInt .u64) w d.1 ∧ (fun _ _ => True) w d.2) w d.2)
theorem rdMVal : ReadsW Try.prog 65 vMVal fMVal := (readsW_struct Try.underlying65 (by kernel_rfl) (readsFsW_cons (o := 0) (c := 1) rfl (by kernel_rfl) (reads_int Try.underlying5).toW (readsFsW_cons (o := 1) (c := 1) rfl (by kernel_rfl) (reads_int Try.underlying63).toW (readsFsW_nil rfl))))
theorem oneMVal : ∀ x, ∀ u ∈ vMVal x, u.oneCell' = true := by
  intro x u hu
  have hu : u ∈ [(.int .u8 x.1), (.int .u64 x.2.1)] := hu
  simp only [List.mem_cons, List.not_mem_nil, or_false] at hu
  rcases hu with rfl | rfl <;> rfl

end Go.Proofs.Ytpalmpfkliepfaa

namespace Go.Proofs.Ytpalmpfkliepfaa
open Go.RowKit Ut
set_option linter.unusedVariables false
set_option linter.unusedSimpArgs false
def nS (n : Nat) : ByteArray := strN (natB n)
def dS (n : Int) : ByteArray := strN (digB n)
theorem natB_byte (n : Nat) : ∀ c ∈ natB n, c < 256 := fun c hc => by have := natB_dig n c hc; omega
theorem digB_byte (n : Int) : ∀ c ∈ digB n, c < 256 := by
  intro c hc
  unfold digB at hc
  split at hc
  · rcases List.mem_cons.1 hc with rfl | hc
    · decide
    · exact natB_byte _ c hc
  · exact natB_byte _ c hc
theorem nS_len {n : Nat} (h : n < 18446744073709551616) : (nS n).size ≤ 20 := by unfold nS; rw [strN_size]; exact natB_len 20 n (by decide) (by omega)
theorem dS_len {n : Int} (h : inI n) : (dS n).size ≤ 20 := by unfold dS; rw [strN_size]; exact digB_len h
theorem strN_app (a b : List Nat) : strN (a ++ b) = strN a ++ strN b := by unfold strN; rw [List.map_append, strOfNums_app]
theorem nS_lt {n : Nat} (h : n < 10) : strOfNums [(48 : Int) + ((n : Nat) : Int)] = nS n := by unfold nS; rw [natB_lt h]; rfl
theorem nS_ge {n : Nat} (h : ¬ n < 10) : nS (n / 10) ++ strOfNums [(48 : Int) + (((n : Nat) : Int) % 10)] = nS n := by unfold nS; rw [natB_ge h, strN_app]; rfl
theorem dS_neg {n : Int} (h : n < 0) : (⟨#[45]⟩ : ByteArray) ++ nS n.natAbs = dS n := by unfold dS digB; rw [if_pos h]; exact (strN_app [45] _).symm
theorem dS_pos {n : Int} (h : ¬ n < 0) : nS n.natAbs = dS n := by unfold dS digB; rw [if_neg h]; rfl
theorem bl_dS (n : Int) : bl (dS n) = digB n := bl_strN _ (digB_byte n)
set_option maxHeartbeats 1000000 in
set_option maxRecDepth 100000 in
theorem natural_aux (n : Nat) (ih : ∀ m, m < n → ∀ w, m < 18446744073709551616 → Calls Try.prog 67 #[.int .u64 ((m : Nat) : Int)] w fun e w' => e = .returned (.string (nS m)) ∧ Below w.heap.size w w') (w : World) (h : n < 18446744073709551616) : Calls Try.prog 67 #[(.int .u64 ((n : Nat) : Int))] w fun e w' => e = .returned (.string (nS n)) ∧ Below w.heap.size w w' := by
  refine sx_enter (L := [(0, (.int .u64 ((n : Nat) : Int)))]) Try.func67 rfl rfl rfl rfl (fun fa hf => ?_)
  have hb : Below w.heap.size w w := Below.refl _ _
  refine wp_seq_k (fun K1 hK1 => ?_)
  refine wp_region_lit ?_
  refine sqv hf (r_assign rfl) rfl rfl rfl ?_; clear hf fa; intro fa hf
  apply wpList_nil
  (try simp only [Exit.then, Exit.inBlock, ↓reduceIte, Nat.reduceEqDiff])
  refine hK1 _ _ ?_
  refine wp_seq_k (fun K2 hK2 => ?_)
  refine wp_seq_k (fun K3 hK3 => ?_)
  refine wp_region_lit ?_
  refine sqv hf (r_move rfl) rfl rfl rfl ?_; clear hf fa; intro fa hf
  refine sqv hf (r_lt rfl rfl) rfl rfl rfl ?_; clear hf fa; intro fa hf
  apply wpList_nil
  (try simp only [Exit.then, Exit.inBlock, ↓reduceIte, Nat.reduceEqDiff])
  refine hK3 _ _ ?_
  refine wp_cond_split (t := (decide (((n : Nat) : Int) < (10 : Int)))) (hf.ev rfl) (fun hqt4_1 => ?_) (fun hqt4_1 => ?_)
  · have hqt4_1b := hqt4_1
    try simp only [decide_eq_true_eq, Bool.and_eq_true, Bool.or_eq_true, Bool.not_eq_true', decide_eq_false_iff_not, ne_eq, Bool.not_eq_true] at hqt4_1
    refine wp_seq_k (fun K4 hK4 => ?_)
    refine wp_region_lit ?_
    refine sqv hf (r_move rfl) rfl rfl rfl ?_; clear hf fa; intro fa hf
    refine sqv hf (r_add (C := ((48 : Int) + ((n : Nat) : Int))) rfl rfl (by rw [IntKind.wrap_u64]; omega)) rfl rfl rfl ?_; clear hf fa; intro fa hf
    refine sqv hf (r_conv (C := ((48 : Int) + ((n : Nat) : Int))) rfl Try.underlying63 Try.underlying5 (by rw [IntKind.wrap_u8]; omega)) rfl rfl rfl ?_; clear hf fa; intro fa hf
    refine sqdt hf (d_bslice (z := (.int .u8 (0 : Int))) (sz := 1) (vs := [(0, (.int .u8 ((48 : Int) + ((n : Nat) : Int))))]) (cs := #[(.int .u8 ((48 : Int) + ((n : Nat) : Int)))]) rfl Try.underlying43 (by kernel_rfl) rfl (by kernel_rfl)) rfl rfl rfl ?_; clear hf fa; rintro fa _ w1 ⟨b1, rfl, hle1, hk1, he1⟩ hf
    have hBb1 : w.heap.size ≤ b1 := Nat.le_trans hb.size hle1
    replace hb := hb.trans (Below.mono he1 hb.size)
    refine sqv hf (r_rowstr rfl Try.underlying43 Try.underlying5 Try.underlying9 (Row.of_new (k := 1) (V := vInt .u8) (l := [((48 : Int) + ((n : Nat) : Int))]) hk1 (Nat.le_refl _) rfl rfl (Nat.le_of_ble_eq_true rfl))) rfl rfl rfl ?_; clear hf fa; intro fa hf
    refine sqv hf (r_assign rfl) rfl rfl rfl ?_; clear hf fa; intro fa hf
    apply wpList_nil
    (try simp only [Exit.then, Exit.inBlock, ↓reduceIte, Nat.reduceEqDiff])
    refine hK4 _ _ ?_
    refine wp_ret ?_
    (try simp only [Exit.then, Exit.inBlock])
    refine ret1 hf rfl rfl ?_
    refine ⟨?_, hb⟩; rw [nS_lt (by omega)]
  · have hqt4_1b := hqt4_1
    replace hqt4_1 := Bool.eq_false_iff.1 hqt4_1
    try simp only [ne_eq, decide_eq_true_eq, Bool.and_eq_true, Bool.or_eq_true, Bool.not_eq_true', decide_eq_false_iff_not] at hqt4_1
    refine wp_skip ?_
    (try simp only [Exit.then, Exit.inBlock, ↓reduceIte, Nat.reduceEqDiff])
    refine hK2 _ _ ?_
    refine wp_seq_k (fun K5 hK5 => ?_)
    refine wp_region_un (fun wq => Below w.heap.size w wq) (fun w w' => Below w.heap.size w w')
      (fun V => [(fun x _ => x = (.int .u64 ((n : Nat) : Int))), (fun x _ => x = (.int .u64 (((n / 10) : Nat) : Int))), (fun x _ => x = (.string (nS ((n / 10))))), (fun x _ => x = (.int .u64 ((n : Nat) : Int))), (fun x _ => x = (.int .u64 (((n : Nat) : Int) % (10 : Int)))), (fun x _ => x = (.int .u64 ((48 : Int) + (((n : Nat) : Int) % (10 : Int))))), (fun x _ => x = (.int .u8 ((48 : Int) + (((n : Nat) : Int) % (10 : Int))))), (fun x wq => ∃ b, x = .slice (some ⟨b, 0, none⟩) 1 1 ∧ w.heap.size ≤ b ∧ wq.heap[b]? = some (.cells #[(.int .u8 ((48 : Int) + (((n : Nat) : Int) % (10 : Int))))] 5 (0, 0))), (fun x _ => x = (.string (strOfNums [((48 : Int) + (((n : Nat) : Int) % (10 : Int)))]))), (fun x _ => x = (.string ((nS ((n / 10))) ++ (strOfNums [((48 : Int) + (((n : Nat) : Int) % (10 : Int)))])))), (fun x _ => x = (.string ((nS ((n / 10))) ++ (strOfNums [((48 : Int) + (((n : Nat) : Int) % (10 : Int)))]))))])
      [7]
      [[], [0], [1], [], [3], [4], [5], [6], [7], [2, 8], [0, 1, 2, 3, 4, 5, 6, 7, 8, 9]]
      hf (by kernel_rfl) (by kernel_rfl) (fun _ => rfl) ((Below.refl _ _).drew) (fun a b h1 h2 => h1.trans (h2.mono h1.size)) (fun _ _ h => h.size) (fun V => ⟨kept_eq, kept_eq, kept_eq, kept_eq, kept_eq, kept_eq, kept_eq, keptB, kept_eq, kept_eq, kept_eq, trivial⟩) (fun _ _ _ _ _ => rfl) ?_ ?_
    · skip
      intro V
      refine ⟨fun wu0 hC hd => ?_, ?_⟩
      · clear hd
        replace hb := hb.trans (hC.mono hb.size)
        exact Runs.does (r_move rfl) ⟨Below.refl _ _, rfl, nofr rfl⟩
      refine ⟨fun wu1 hC hd => ?_, ?_⟩
      · obtain ⟨h0, _⟩ := hd
        skip
        replace h0 : V 0 = (.int .u64 ((n : Nat) : Int)) := h0
        replace hb := hb.trans (hC.mono hb.size)
        exact Runs.does (r_quo (C := (((n / 10) : Nat) : Int)) (congrArg some h0) rfl (by omega) (by rw [Int.tdiv_eq_ediv_of_nonneg (by omega), IntKind.wrap_u64]; omega)) ⟨Below.refl _ _, rfl, nofr rfl⟩
      refine ⟨fun wu2 hC hd => ?_, ?_⟩
      · obtain ⟨h1, _⟩ := hd
        skip
        replace h1 : V 1 = (.int .u64 (((n / 10) : Nat) : Int)) := h1
        replace hb := hb.trans (hC.mono hb.size)
        refine Does.mono (d_callB (vs := [(.int .u64 (((n / 10) : Nat) : Int))]) (show [some (V 1)] = [some (.int .u64 (((n / 10) : Nat) : Int))] from by rw [h1]) Try.func67 (by kernel_rfl) (by kernel_rfl) (ih ((n / 10)) (by omega) _ (by omega))) (fun _ _ h => ⟨h.2, h.1, nofr rfl⟩)
      refine ⟨fun wu3 hC hd => ?_, ?_⟩
      · clear hd
        replace hb := hb.trans (hC.mono hb.size)
        exact Runs.does (r_move rfl) ⟨Below.refl _ _, rfl, nofr rfl⟩
      refine ⟨fun wu4 hC hd => ?_, ?_⟩
      · obtain ⟨h3, _⟩ := hd
        skip
        replace h3 : V 3 = (.int .u64 ((n : Nat) : Int)) := h3
        replace hb := hb.trans (hC.mono hb.size)
        exact Runs.does (r_rem (C := (((n : Nat) : Int) % (10 : Int))) (congrArg some h3) rfl (by omega) (Int.tmod_eq_emod_of_nonneg (by omega))) ⟨Below.refl _ _, rfl, nofr rfl⟩
      refine ⟨fun wu5 hC hd => ?_, ?_⟩
      · obtain ⟨h4, _⟩ := hd
        skip
        replace h4 : V 4 = (.int .u64 (((n : Nat) : Int) % (10 : Int))) := h4
        replace hb := hb.trans (hC.mono hb.size)
        exact Runs.does (r_add (C := ((48 : Int) + (((n : Nat) : Int) % (10 : Int)))) rfl (congrArg some h4) (by rw [IntKind.wrap_u64]; omega)) ⟨Below.refl _ _, rfl, nofr rfl⟩
      refine ⟨fun wu6 hC hd => ?_, ?_⟩
      · obtain ⟨h5, _⟩ := hd
        skip
        replace h5 : V 5 = (.int .u64 ((48 : Int) + (((n : Nat) : Int) % (10 : Int)))) := h5
        replace hb := hb.trans (hC.mono hb.size)
        exact Runs.does (r_conv (C := ((48 : Int) + (((n : Nat) : Int) % (10 : Int)))) (congrArg some h5) Try.underlying63 Try.underlying5 (by rw [IntKind.wrap_u8]; omega)) ⟨Below.refl _ _, rfl, nofr rfl⟩
      refine ⟨fun wu7 hC hd => ?_, ?_⟩
      · obtain ⟨h6, _⟩ := hd
        skip
        replace h6 : V 6 = (.int .u8 ((48 : Int) + (((n : Nat) : Int) % (10 : Int)))) := h6
        replace hb := hb.trans (hC.mono hb.size)
        refine Does.mono (d_bslice (z := (.int .u8 (0 : Int))) (sz := 1) (vs := [(0, (.int .u8 ((48 : Int) + (((n : Nat) : Int) % (10 : Int)))))]) (cs := #[(.int .u8 ((48 : Int) + (((n : Nat) : Int) % (10 : Int))))]) (show [(0, some (V 6))] = [(0, some (.int .u8 ((48 : Int) + (((n : Nat) : Int) % (10 : Int)))))] from by rw [h6]) Try.underlying43 (by kernel_rfl) rfl (by kernel_rfl)) ?_
        rintro _ w' ⟨b, rfl, hF⟩
        exact ⟨hF.2.2, ⟨b, rfl, Nat.le_trans hC.size hF.1, hF.2.1⟩, isfr rfl hF.1 (blk_lt hF.2.1)⟩
      refine ⟨fun wu8 hC hd => ?_, ?_⟩
      · obtain ⟨h7, _⟩ := hd
        skip
        obtain ⟨b2, h7, hle2, hk2⟩ := h7
        replace hb := hb.trans (hC.mono hb.size)
        exact Runs.does (r_rowstr (congrArg some h7) Try.underlying43 Try.underlying5 Try.underlying9 (Row.of_new (k := 1) (V := vInt .u8) (l := [((48 : Int) + (((n : Nat) : Int) % (10 : Int)))]) hk2 (Nat.le_refl _) rfl rfl (Nat.le_of_ble_eq_true rfl))) ⟨Below.refl _ _, rfl, nofr rfl⟩
      refine ⟨fun wu9 hC hd => ?_, ?_⟩
      · obtain ⟨h2, h8, _⟩ := hd
        skip
        skip
        replace h2 : V 2 = (.string (nS ((n / 10)))) := h2
        replace h8 : V 8 = (.string (strOfNums [((48 : Int) + (((n : Nat) : Int) % (10 : Int)))])) := h8
        replace hb := hb.trans (hC.mono hb.size)
        exact Runs.does (r_sadd (congrArg some h2) (congrArg some h8) (by have := nS_len (n := ((n / 10))) (by omega); have := strOfNums_size [((48 : Int) + (((n : Nat) : Int) % (10 : Int)))]; (try simp only [List.length_cons, List.length_nil, List.length_append] at this); omega)) ⟨Below.refl _ _, rfl, nofr rfl⟩
      refine ⟨fun wu10 hC hd => ?_, ?_⟩
      · obtain ⟨h0, h1, h2, h3, h4, h5, h6, h7, h8, h9, _⟩ := hd
        skip
        skip
        skip
        skip
        skip
        skip
        skip
        skip
        skip
        skip
        replace h0 : V 0 = (.int .u64 ((n : Nat) : Int)) := h0
        replace h1 : V 1 = (.int .u64 (((n / 10) : Nat) : Int)) := h1
        replace h2 : V 2 = (.string (nS ((n / 10)))) := h2
        replace h3 : V 3 = (.int .u64 ((n : Nat) : Int)) := h3
        replace h4 : V 4 = (.int .u64 (((n : Nat) : Int) % (10 : Int))) := h4
        replace h5 : V 5 = (.int .u64 ((48 : Int) + (((n : Nat) : Int) % (10 : Int)))) := h5
        replace h6 : V 6 = (.int .u8 ((48 : Int) + (((n : Nat) : Int) % (10 : Int)))) := h6
        obtain ⟨b2, h7, hle2, hk2⟩ := h7
        replace h8 : V 8 = (.string (strOfNums [((48 : Int) + (((n : Nat) : Int) % (10 : Int)))])) := h8
        replace h9 : V 9 = (.string ((nS ((n / 10))) ++ (strOfNums [((48 : Int) + (((n : Nat) : Int) % (10 : Int)))]))) := h9
        replace hb := hb.trans (hC.mono hb.size)
        exact Runs.does (r_assign (congrArg some h9)) ⟨Below.refl _ _, rfl, nofr rfl⟩
      trivial
    · skip
      clear hf fa; intro V w2 fa he2 hp hnb hf
      have hv0 : V 0 = (.int .u64 ((n : Nat) : Int)) := postsHold_at hp 0 rfl
      have hv1 : V 1 = (.int .u64 (((n / 10) : Nat) : Int)) := postsHold_at hp 1 rfl
      have hv2 : V 2 = (.string (nS ((n / 10)))) := postsHold_at hp 2 rfl
      have hv3 : V 3 = (.int .u64 ((n : Nat) : Int)) := postsHold_at hp 3 rfl
      have hv4 : V 4 = (.int .u64 (((n : Nat) : Int) % (10 : Int))) := postsHold_at hp 4 rfl
      have hv5 : V 5 = (.int .u64 ((48 : Int) + (((n : Nat) : Int) % (10 : Int)))) := postsHold_at hp 5 rfl
      have hv6 : V 6 = (.int .u8 ((48 : Int) + (((n : Nat) : Int) % (10 : Int)))) := postsHold_at hp 6 rfl
      have hv7 := postsHold_at hp 7 rfl
      obtain ⟨b2, hv7, hle2, hk2⟩ := hv7
      have hBb2 : w.heap.size ≤ b2 := Nat.le_trans hb.size hle2
      have hv8 : V 8 = (.string (strOfNums [((48 : Int) + (((n : Nat) : Int) % (10 : Int)))])) := postsHold_at hp 8 rfl
      have hv9 : V 9 = (.string ((nS ((n / 10))) ++ (strOfNums [((48 : Int) + (((n : Nat) : Int) % (10 : Int)))]))) := postsHold_at hp 9 rfl
      have hv10 : V 10 = (.string ((nS ((n / 10))) ++ (strOfNums [((48 : Int) + (((n : Nat) : Int) % (10 : Int)))]))) := postsHold_at hp 10 rfl
      simp only [List.take_succ_cons, List.take_zero, insAll, ins, hv0, hv1, hv2, hv3, hv4, hv5, hv6, hv7, hv8, hv9, hv10] at hf
      clear hp hnb hv0 hv1 hv2 hv3 hv4 hv5 hv6 hv7 hv8 hv9 hv10
      replace hb := hb.trans (Below.mono he2 hb.size)
      (try simp only [Exit.then, Exit.inBlock, ↓reduceIte, Nat.reduceEqDiff])
      refine hK5 _ _ ?_
      refine wp_ret ?_
      (try simp only [Exit.then, Exit.inBlock])
      refine ret1 hf rfl rfl ?_
      refine ⟨?_, hb⟩; rw [nS_ge (by omega)]

theorem natural_any (n : Nat) : ∀ (w : World) (h : n < 18446744073709551616), Calls Try.prog 67 #[.int .u64 ((n : Nat) : Int)] w fun e w' => e = .returned (.string (nS n)) ∧ Below w.heap.size w w' := by
  induction n using Nat.strongRecOn with
  | _ n ih => exact fun w h => natural_aux n (fun m hm w h => ih m hm w h) w h

set_option maxHeartbeats 1000000 in
set_option maxRecDepth 100000 in
theorem digits_any (n : Int) (w : World) (h : inI n) : Calls Try.prog 31 #[(.int .i64 n)] w fun e w' => e = .returned (.string (dS n)) ∧ Below w.heap.size w w' := by
  unfold inI at h
  refine sx_enter (L := [(0, (.int .i64 n))]) Try.func31 rfl rfl rfl rfl (fun fa hf => ?_)
  have hb : Below w.heap.size w w := Below.refl _ _
  refine wp_seq_k (fun K1 hK1 => ?_)
  refine wp_region_lit ?_
  refine sqv hf (r_assign rfl) rfl rfl rfl ?_; clear hf fa; intro fa hf
  apply wpList_nil
  (try simp only [Exit.then, Exit.inBlock, ↓reduceIte, Nat.reduceEqDiff])
  refine hK1 _ _ ?_
  refine wp_seq_k (fun K2 hK2 => ?_)
  refine wp_seq_k (fun K3 hK3 => ?_)
  refine wp_region_lit ?_
  refine sqv hf (r_move rfl) rfl rfl rfl ?_; clear hf fa; intro fa hf
  refine sqv hf (r_lt rfl rfl) rfl rfl rfl ?_; clear hf fa; intro fa hf
  apply wpList_nil
  (try simp only [Exit.then, Exit.inBlock, ↓reduceIte, Nat.reduceEqDiff])
  refine hK3 _ _ ?_
  refine wp_cond_split (t := (decide (n < (0 : Int)))) (hf.ev rfl) (fun hqt4_1 => ?_) (fun hqt4_1 => ?_)
  · have hqt4_1b := hqt4_1
    try simp only [decide_eq_true_eq, Bool.and_eq_true, Bool.or_eq_true, Bool.not_eq_true', decide_eq_false_iff_not, ne_eq, Bool.not_eq_true] at hqt4_1
    refine wp_seq_k (fun K4 hK4 => ?_)
    refine wp_region_lit ?_
    refine sqv hf (r_move rfl) rfl rfl rfl ?_; clear hf fa; intro fa hf
    refine sqv hf (r_neg (C := (if n = -9223372036854775808 then n else -n)) rfl (by rw [IntKind.wrap_i64]; split <;> omega)) rfl rfl rfl ?_; clear hf fa; intro fa hf
    refine sqv hf (r_conv (C := ((n.natAbs : Nat) : Int)) rfl Try.underlying3 Try.underlying63 (by rw [IntKind.wrap_u64]; split <;> omega)) rfl rfl rfl ?_; clear hf fa; intro fa hf
    refine sqdt hf (d_callB (vs := [(.int .u64 ((n.natAbs : Nat) : Int))]) rfl Try.func67 (by kernel_rfl) (by kernel_rfl) (natural_any n.natAbs _ (by omega))) rfl rfl rfl ?_; clear hf fa; rintro fa _ w1 ⟨rfl, he1⟩ hf
    replace hb := hb.trans (Below.mono he1 hb.size)
    refine sqv hf (r_sadd rfl rfl (by have : ((⟨#[45]⟩) : ByteArray).size = 1 := rfl; have := nS_len (n := n.natAbs) (by omega); omega)) rfl rfl rfl ?_; clear hf fa; intro fa hf
    refine sqv hf (r_assign rfl) rfl rfl rfl ?_; clear hf fa; intro fa hf
    apply wpList_nil
    (try simp only [Exit.then, Exit.inBlock, ↓reduceIte, Nat.reduceEqDiff])
    refine hK4 _ _ ?_
    refine wp_ret ?_
    (try simp only [Exit.then, Exit.inBlock])
    refine ret1 hf rfl rfl ?_
    refine ⟨?_, hb⟩; rw [dS_neg (by omega)]
  · have hqt4_1b := hqt4_1
    replace hqt4_1 := Bool.eq_false_iff.1 hqt4_1
    try simp only [ne_eq, decide_eq_true_eq, Bool.and_eq_true, Bool.or_eq_true, Bool.not_eq_true', decide_eq_false_iff_not] at hqt4_1
    refine wp_skip ?_
    (try simp only [Exit.then, Exit.inBlock, ↓reduceIte, Nat.reduceEqDiff])
    refine hK2 _ _ ?_
    refine wp_seq_k (fun K5 hK5 => ?_)
    refine wp_region_lit ?_
    refine sqv hf (r_move rfl) rfl rfl rfl ?_; clear hf fa; intro fa hf
    refine sqv hf (r_conv (C := ((n.natAbs : Nat) : Int)) rfl Try.underlying3 Try.underlying63 (by rw [IntKind.wrap_u64]; omega)) rfl rfl rfl ?_; clear hf fa; intro fa hf
    refine sqdt hf (d_callB (vs := [(.int .u64 ((n.natAbs : Nat) : Int))]) rfl Try.func67 (by kernel_rfl) (by kernel_rfl) (natural_any n.natAbs _ (by omega))) rfl rfl rfl ?_; clear hf fa; rintro fa _ w2 ⟨rfl, he2⟩ hf
    replace hb := hb.trans (Below.mono he2 hb.size)
    refine sqv hf (r_assign rfl) rfl rfl rfl ?_; clear hf fa; intro fa hf
    apply wpList_nil
    (try simp only [Exit.then, Exit.inBlock, ↓reduceIte, Nat.reduceEqDiff])
    refine hK5 _ _ ?_
    refine wp_ret ?_
    (try simp only [Exit.then, Exit.inBlock])
    refine ret1 hf rfl rfl ?_
    refine ⟨?_, hb⟩; rw [dS_pos (by omega)]

set_option maxHeartbeats 1000000 in
set_option maxRecDepth 100000 in
theorem nibble_any (c : Nat) (h : c < 256) (w : World) : Calls Try.prog 66 #[(.int .u8 ((c : Nat) : Int))] w fun e w' => e = .returned (.int .i64 (nib c)) ∧ w = w' := by
  refine sx_enter (L := [(0, (.int .u8 ((c : Nat) : Int)))]) Try.func66 rfl rfl rfl rfl (fun fa hf => ?_)
  have hb : Below w.heap.size w w := Below.refl _ _
  refine wp_seq_k (fun K1 hK1 => ?_)
  refine wp_region_lit ?_
  refine sqv hf (r_assign rfl) rfl rfl rfl ?_; clear hf fa; intro fa hf
  apply wpList_nil
  (try simp only [Exit.then, Exit.inBlock, ↓reduceIte, Nat.reduceEqDiff])
  refine hK1 _ _ ?_
  refine wp_seq_k (fun K2 hK2 => ?_)
  refine wp_block ?_
  refine wp_seq_k (fun K3 hK3 => ?_)
  refine wp_region_lit ?_
  refine sqv hf (r_move rfl) rfl rfl rfl ?_; clear hf fa; intro fa hf
  refine sqv hf (r_ge rfl rfl) rfl rfl rfl ?_; clear hf fa; intro fa hf
  refine sqv hf (r_move rfl) rfl rfl rfl ?_; clear hf fa; intro fa hf
  refine sqgT (act := (decide ((48 : Int) ≤ ((c : Nat) : Int)))) (ag := true) (c := (decide ((48 : Int) ≤ ((c : Nat) : Int)))) (v := (.int .u8 ((c : Nat) : Int))) hf rfl rfl rfl (fun hact => (r_move rfl)) rfl rfl ?_; clear hf fa; intro fa hf
  refine sqgT (act := (decide ((48 : Int) ≤ ((c : Nat) : Int)))) (ag := true) (c := (decide ((48 : Int) ≤ ((c : Nat) : Int)))) (v := (.bool (decide (((c : Nat) : Int) ≤ (57 : Int))))) hf rfl rfl rfl (fun hact => (r_le (gb_ev hact rfl) rfl)) rfl rfl ?_; clear hf fa; intro fa hf
  refine sqv hf (r_pickA (b := (decide ((48 : Int) ≤ ((c : Nat) : Int)))) (e := (decide (((c : Nat) : Int) ≤ (57 : Int)))) rfl rfl rfl) rfl rfl rfl ?_; clear hf fa; intro fa hf
  refine sqv hf (r_assign rfl) rfl rfl rfl ?_; clear hf fa; intro fa hf
  apply wpList_nil
  (try simp only [Exit.then, Exit.inBlock, ↓reduceIte, Nat.reduceEqDiff])
  refine hK3 _ _ ?_
  refine wp_cond_split (t := ((decide ((48 : Int) ≤ ((c : Nat) : Int))) && (decide (((c : Nat) : Int) ≤ (57 : Int))))) (hf.ev rfl) (fun hqt3_1 => ?_) (fun hqt3_1 => ?_)
  · have hqt3_1b := hqt3_1
    try simp only [decide_eq_true_eq, Bool.and_eq_true, Bool.or_eq_true, Bool.not_eq_true', decide_eq_false_iff_not, ne_eq, Bool.not_eq_true] at hqt3_1
    refine wp_seq_k (fun K4 hK4 => ?_)
    refine wp_region_lit ?_
    refine sqv hf (r_move rfl) rfl rfl rfl ?_; clear hf fa; intro fa hf
    refine sqv hf (r_conv (C := ((c : Nat) : Int)) rfl Try.underlying5 Try.underlying3 (by rw [IntKind.wrap_i64]; omega)) rfl rfl rfl ?_; clear hf fa; intro fa hf
    refine sqv hf (r_sub (C := (((c : Nat) : Int) - (48 : Int))) rfl rfl (by rw [IntKind.wrap_i64]; omega)) rfl rfl rfl ?_; clear hf fa; intro fa hf
    refine sqv hf (r_assign rfl) rfl rfl rfl ?_; clear hf fa; intro fa hf
    apply wpList_nil
    (try simp only [Exit.then, Exit.inBlock, ↓reduceIte, Nat.reduceEqDiff])
    refine hK4 _ _ ?_
    refine wp_ret ?_
    (try simp only [Exit.then, Exit.inBlock])
    refine ret1 hf rfl rfl ?_
    refine ⟨?_, rfl⟩; congr 2; unfold nib; split <;> (try split) <;> omega
  · have hqt3_1b := hqt3_1
    replace hqt3_1 := Bool.eq_false_iff.1 hqt3_1
    try simp only [ne_eq, decide_eq_true_eq, Bool.and_eq_true, Bool.or_eq_true, Bool.not_eq_true', decide_eq_false_iff_not] at hqt3_1
    refine wp_seq_k (fun K5 hK5 => ?_)
    refine wp_region_lit ?_
    refine sqv hf (r_move rfl) rfl rfl rfl ?_; clear hf fa; intro fa hf
    refine sqv hf (r_ge rfl rfl) rfl rfl rfl ?_; clear hf fa; intro fa hf
    refine sqv hf (r_move rfl) rfl rfl rfl ?_; clear hf fa; intro fa hf
    refine sqgT (act := (decide ((97 : Int) ≤ ((c : Nat) : Int)))) (ag := true) (c := (decide ((97 : Int) ≤ ((c : Nat) : Int)))) (v := (.int .u8 ((c : Nat) : Int))) hf rfl rfl rfl (fun hact => (r_move rfl)) rfl rfl ?_; clear hf fa; intro fa hf
    refine sqgT (act := (decide ((97 : Int) ≤ ((c : Nat) : Int)))) (ag := true) (c := (decide ((97 : Int) ≤ ((c : Nat) : Int)))) (v := (.bool (decide (((c : Nat) : Int) ≤ (102 : Int))))) hf rfl rfl rfl (fun hact => (r_le (gb_ev hact rfl) rfl)) rfl rfl ?_; clear hf fa; intro fa hf
    refine sqv hf (r_pickA (b := (decide ((97 : Int) ≤ ((c : Nat) : Int)))) (e := (decide (((c : Nat) : Int) ≤ (102 : Int)))) rfl rfl rfl) rfl rfl rfl ?_; clear hf fa; intro fa hf
    refine sqv hf (r_assign rfl) rfl rfl rfl ?_; clear hf fa; intro fa hf
    apply wpList_nil
    (try simp only [Exit.then, Exit.inBlock, ↓reduceIte, Nat.reduceEqDiff])
    refine hK5 _ _ ?_
    refine wp_cond_split (t := ((decide ((97 : Int) ≤ ((c : Nat) : Int))) && (decide (((c : Nat) : Int) ≤ (102 : Int))))) (hf.ev rfl) (fun hqt13_1 => ?_) (fun hqt13_1 => ?_)
    · have hqt13_1b := hqt13_1
      try simp only [decide_eq_true_eq, Bool.and_eq_true, Bool.or_eq_true, Bool.not_eq_true', decide_eq_false_iff_not, ne_eq, Bool.not_eq_true] at hqt13_1
      refine wp_seq_k (fun K6 hK6 => ?_)
      refine wp_region_lit ?_
      refine sqv hf (r_move rfl) rfl rfl rfl ?_; clear hf fa; intro fa hf
      refine sqv hf (r_conv (C := ((c : Nat) : Int)) rfl Try.underlying5 Try.underlying3 (by rw [IntKind.wrap_i64]; omega)) rfl rfl rfl ?_; clear hf fa; intro fa hf
      refine sqv hf (r_sub (C := (((c : Nat) : Int) - (97 : Int))) rfl rfl (by rw [IntKind.wrap_i64]; omega)) rfl rfl rfl ?_; clear hf fa; intro fa hf
      refine sqv hf (r_add (C := ((((c : Nat) : Int) - (97 : Int)) + (10 : Int))) rfl rfl (by rw [IntKind.wrap_i64]; omega)) rfl rfl rfl ?_; clear hf fa; intro fa hf
      refine sqv hf (r_assign rfl) rfl rfl rfl ?_; clear hf fa; intro fa hf
      apply wpList_nil
      (try simp only [Exit.then, Exit.inBlock, ↓reduceIte, Nat.reduceEqDiff])
      refine hK6 _ _ ?_
      refine wp_ret ?_
      (try simp only [Exit.then, Exit.inBlock])
      refine ret1 hf rfl rfl ?_
      refine ⟨?_, rfl⟩; congr 2; unfold nib; split <;> (try split) <;> omega
    · have hqt13_1b := hqt13_1
      replace hqt13_1 := Bool.eq_false_iff.1 hqt13_1
      try simp only [ne_eq, decide_eq_true_eq, Bool.and_eq_true, Bool.or_eq_true, Bool.not_eq_true', decide_eq_false_iff_not] at hqt13_1
      refine wp_skip ?_
      (try simp only [Exit.then, Exit.inBlock, ↓reduceIte, Nat.reduceEqDiff])
      refine hK2 _ _ ?_
      refine wp_seq_k (fun K7 hK7 => ?_)
      refine wp_region_lit ?_
      refine sqv hf (r_assign rfl) rfl rfl rfl ?_; clear hf fa; intro fa hf
      apply wpList_nil
      (try simp only [Exit.then, Exit.inBlock, ↓reduceIte, Nat.reduceEqDiff])
      refine hK7 _ _ ?_
      refine wp_ret ?_
      (try simp only [Exit.then, Exit.inBlock])
      refine ret1 hf rfl rfl ?_
      refine ⟨?_, rfl⟩; congr 2; unfold nib; split <;> (try split) <;> omega
end Go.Proofs.Ytpalmpfkliepfaa

namespace Go.Proofs.Ytpalmpfkliepfaa
open Go.Shelf Go.RowKit Go.Lib
def sh_lays169_ren : Go.Shelf.Ren := ⟨fun | 169 => 69 | n => n, fun | 70 => 125 | 9 => 9 | 0 => 0 | 72 => 127 | 37 => 43 | 127 => 145 | 3 => 3 | 5 => 5 | n => n, fun | n => n⟩
theorem sh_lays169 : Go.Proofs.Lays.n169 Try.prog sh_lays169_ren := {
  mixed := by kernel_rfl
  f169 := Try.func69.trans (congrArg some (by kernel_rfl))
  t0 := Try.underlying0
  a0 := Try.isAgg0
  z0 := Try.sizeOf0
  v0 := Try.zeroValue0
  t3 := Try.underlying3
  a3 := Try.isAgg3
  z3 := Try.sizeOf3
  v3 := Try.zeroValue3
  t9 := Try.underlying9
  a9 := Try.isAgg9
  z9 := Try.sizeOf9
  v9 := Try.zeroValue9
  t37 := Try.underlying43
  a37 := Try.isAgg43
  z37 := Try.sizeOf43
  v37 := Try.zeroValue43
  t70 := Try.underlying125
  a70 := Try.isAgg125
  z70 := Try.sizeOf125
  v70 := Try.zeroValue125
  t72 := Try.underlying127
  a72 := Try.isAgg127
  z72 := Try.sizeOf127
  v72 := Try.zeroValue127
  t127 := Try.underlying145
  a127 := Try.isAgg145
  z127 := Try.sizeOf145
  v127 := Try.zeroValue145 }
theorem sh_Builder_Extra_169 : Builder.Extra Try.prog sh_lays169_ren := {
  sizeBuilder := by kernel_rfl
  liesBuilder := by kernel_rfl
  t5 := Try.underlying5
  a5 := Try.isAgg5
  z5 := Try.sizeOf5
  v5 := Try.zeroValue5
  infoByte := by kernel_rfl
  cellsByte := by kernel_rfl
  sizeByte := by kernel_rfl
  neB5 := by decide }
theorem sh_Builder_String_any (B b : Nat) (l : List UInt8) (w : World) (h : Lib.IsBuilder 127 5 B b (Lib.byteCells l) w) (hBw : B ≤ w.heap.size) :
    Calls Try.prog 69 #[.pointer (some ⟨b, 0, none⟩)] w fun e w' => e = .returned (.string ⟨l.toArray⟩) ∧ Below B w w' := Any.Builder_String_any sh_lays169 sh_Builder_Extra_169 B b l w h hBw
def sh_lays103_ren : Go.Shelf.Ren := ⟨fun | 103 => 63 | 210 => 88 | 206 => 103 | n => n, fun | 9 => 9 | 4 => 4 | 24 => 119 | 3 => 3 | n => n, fun | n => n⟩
theorem sh_lays103 : Go.Proofs.Lays.n103 Try.prog sh_lays103_ren := {
  mixed := by kernel_rfl
  f103 := Try.func63.trans (congrArg some (by kernel_rfl))
  f206 := Try.func103.trans (congrArg some (by kernel_rfl))
  f210 := Try.func88.trans (congrArg some (by kernel_rfl))
  t3 := Try.underlying3
  a3 := Try.isAgg3
  z3 := Try.sizeOf3
  v3 := Try.zeroValue3
  t4 := Try.underlying4
  a4 := Try.isAgg4
  z4 := Try.sizeOf4
  v4 := Try.zeroValue4
  t9 := Try.underlying9
  a9 := Try.isAgg9
  z9 := Try.sizeOf9
  v9 := Try.zeroValue9
  t24 := Try.underlying119
  a24 := Try.isAgg119
  z24 := Try.sizeOf119
  v24 := Try.zeroValue119 }
theorem sh_strings_CutPrefix (s p : ByteArray) (w : World) :
    Calls Try.prog 63 #[.string s, .string p] w fun e w' => e = .returned (.tuple #[.string ⟨(Lib.trimPrefix s.data.toList p.data.toList).toArray⟩, .bool (Lib.hasPrefix s.data.toList p.data.toList)]) ∧ w' = w := Any.strings_CutPrefix sh_lays103 s p w
def sh_lays219_ren : Go.Shelf.Ren := ⟨fun | 219 => 100 | 217 => 108 | 225 => 109 | 224 => 110 | 267 => 111 | 266 => 114 | 314 => 115 | n => n, fun | 9 => 9 | 3 => 3 | 4 => 4 | 5 => 5 | 46 => 124 | 146 => 164 | 51 => 31 | n => n, fun | 1 => 0 | n => n⟩
theorem sh_lays219 : Go.Proofs.Lays.n219 Try.prog sh_lays219_ren := {
  mixed := by kernel_rfl
  f217 := Try.func108.trans (congrArg some (by kernel_rfl))
  f219 := Try.func100.trans (congrArg some (by kernel_rfl))
  f224 := Try.func110.trans (congrArg some (by kernel_rfl))
  f225 := Try.func109.trans (congrArg some (by kernel_rfl))
  f266 := Try.func114.trans (congrArg some (by kernel_rfl))
  f267 := Try.func111.trans (congrArg some (by kernel_rfl))
  f314 := Try.func115.trans (congrArg some (by kernel_rfl))
  t3 := Try.underlying3
  a3 := Try.isAgg3
  z3 := Try.sizeOf3
  v3 := Try.zeroValue3
  t4 := Try.underlying4
  a4 := Try.isAgg4
  z4 := Try.sizeOf4
  v4 := Try.zeroValue4
  t5 := Try.underlying5
  a5 := Try.isAgg5
  z5 := Try.sizeOf5
  v5 := Try.zeroValue5
  t9 := Try.underlying9
  a9 := Try.isAgg9
  z9 := Try.sizeOf9
  v9 := Try.zeroValue9
  t46 := Try.underlying124
  a46 := Try.isAgg124
  z46 := Try.sizeOf124
  v46 := Try.zeroValue124
  t51 := Try.underlying31
  a51 := Try.isAgg31
  z51 := Try.sizeOf31
  v51 := Try.zeroValue31
  t146 := Try.underlying164
  a146 := Try.isAgg164
  z146 := Try.sizeOf164
  v146 := Try.zeroValue164
  g1 := by kernel_rfl }
theorem sh_stringslite_Index_one (s : ByteArray) (c : UInt8) (w : World) :
    Calls Try.prog 100 #[.string s, .string ⟨#[c]⟩] w fun e w' => e = .returned (.int .i64 (Lib.indexByte s.data.toList c)) ∧ w' = w := Any.stringslite_Index_one sh_lays219 s c w
def sh_lays144_ren : Go.Shelf.Ren := ⟨fun | 144 => 55 | 143 => 83 | 219 => 100 | 217 => 108 | 225 => 109 | 224 => 110 | 267 => 111 | 266 => 114 | 314 => 115 | n => n, fun | 9 => 9 | 4 => 4 | 3 => 3 | 5 => 5 | 46 => 124 | 146 => 164 | 51 => 31 | n => n, fun | 1 => 0 | n => n⟩
theorem sh_lays144 : Go.Proofs.Lays.n144 Try.prog sh_lays144_ren := {
  mixed := by kernel_rfl
  f143 := Try.func83.trans (congrArg some (by kernel_rfl))
  f144 := Try.func55.trans (congrArg some (by kernel_rfl))
  f217 := Try.func108.trans (congrArg some (by kernel_rfl))
  f219 := Try.func100.trans (congrArg some (by kernel_rfl))
  f224 := Try.func110.trans (congrArg some (by kernel_rfl))
  f225 := Try.func109.trans (congrArg some (by kernel_rfl))
  f266 := Try.func114.trans (congrArg some (by kernel_rfl))
  f267 := Try.func111.trans (congrArg some (by kernel_rfl))
  f314 := Try.func115.trans (congrArg some (by kernel_rfl))
  t3 := Try.underlying3
  a3 := Try.isAgg3
  z3 := Try.sizeOf3
  v3 := Try.zeroValue3
  t4 := Try.underlying4
  a4 := Try.isAgg4
  z4 := Try.sizeOf4
  v4 := Try.zeroValue4
  t5 := Try.underlying5
  a5 := Try.isAgg5
  z5 := Try.sizeOf5
  v5 := Try.zeroValue5
  t9 := Try.underlying9
  a9 := Try.isAgg9
  z9 := Try.sizeOf9
  v9 := Try.zeroValue9
  t46 := Try.underlying124
  a46 := Try.isAgg124
  z46 := Try.sizeOf124
  v46 := Try.zeroValue124
  t51 := Try.underlying31
  a51 := Try.isAgg31
  z51 := Try.sizeOf31
  v51 := Try.zeroValue31
  t146 := Try.underlying164
  a146 := Try.isAgg164
  z146 := Try.sizeOf164
  v146 := Try.zeroValue164
  g1 := by kernel_rfl }
theorem sh_strings_Contains_one (s : ByteArray) (c : UInt8) (w : World) :
    Calls Try.prog 55 #[.string s, .string ⟨#[c]⟩] w fun e w' => e = .returned (.bool (decide (0 ≤ Lib.indexByte s.data.toList c))) ∧ w' = w := Any.strings_Contains_one sh_lays144 s c w
def sh_lays138_ren : Go.Shelf.Ren := ⟨fun | 138 => 54 | 195 => 81 | 218 => 82 | 143 => 83 | 219 => 100 | 217 => 108 | 225 => 109 | 224 => 110 | 267 => 111 | 266 => 114 | 314 => 115 | n => n, fun | 9 => 9 | 3 => 3 | 4 => 4 | 5 => 5 | 0 => 0 | 46 => 124 | 146 => 164 | 51 => 31 | n => n, fun | 1 => 0 | n => n⟩
theorem sh_lays138 : Go.Proofs.Lays.n138 Try.prog sh_lays138_ren := {
  mixed := by kernel_rfl
  f138 := Try.func54.trans (congrArg some (by kernel_rfl))
  f143 := Try.func83.trans (congrArg some (by kernel_rfl))
  f195 := Try.func81.trans (congrArg some (by kernel_rfl))
  f217 := Try.func108.trans (congrArg some (by kernel_rfl))
  f218 := Try.func82.trans (congrArg some (by kernel_rfl))
  f219 := Try.func100.trans (congrArg some (by kernel_rfl))
  f224 := Try.func110.trans (congrArg some (by kernel_rfl))
  f225 := Try.func109.trans (congrArg some (by kernel_rfl))
  f266 := Try.func114.trans (congrArg some (by kernel_rfl))
  f267 := Try.func111.trans (congrArg some (by kernel_rfl))
  f314 := Try.func115.trans (congrArg some (by kernel_rfl))
  t0 := Try.underlying0
  a0 := Try.isAgg0
  z0 := Try.sizeOf0
  v0 := Try.zeroValue0
  t3 := Try.underlying3
  a3 := Try.isAgg3
  z3 := Try.sizeOf3
  v3 := Try.zeroValue3
  t4 := Try.underlying4
  a4 := Try.isAgg4
  z4 := Try.sizeOf4
  v4 := Try.zeroValue4
  t5 := Try.underlying5
  a5 := Try.isAgg5
  z5 := Try.sizeOf5
  v5 := Try.zeroValue5
  t9 := Try.underlying9
  a9 := Try.isAgg9
  z9 := Try.sizeOf9
  v9 := Try.zeroValue9
  t46 := Try.underlying124
  a46 := Try.isAgg124
  z46 := Try.sizeOf124
  v46 := Try.zeroValue124
  t51 := Try.underlying31
  a51 := Try.isAgg31
  z51 := Try.sizeOf31
  v51 := Try.zeroValue31
  t146 := Try.underlying164
  a146 := Try.isAgg164
  z146 := Try.sizeOf164
  v146 := Try.zeroValue164
  g1 := by kernel_rfl }
theorem sh_strings_Count_one (s : ByteArray) (c : UInt8) (w : World) :
    Calls Try.prog 54 #[.string s, .string ⟨#[c]⟩] w fun e w' => e = .returned (.int .i64 (Lib.countByte s.data.toList c)) ∧ w' = w := Any.strings_Count_one sh_lays138 s c w

end Go.Proofs.Ytpalmpfkliepfaa

namespace Go.Proofs.Ytpalmpfkliepfaa
open Go.RowKit Ut
set_option linter.unusedVariables false
set_option linter.unusedSimpArgs false

def hasP (s p : ByteArray) : Bool := Lib.hasPrefix s.data.toList p.data.toList
def cutS (s p : ByteArray) : ByteArray := ⟨(Lib.trimPrefix s.data.toList p.data.toList).toArray⟩
theorem toNat_inj8 {a b : UInt8} (h : a.toNat = b.toNat) : a = b := UInt8.toNat_inj.1 h
theorem isPrefixOf_map (a b : List UInt8) : (a.map UInt8.toNat).isPrefixOf (b.map UInt8.toNat) = a.isPrefixOf b := by
  induction a generalizing b with
  | nil => simp
  | cons x a ih =>
    cases b with
    | nil => simp
    | cons y b =>
      simp only [List.map_cons, List.isPrefixOf_cons_cons, ih]
      have : (x.toNat == y.toNat) = (x == y) := by
        by_cases h : x = y
        · subst h; simp
        · have h2 : x.toNat ≠ y.toNat := fun e => h (toNat_inj8 e)
          rw [beq_false_of_ne h, beq_false_of_ne h2]
      rw [this]
theorem hasP_bl (s p : ByteArray) : hasP s p = (bl p).isPrefixOf (bl s) := by unfold hasP Lib.hasPrefix bl; rw [isPrefixOf_map]
theorem cutS_bl (s p : ByteArray) : bl (cutS s p) = if hasP s p = true then (bl s).drop p.size else bl s := by
  unfold cutS hasP Lib.trimPrefix bl
  cases h : Lib.hasPrefix s.data.toList p.data.toList with
  | true => rw [if_pos rfl, if_pos rfl]; simp only; rw [List.map_drop, Array.length_toList]; rfl
  | false => simp
theorem cutS_len (s p : ByteArray) : (cutS s p).size ≤ s.size := by
  rw [← bl_length, ← bl_length, cutS_bl]
  split
  · rw [List.length_drop]; omega
  · omega
theorem hasP_one (s : ByteArray) (c : UInt8) : hasP s ⟨#[c]⟩ = decide ((bl s).head? = some c.toNat) := by
  rw [hasP_bl, show bl (⟨#[c]⟩ : ByteArray) = [c.toNat] from rfl]
  cases bl s with
  | nil => simp
  | cons x l =>
    simp [List.isPrefixOf]
    by_cases h : c.toNat = x
    · rw [h]; simp
    · rw [beq_false_of_ne h]; exact (decide_eq_false (fun e => h e.symm)).symm
theorem cutS_one (s : ByteArray) (c : UInt8) : bl (cutS s ⟨#[c]⟩) = if (bl s).head? = some c.toNat then (bl s).tail else bl s := by
  rw [cutS_bl, hasP_one]
  show (if _ then (bl s).drop 1 else _) = _
  rw [List.drop_one]; simp
theorem cutPrefix_any (s p : ByteArray) (w : World) : Calls Try.prog 63 #[.string s, .string p] w fun e w' => e = .returned (.tuple #[.string (cutS s p), .bool (hasP s p)]) ∧ w = w' :=
  (sh_strings_CutPrefix s p w).mono fun e w' h => ⟨h.1, h.2.symm⟩
def posB (s : ByteArray) (c : Nat) : Nat := (bl s).idxOf c
theorem posB_le (s : ByteArray) (c : Nat) : posB s c ≤ s.size := by unfold posB; rw [← bl_length]; exact List.idxOf_le_length
theorem indexByte_eq (l : List UInt8) (c : UInt8) : Lib.indexByte l c = if (l.map UInt8.toNat).idxOf c.toNat < l.length then (((l.map UInt8.toNat).idxOf c.toNat : Nat) : Int) else -1 := by
  induction l with
  | nil => rfl
  | cons b l ih =>
    rw [Lib.indexByte, ih, List.map_cons, List.idxOf_cons]
    by_cases h : b = c
    · subst h; simp
    · have h1 : (b == c) = false := by simp [h]
      have h2 : (b.toNat == c.toNat) = false := by simp; exact fun e => h (toNat_inj8 e)
      rw [h1, h2]
      simp only [cond_false, Bool.false_eq_true, if_false, List.length_cons]
      by_cases h3 : (l.map UInt8.toNat).idxOf c.toNat < l.length
      · rw [if_pos h3, if_pos (show (l.map UInt8.toNat).idxOf c.toNat + 1 < l.length + 1 by omega), if_neg (by simp)]; rfl
      · rw [if_neg h3, if_neg (show ¬ (l.map UInt8.toNat).idxOf c.toNat + 1 < l.length + 1 by omega)]; simp
theorem slindex_any (s : ByteArray) (c : UInt8) (w : World) : Calls Try.prog 100 #[.string s, .string ⟨#[c]⟩] w fun e w' => e = .returned (.int .i64 (if posB s c.toNat < s.size then ((posB s c.toNat : Nat) : Int) else -1)) ∧ w = w' :=
  (sh_stringslite_Index_one s c w).mono fun e w' h => ⟨by rw [h.1, indexByte_eq]; rfl, h.2.symm⟩
def cntB (s : ByteArray) (c : Nat) : Nat := (bl s).count c
theorem count_map (l : List UInt8) (c : UInt8) : l.count c = (l.map UInt8.toNat).count c.toNat := by
  induction l with
  | nil => rfl
  | cons b l ih =>
    rw [List.map_cons, List.count_cons, List.count_cons, ih]
    by_cases h : b = c
    · subst h; simp
    · have h1 : (b == c) = false := by simp [h]
      have h2 : (b.toNat == c.toNat) = false := by simp; exact fun e => h (toNat_inj8 e)
      rw [h1, h2]
theorem count_any (s : ByteArray) (c : UInt8) (w : World) : Calls Try.prog 54 #[.string s, .string ⟨#[c]⟩] w fun e w' => e = .returned (.int .i64 ((cntB s c.toNat : Nat) : Int)) ∧ w = w' :=
  (sh_strings_Count_one s c w).mono fun e w' h => ⟨by rw [h.1]; unfold Lib.countByte cntB bl; rw [count_map], h.2.symm⟩
end Go.Proofs.Ytpalmpfkliepfaa

namespace Go.Proofs.Ytpalmpfkliepfaa
open Go.RowKit Ut
set_option linter.unusedVariables false
set_option linter.unusedSimpArgs false
theorem bl_get {u : ByteArray} {k : Nat} (h : k < u.size) : (bl u)[k]? = some (sbt u k) := by
  have h2 : k < (bl u).length := by rw [bl_length]; exact h
  rw [List.getElem?_eq_getElem h2, ← bl_sbt u k h, List.getD_eq_getElem?_getD, List.getElem?_eq_getElem h2]; rfl
theorem bl_take {u : ByteArray} {k : Nat} (h : k < u.size) : (bl u).take (k + 1) = (bl u).take k ++ [sbt u k] := by
  rw [List.take_add_one, bl_get h]; rfl
theorem bl_head {u : ByteArray} (h : 0 < u.size) : (bl u).head? = some (sbt u 0) := by rw [List.head?_eq_getElem?, bl_get h]
theorem bl_nil {u : ByteArray} : bl u = [] ↔ u.size = 0 := by rw [← bl_length, List.length_eq_zero_iff]
theorem emp_iff {u : ByteArray} : u = ⟨#[]⟩ ↔ u.size = 0 := by rw [← bl_nil]; exact ⟨fun h => by rw [h]; rfl, fun h => bl_inj h⟩
theorem numT_bad0 {lo : Bool} {u : ByteArray} (h : u.size = 0 ∨ 19 < u.size) : numT lo (bl u) = (0, false) := by
  unfold numT
  rw [if_pos]
  rcases h with h | h
  · exact .inl (bl_nil.2 h)
  · exact .inr (.inl (by rw [bl_length]; exact h))
theorem numT_bad3 {lo : Bool} {u : ByteArray} (h0 : 0 < u.size) (h : sbt u 0 = 48) (h2 : lo = true ∨ 1 < u.size) : numT lo (bl u) = (0, false) := by
  unfold numT
  rw [if_pos]
  exact .inr (.inr ⟨by rw [bl_head h0, h], by rw [bl_length]; exact h2⟩)
theorem numT_bad4 {lo : Bool} {u : ByteArray} {k : Nat} (h0 : k < u.size) (h : ¬ (48 ≤ sbt u k ∧ sbt u k ≤ 57)) : numT lo (bl u) = (0, false) := by
  unfold numT
  split
  · rfl
  · rw [if_neg (fun h2 => h (h2 _ (List.mem_of_getElem? (bl_get h0))))]
theorem numT_go {lo : Bool} {u : ByteArray} {v : Nat} (h0 : ¬ u.size = 0) (h1 : ¬ 19 < u.size) (h2 : ¬ (sbt u 0 = 48 ∧ (lo = true ∨ 1 < u.size))) (hd : ∀ c ∈ bl u, 48 ≤ c ∧ c ≤ 57) (hv : v = valL (bl u)) :
    numT lo (bl u) = if lo = true ∧ v ≤ 9223372036854775808 then (-(v : Int), true) else if lo = false ∧ v < 9223372036854775808 then ((v : Int), true) else (0, false) := by
  unfold numT
  rw [if_neg, if_pos hd, hv]
  rintro (h3 | h3 | ⟨h3, h4⟩)
  · exact h0 (bl_nil.1 h3)
  · rw [bl_length] at h3; exact h1 h3
  · rw [bl_head (by omega)] at h3
    rw [bl_length] at h4
    exact h2 ⟨Option.some.inj h3, h4⟩
theorem numP_cut {s u : ByteArray} {lo : Bool} (hu : cutS s ⟨#[45]⟩ = u) (hlo : hasP s ⟨#[45]⟩ = lo) : numP (bl s) = numT lo (bl u) := by
  have h1 : bl (cutS s ⟨#[45]⟩) = if (bl s).head? = some 45 then (bl s).tail else bl s := cutS_one s 45
  have h2 : hasP s ⟨#[45]⟩ = decide ((bl s).head? = some 45) := hasP_one s 45
  rw [hu] at h1
  rw [hlo] at h2
  unfold numP
  rw [h1, h2]
  by_cases h : (bl s).head? = some 45
  · rw [if_pos h, if_pos h, decide_eq_true h]
  · rw [if_neg h, if_neg h, decide_eq_false h]

set_option maxHeartbeats 1000000 in
set_option maxRecDepth 100000 in
theorem number_any (s : ByteArray) (w : World) (hs : s.size ≤ 100000) : Calls Try.prog 25 #[(.string s)] w fun e w' => e = .returned (.tuple #[.int .i64 (numP (bl s)).1, .bool (numP (bl s)).2]) ∧ Below w.heap.size w w' := by
  obtain ⟨u, hu⟩ : ∃ u, cutS s ⟨#[45]⟩ = u := ⟨_, rfl⟩
  obtain ⟨lo, hlo⟩ : ∃ lo, hasP s ⟨#[45]⟩ = lo := ⟨_, rfl⟩
  have hul := cutS_len s ⟨#[45]⟩; rw [hu] at hul
  have hnum := numP_cut hu hlo
  refine sx_enter (L := [(0, (.string s))]) Try.func25 rfl rfl rfl rfl (fun fa hf => ?_)
  have hb : Below w.heap.size w w := Below.refl _ _
  refine wp_seq_k (fun K1 hK1 => ?_)
  refine wp_region_lit ?_
  refine sqv hf (r_assign rfl) rfl rfl rfl ?_; clear hf fa; intro fa hf
  refine sqv hf (r_assign rfl) rfl rfl rfl ?_; clear hf fa; intro fa hf
  apply wpList_nil
  (try simp only [Exit.then, Exit.inBlock, ↓reduceIte, Nat.reduceEqDiff])
  refine hK1 _ _ ?_
  refine wp_seq_k (fun K2 hK2 => ?_)
  refine wp_region_lit ?_
  refine sqv hf (r_move rfl) rfl rfl rfl ?_; clear hf fa; intro fa hf
  refine sqdt hf (d_callS (vs := [(.string s), (.string ⟨#[45]⟩)]) rfl Try.func63 (by kernel_rfl) (by kernel_rfl) (by have h := cutPrefix_any s ⟨#[45]⟩ w; rw [hu, hlo] at h; exact h)) rfl rfl rfl ?_; clear hf fa; rintro fa _ _ ⟨rfl, rfl⟩ hf
  refine sqv hf (r_move rfl) rfl rfl rfl ?_; clear hf fa; intro fa hf
  refine sqv hf (r_extract rfl (i := 0) rfl) rfl rfl rfl ?_; clear hf fa; intro fa hf
  refine sqv hf (r_extract rfl (i := 1) rfl) rfl rfl rfl ?_; clear hf fa; intro fa hf
  refine sqv hf (r_assign rfl) rfl rfl rfl ?_; clear hf fa; intro fa hf
  refine sqv hf (r_assign rfl) rfl rfl rfl ?_; clear hf fa; intro fa hf
  apply wpList_nil
  (try simp only [Exit.then, Exit.inBlock, ↓reduceIte, Nat.reduceEqDiff])
  refine hK2 _ _ ?_
  refine wp_seq_k (fun K3 hK3 => ?_)
  refine wp_region_lit ?_
  refine sqv hf (r_assign rfl) rfl rfl rfl ?_; clear hf fa; intro fa hf
  apply wpList_nil
  (try simp only [Exit.then, Exit.inBlock, ↓reduceIte, Nat.reduceEqDiff])
  refine hK3 _ _ ?_
  refine wp_seq_k (fun K4 hK4 => ?_)
  refine wp_seq_k (fun K5 hK5 => ?_)
  by_cases hsp1 : u.size = 0
  · have hsp1b : decide (u.size = 0) = true := decide_eq_true hsp1
    refine wp_region_lit ?_
    refine sqv hf (r_move rfl) rfl rfl rfl ?_; clear hf fa; intro fa hf
    refine sqv hf (Runs.veq (r_seq rfl rfl) (congrArg Value.bool (show _ = true from (decide_eq_true (emp_iff.2 hsp1))))) rfl rfl rfl ?_; clear hf fa; intro fa hf
    refine sqv hf (r_move rfl) rfl rfl rfl ?_; clear hf fa; intro fa hf
    refine sqgF (act := false) (ag := true) (c := true) (v := .bool false) hf rfl rfl rfl (fun hact => by cases hact) rfl rfl ?_; clear hf fa; intro fa hf
    refine sqgF (act := false) (ag := true) (c := true) (v := .bool false) hf rfl rfl rfl (fun hact => by cases hact) rfl rfl ?_; clear hf fa; intro fa hf
    refine sqgF (act := false) (ag := true) (c := true) (v := .bool false) hf rfl rfl rfl (fun hact => by cases hact) rfl rfl ?_; clear hf fa; intro fa hf
    refine sqv hf (r_pick (b := true) rfl rfl rfl rfl) rfl rfl rfl ?_; clear hf fa; intro fa hf
    refine sqv hf (r_move rfl) rfl rfl rfl ?_; clear hf fa; intro fa hf
    refine sqgF (act := false) (ag := true) (c := true) (v := .bool false) hf rfl rfl rfl (fun hact => by cases hact) rfl rfl ?_; clear hf fa; intro fa hf
    refine sqgF (act := false) (ag := true) (c := true) (v := .bool false) hf rfl rfl rfl (fun hact => by cases hact) rfl rfl ?_; clear hf fa; intro fa hf
    refine sqgF (act := false) (ag := true) (c := true) (v := .bool false) hf rfl rfl rfl (fun hact => by cases hact) rfl rfl ?_; clear hf fa; intro fa hf
    refine sqgF (act := false) (ag := true) (c := true) (v := .bool false) hf rfl rfl rfl (fun hact => by cases hact) rfl rfl ?_; clear hf fa; intro fa hf
    refine sqgT (act := false) (ag := false) (c := false) (v := .bool false) hf rfl rfl rfl (fun hact => by cases hact) rfl rfl ?_; clear hf fa; intro fa hf
    refine sqgT (act := false) (ag := false) (c := false) (v := .bool false) hf rfl rfl rfl (fun hact => by cases hact) rfl rfl ?_; clear hf fa; intro fa hf
    refine sqgF (act := false) (ag := false) (c := false) (v := .bool false) hf rfl rfl rfl (fun hact => by cases hact) rfl rfl ?_; clear hf fa; intro fa hf
    refine sqgF (act := false) (ag := false) (c := false) (v := .bool false) hf rfl rfl rfl (fun hact => by cases hact) rfl rfl ?_; clear hf fa; intro fa hf
    refine sqgF (act := false) (ag := false) (c := false) (v := .bool false) hf rfl rfl rfl (fun hact => by cases hact) rfl rfl ?_; clear hf fa; intro fa hf
    refine sqgT (act := false) (ag := false) (c := false) (v := .bool false) hf rfl rfl rfl (fun hact => by cases hact) rfl rfl ?_; clear hf fa; intro fa hf
    refine sqgF (act := false) (ag := true) (c := true) (v := .bool false) hf rfl rfl rfl (fun hact => by cases hact) rfl rfl ?_; clear hf fa; intro fa hf
    refine sqv hf (r_pick (b := true) rfl rfl rfl rfl) rfl rfl rfl ?_; clear hf fa; intro fa hf
    apply wpList_nil
    (try simp only [Exit.then, Exit.inBlock, ↓reduceIte, Nat.reduceEqDiff])
    refine hK5 _ _ ?_
    refine wp_cond_true (hf.ev rfl) ?_
    refine wp_seq_k (fun K6 hK6 => ?_)
    refine wp_region_lit ?_
    refine sqv hf (r_assign rfl) rfl rfl rfl ?_; clear hf fa; intro fa hf
    refine sqv hf (r_assign rfl) rfl rfl rfl ?_; clear hf fa; intro fa hf
    apply wpList_nil
    (try simp only [Exit.then, Exit.inBlock, ↓reduceIte, Nat.reduceEqDiff])
    refine hK6 _ _ ?_
    refine wp_ret ?_
    (try simp only [Exit.then, Exit.inBlock])
    refine ret2 hf rfl rfl rfl ?_
    rw [hnum, numT_bad0 (.inl hsp1)]; exact ⟨rfl, hb⟩
  · have hsp1b : decide (u.size = 0) = false := decide_eq_false hsp1
    refine wp_region_lit ?_
    refine sqv hf (r_move rfl) rfl rfl rfl ?_; clear hf fa; intro fa hf
    refine sqv hf (Runs.veq (r_seq rfl rfl) (congrArg Value.bool (show _ = false from (decide_eq_false (fun e => hsp1 (emp_iff.1 e)))))) rfl rfl rfl ?_; clear hf fa; intro fa hf
    refine sqv hf (r_move rfl) rfl rfl rfl ?_; clear hf fa; intro fa hf
    refine sqgd (act := true) (g := 2) (want := false) (ag := true) (c := false) hf (by rfl) (by rfl) rfl (fun _ =>  Runs.does (R := fun vq wq => vq = (.string u) ∧ w = wq) (r_move rfl) ⟨rfl, rfl⟩) (fun h => by cases h) rfl ?_; clear hf fa; rintro fa _ _ ⟨rfl, rfl⟩ hf
    change Fr _ _ ((16, (.string u)) :: _) at hf
    refine sqgd (act := true) (g := 2) (want := false) (ag := true) (c := false) hf (by rfl) (by rfl) rfl (fun _ =>  Runs.does (R := fun vq wq => vq = (.int .i64 ((u.size : Nat) : Int)) ∧ w = wq) (r_lens rfl Try.underlying9) ⟨rfl, rfl⟩) (fun h => by cases h) rfl ?_; clear hf fa; rintro fa _ _ ⟨rfl, rfl⟩ hf
    change Fr _ _ ((17, (.int .i64 ((u.size : Nat) : Int))) :: _) at hf
    refine sqgd (act := true) (g := 2) (want := false) (ag := true) (c := false) hf (by rfl) (by rfl) rfl (fun _ =>  Runs.does (R := fun vq wq => vq = (.bool (decide ((19 : Int) < ((u.size : Nat) : Int)))) ∧ w = wq) (r_gt rfl rfl) ⟨rfl, rfl⟩) (fun h => by cases h) rfl ?_; clear hf fa; rintro fa _ _ ⟨rfl, rfl⟩ hf
    change Fr _ _ ((18, (.bool (decide ((19 : Int) < ((u.size : Nat) : Int))))) :: _) at hf
    refine sqv hf (r_pick (b := false) rfl rfl rfl rfl) rfl rfl rfl ?_; clear hf fa; intro fa hf
    refine sqv hf (r_move rfl) rfl rfl rfl ?_; clear hf fa; intro fa hf
    refine sqgF (act := (!(decide ((19 : Int) < ((u.size : Nat) : Int))))) (ag := true) (c := (decide ((19 : Int) < ((u.size : Nat) : Int)))) (v := (.string u)) hf rfl rfl rfl (fun hact => (r_move rfl)) rfl rfl ?_; clear hf fa; intro fa hf
    refine sqgF (act := (!(decide ((19 : Int) < ((u.size : Nat) : Int))))) (ag := true) (c := (decide ((19 : Int) < ((u.size : Nat) : Int)))) (v := (.int .u8 ((sbt u 0 : Nat) : Int))) hf rfl rfl rfl (fun hact => (by have hact0 := hact; (try simp only [Bool.and_eq_true, Bool.not_eq_true', Bool.or_eq_false_iff, Bool.or_eq_true, Bool.and_eq_false_iff, ne_eq, decide_eq_true_eq, decide_eq_false_iff_not] at hact0); exact (r_sindexD (j := 0) (gb_ev hact rfl) rfl Try.underlying9 rfl (by omega)))) rfl rfl ?_; clear hf fa; intro fa hf
    refine sqgF (act := (!(decide ((19 : Int) < ((u.size : Nat) : Int))))) (ag := true) (c := (decide ((19 : Int) < ((u.size : Nat) : Int)))) (v := (.bool (decide (((sbt u 0 : Nat) : Int) = (48 : Int))))) hf rfl rfl rfl (fun hact => (r_eq (gb_ev hact rfl) rfl)) rfl rfl ?_; clear hf fa; intro fa hf
    refine sqgF (act := (!(decide ((19 : Int) < ((u.size : Nat) : Int))))) (ag := true) (c := (decide ((19 : Int) < ((u.size : Nat) : Int)))) (v := (.bool (decide (((sbt u 0 : Nat) : Int) = (48 : Int))))) hf rfl rfl rfl (fun hact => (r_move (gb_ev hact rfl))) rfl rfl ?_; clear hf fa; intro fa hf
    refine sqgT (act := ((!(decide ((19 : Int) < ((u.size : Nat) : Int)))) && (decide (((sbt u 0 : Nat) : Int) = (48 : Int))))) (ag := (!(decide ((19 : Int) < ((u.size : Nat) : Int))))) (c := (decide (((sbt u 0 : Nat) : Int) = (48 : Int)))) (v := (.bool lo)) hf rfl rfl rfl (fun hact => (r_move rfl)) rfl rfl ?_; clear hf fa; intro fa hf
    refine sqgT (act := ((!(decide ((19 : Int) < ((u.size : Nat) : Int)))) && (decide (((sbt u 0 : Nat) : Int) = (48 : Int))))) (ag := (!(decide ((19 : Int) < ((u.size : Nat) : Int))))) (c := (decide (((sbt u 0 : Nat) : Int) = (48 : Int)))) (v := (.bool lo)) hf rfl rfl rfl (fun hact => (r_move (gb_ev hact rfl))) rfl rfl ?_; clear hf fa; intro fa hf
    refine sqgF (act := (((!(decide ((19 : Int) < ((u.size : Nat) : Int)))) && (decide (((sbt u 0 : Nat) : Int) = (48 : Int)))) && !lo)) (ag := ((!(decide ((19 : Int) < ((u.size : Nat) : Int)))) && (decide (((sbt u 0 : Nat) : Int) = (48 : Int))))) (c := lo) (v := (.string u)) hf rfl rfl rfl (fun hact => (r_move rfl)) rfl rfl ?_; clear hf fa; intro fa hf
    refine sqgF (act := (((!(decide ((19 : Int) < ((u.size : Nat) : Int)))) && (decide (((sbt u 0 : Nat) : Int) = (48 : Int)))) && !lo)) (ag := ((!(decide ((19 : Int) < ((u.size : Nat) : Int)))) && (decide (((sbt u 0 : Nat) : Int) = (48 : Int))))) (c := lo) (v := (.int .i64 ((u.size : Nat) : Int))) hf rfl rfl rfl (fun hact => (r_lens (gb_ev hact rfl) Try.underlying9)) rfl rfl ?_; clear hf fa; intro fa hf
    refine sqgF (act := (((!(decide ((19 : Int) < ((u.size : Nat) : Int)))) && (decide (((sbt u 0 : Nat) : Int) = (48 : Int)))) && !lo)) (ag := ((!(decide ((19 : Int) < ((u.size : Nat) : Int)))) && (decide (((sbt u 0 : Nat) : Int) = (48 : Int))))) (c := lo) (v := (.bool (decide ((1 : Int) < ((u.size : Nat) : Int))))) hf rfl rfl rfl (fun hact => (r_gt (gb_ev hact rfl) rfl)) rfl rfl ?_; clear hf fa; intro fa hf
    refine sqgT (act := ((!(decide ((19 : Int) < ((u.size : Nat) : Int)))) && (decide (((sbt u 0 : Nat) : Int) = (48 : Int))))) (ag := (!(decide ((19 : Int) < ((u.size : Nat) : Int))))) (c := (decide (((sbt u 0 : Nat) : Int) = (48 : Int)))) (v := (.bool (lo || (decide ((1 : Int) < ((u.size : Nat) : Int)))))) hf rfl rfl rfl (fun hact => (r_pickO2 (q := ((!(decide ((19 : Int) < ((u.size : Nat) : Int)))) && (decide (((sbt u 0 : Nat) : Int) = (48 : Int))))) (b := lo) (e := (decide ((1 : Int) < ((u.size : Nat) : Int)))) hact rfl rfl rfl)) rfl rfl ?_; clear hf fa; intro fa hf
    refine sqgF (act := (!(decide ((19 : Int) < ((u.size : Nat) : Int))))) (ag := true) (c := (decide ((19 : Int) < ((u.size : Nat) : Int)))) (v := (.bool ((decide (((sbt u 0 : Nat) : Int) = (48 : Int))) && (lo || (decide ((1 : Int) < ((u.size : Nat) : Int))))))) hf rfl rfl rfl (fun hact => (r_pickA2 (q := (!(decide ((19 : Int) < ((u.size : Nat) : Int))))) (b := (decide (((sbt u 0 : Nat) : Int) = (48 : Int)))) (e := (lo || (decide ((1 : Int) < ((u.size : Nat) : Int))))) hact rfl rfl rfl)) rfl rfl ?_; clear hf fa; intro fa hf
    refine sqv hf (r_pickO (b := (decide ((19 : Int) < ((u.size : Nat) : Int)))) (e := ((decide (((sbt u 0 : Nat) : Int) = (48 : Int))) && (lo || (decide ((1 : Int) < ((u.size : Nat) : Int)))))) rfl rfl rfl) rfl rfl rfl ?_; clear hf fa; intro fa hf
    apply wpList_nil
    (try simp only [Exit.then, Exit.inBlock, ↓reduceIte, Nat.reduceEqDiff])
    refine hK5 _ _ ?_
    refine wp_cond_split (t := ((decide ((19 : Int) < ((u.size : Nat) : Int))) || ((decide (((sbt u 0 : Nat) : Int) = (48 : Int))) && (lo || (decide ((1 : Int) < ((u.size : Nat) : Int))))))) (hf.ev rfl) (fun hqt32_2 => ?_) (fun hqt32_2 => ?_)
    · have hqt32_2b := hqt32_2
      try simp only [decide_eq_true_eq, Bool.and_eq_true, Bool.or_eq_true, Bool.not_eq_true', decide_eq_false_iff_not, ne_eq, Bool.not_eq_true] at hqt32_2
      refine wp_seq_k (fun K7 hK7 => ?_)
      refine wp_region_lit ?_
      refine sqv hf (r_assign rfl) rfl rfl rfl ?_; clear hf fa; intro fa hf
      refine sqv hf (r_assign rfl) rfl rfl rfl ?_; clear hf fa; intro fa hf
      apply wpList_nil
      (try simp only [Exit.then, Exit.inBlock, ↓reduceIte, Nat.reduceEqDiff])
      refine hK7 _ _ ?_
      refine wp_ret ?_
      (try simp only [Exit.then, Exit.inBlock])
      refine ret2 hf rfl rfl rfl ?_
      rw [hnum, show numT lo (bl u) = (0, false) from by rcases hqt32_2 with h | ⟨h1, h2⟩; exact numT_bad0 (.inr (by omega)); exact numT_bad3 (by omega) (by omega) (h2.imp id (by omega))]; exact ⟨rfl, hb⟩
    · have hqt32_2b := hqt32_2
      replace hqt32_2 := Bool.eq_false_iff.1 hqt32_2
      try simp only [ne_eq, decide_eq_true_eq, Bool.and_eq_true, Bool.or_eq_true, Bool.not_eq_true', decide_eq_false_iff_not] at hqt32_2
      refine wp_skip ?_
      (try simp only [Exit.then, Exit.inBlock, ↓reduceIte, Nat.reduceEqDiff])
      refine hK4 _ _ ?_
      refine wp_seq_k (fun K8 hK8 => ?_)
      refine wp_seq_k (fun K9 hK9 => ?_)
      refine wp_region_lit ?_
      refine sqv hf (r_move rfl) rfl rfl rfl ?_; clear hf fa; intro fa hf
      refine sqv hf (r_lens rfl Try.underlying9) rfl rfl rfl ?_; clear hf fa; intro fa hf
      refine sqv hf (r_move rfl) rfl rfl rfl ?_; clear hf fa; intro fa hf
      apply wpList_nil
      (try simp only [Exit.then, Exit.inBlock, ↓reduceIte, Nat.reduceEqDiff])
      refine hK9 _ _ ?_
      refine wp_block ?_
      refine wp_loop_k (fun mq fa wr => ∃ (k : Nat) (v : Nat), mq = u.size - k ∧ Fr 75 fa [(4, (.string u)), (5, (.bool lo)), (6, (.int .u64 ((v : Nat) : Int))), (34, (.int .i64 ((u.size : Nat) : Int))), (35, (.int .i64 ((k : Nat) : Int)))] ∧ Below w.heap.size w wr ∧ (k ≤ u.size) ∧ (v = valL ((bl u).take k)) ∧ (∀ c ∈ (bl u).take k, 48 ≤ c ∧ c ≤ 57) ∧ (v < 10 ^ k)) ?_ ?_
      · skip
        exact ⟨_, 0, 0, rfl, hf.sub ⟨rfl, rfl, (some_int (by first | rfl | omega)), rfl, (some_int (by first | rfl | omega)), trivial⟩, hb, by omega, rfl, (by intro c hc; cases hc), by decide⟩
      · skip
        clear hf fa; intro mq1 fa w1 hI KL1 hKL1
        clear hb
        obtain ⟨k, v, hmq1, hf, hb, hk, hv, hd, hvb⟩ := hI
        refine wp_seq_k (fun K10 hK10 => ?_)
        refine wp_region_lit ?_
        refine sqv hf (r_lt rfl rfl) rfl rfl rfl ?_; clear hf fa; intro fa hf
        apply wpList_nil
        (try simp only [Exit.then, Exit.inBlock, ↓reduceIte, Nat.reduceEqDiff])
        refine hK10 _ _ ?_
        refine wp_seq_k (fun K11 hK11 => ?_)
        refine wp_cond_split (t := (decide (((k : Nat) : Int) < ((u.size : Nat) : Int)))) (hf.ev rfl) (fun hqt36_1 => ?_) (fun hqt36_1 => ?_)
        · have hqt36_1b := hqt36_1
          try simp only [decide_eq_true_eq, Bool.and_eq_true, Bool.or_eq_true, Bool.not_eq_true', decide_eq_false_iff_not, ne_eq, Bool.not_eq_true] at hqt36_1
          refine wp_skip ?_
          (try simp only [Exit.then, Exit.inBlock, ↓reduceIte, Nat.reduceEqDiff])
          refine hK11 _ _ ?_
          refine wp_seq_k (fun K12 hK12 => ?_)
          refine wp_block ?_
          refine wp_seq_k (fun K13 hK13 => ?_)
          refine wp_region_lit ?_
          refine sqv hf (r_move rfl) rfl rfl rfl ?_; clear hf fa; intro fa hf
          refine sqv hf (r_assign rfl) rfl rfl rfl ?_; clear hf fa; intro fa hf
          apply wpList_nil
          (try simp only [Exit.then, Exit.inBlock, ↓reduceIte, Nat.reduceEqDiff])
          refine hK13 _ _ ?_
          refine wp_seq_k (fun K14 hK14 => ?_)
          refine wp_seq_k (fun K15 hK15 => ?_)
          have hsb := sbt_lt u k
          refine wp_region_lit ?_
          refine sqv hf (r_move rfl) rfl rfl rfl ?_; clear hf fa; intro fa hf
          refine sqv hf (r_move rfl) rfl rfl rfl ?_; clear hf fa; intro fa hf
          refine sqv hf (r_sindexD (j := k) rfl rfl Try.underlying9 rfl (by omega)) rfl rfl rfl ?_; clear hf fa; intro fa hf
          refine sqv hf (r_lt rfl rfl) rfl rfl rfl ?_; clear hf fa; intro fa hf
          refine sqv hf (r_move rfl) rfl rfl rfl ?_; clear hf fa; intro fa hf
          refine sqgF (act := (!(decide (((sbt u k : Nat) : Int) < (48 : Int))))) (ag := true) (c := (decide (((sbt u k : Nat) : Int) < (48 : Int)))) (v := (.string u)) hf rfl rfl rfl (fun hact => (r_move rfl)) rfl rfl ?_; clear hf fa; intro fa hf
          refine sqgF (act := (!(decide (((sbt u k : Nat) : Int) < (48 : Int))))) (ag := true) (c := (decide (((sbt u k : Nat) : Int) < (48 : Int)))) (v := (.int .i64 ((k : Nat) : Int))) hf rfl rfl rfl (fun hact => (r_move rfl)) rfl rfl ?_; clear hf fa; intro fa hf
          refine sqgF (act := (!(decide (((sbt u k : Nat) : Int) < (48 : Int))))) (ag := true) (c := (decide (((sbt u k : Nat) : Int) < (48 : Int)))) (v := (.int .u8 ((sbt u k : Nat) : Int))) hf rfl rfl rfl (fun hact => (by have hact0 := hact; (try simp only [Bool.and_eq_true, Bool.not_eq_true', Bool.or_eq_false_iff, Bool.or_eq_true, Bool.and_eq_false_iff, ne_eq, decide_eq_true_eq, decide_eq_false_iff_not] at hact0); exact (r_sindexD (j := k) (gb_ev hact rfl) (gb_ev hact rfl) Try.underlying9 rfl (by omega)))) rfl rfl ?_; clear hf fa; intro fa hf
          refine sqgF (act := (!(decide (((sbt u k : Nat) : Int) < (48 : Int))))) (ag := true) (c := (decide (((sbt u k : Nat) : Int) < (48 : Int)))) (v := (.bool (decide ((57 : Int) < ((sbt u k : Nat) : Int))))) hf rfl rfl rfl (fun hact => (r_gt (gb_ev hact rfl) rfl)) rfl rfl ?_; clear hf fa; intro fa hf
          refine sqv hf (r_pickO (b := (decide (((sbt u k : Nat) : Int) < (48 : Int)))) (e := (decide ((57 : Int) < ((sbt u k : Nat) : Int)))) rfl rfl rfl) rfl rfl rfl ?_; clear hf fa; intro fa hf
          apply wpList_nil
          (try simp only [Exit.then, Exit.inBlock, ↓reduceIte, Nat.reduceEqDiff])
          refine hK15 _ _ ?_
          refine wp_cond_split (t := ((decide (((sbt u k : Nat) : Int) < (48 : Int))) || (decide ((57 : Int) < ((sbt u k : Nat) : Int))))) (hf.ev rfl) (fun hqt47_1 => ?_) (fun hqt47_1 => ?_)
          · have hqt47_1b := hqt47_1
            try simp only [decide_eq_true_eq, Bool.and_eq_true, Bool.or_eq_true, Bool.not_eq_true', decide_eq_false_iff_not, ne_eq, Bool.not_eq_true] at hqt47_1
            refine wp_seq_k (fun K16 hK16 => ?_)
            refine wp_region_lit ?_
            refine sqv hf (r_assign rfl) rfl rfl rfl ?_; clear hf fa; intro fa hf
            refine sqv hf (r_assign rfl) rfl rfl rfl ?_; clear hf fa; intro fa hf
            apply wpList_nil
            (try simp only [Exit.then, Exit.inBlock, ↓reduceIte, Nat.reduceEqDiff])
            refine hK16 _ _ ?_
            refine wp_ret ?_
            (try simp only [Exit.then, Exit.inBlock])
            refine ret2 hf rfl rfl rfl ?_
            rw [hnum, numT_bad4 (k := k) (by omega) (by omega)]; exact ⟨rfl, hb⟩
          · have hqt47_1b := hqt47_1
            replace hqt47_1 := Bool.eq_false_iff.1 hqt47_1
            try simp only [ne_eq, decide_eq_true_eq, Bool.and_eq_true, Bool.or_eq_true, Bool.not_eq_true', decide_eq_false_iff_not] at hqt47_1
            refine wp_skip ?_
            (try simp only [Exit.then, Exit.inBlock, ↓reduceIte, Nat.reduceEqDiff])
            refine hK14 _ _ ?_
            have hsb := sbt_lt u k; have hp18 : 10 ^ k ≤ 10 ^ 18 := Nat.pow_le_pow_right (by decide) (by omega)
            refine wp_region_lit ?_
            refine sqv hf (r_move rfl) rfl rfl rfl ?_; clear hf fa; intro fa hf
            refine sqv hf (r_mul (C := (((v : Nat) : Int) * (10 : Int))) rfl rfl (by rw [IntKind.wrap_u64]; omega)) rfl rfl rfl ?_; clear hf fa; intro fa hf
            refine sqv hf (r_move rfl) rfl rfl rfl ?_; clear hf fa; intro fa hf
            refine sqv hf (r_move rfl) rfl rfl rfl ?_; clear hf fa; intro fa hf
            refine sqv hf (r_sindexD (j := k) rfl rfl Try.underlying9 rfl (by omega)) rfl rfl rfl ?_; clear hf fa; intro fa hf
            refine sqv hf (r_sub (C := (((sbt u k : Nat) : Int) - (48 : Int))) rfl rfl (by rw [IntKind.wrap_u8]; omega)) rfl rfl rfl ?_; clear hf fa; intro fa hf
            refine sqv hf (r_conv (C := (((sbt u k - 48) : Nat) : Int)) rfl Try.underlying5 Try.underlying63 (by rw [IntKind.wrap_u64]; omega)) rfl rfl rfl ?_; clear hf fa; intro fa hf
            refine sqv hf (r_add (C := (((v * 10 + (sbt u k - 48)) : Nat) : Int)) rfl rfl (by rw [IntKind.wrap_u64]; omega)) rfl rfl rfl ?_; clear hf fa; intro fa hf
            refine sqv hf (r_assign rfl) rfl rfl rfl ?_; clear hf fa; intro fa hf
            apply wpList_nil
            (try simp only [Exit.then, Exit.inBlock, ↓reduceIte, Nat.reduceEqDiff])
            refine hK12 _ _ ?_
            refine wp_region_lit ?_
            refine sqv hf (r_add (C := (((k : Nat) : Int) + (1 : Int))) rfl rfl (by rw [IntKind.wrap_i64]; omega)) rfl rfl rfl ?_; clear hf fa; intro fa hf
            refine sqv hf (r_move rfl) rfl rfl rfl ?_; clear hf fa; intro fa hf
            apply wpList_nil
            (try simp only [Exit.then, Exit.inBlock, ↓reduceIte, Nat.reduceEqDiff])
            refine hKL1 _ _ _ (by omega) ⟨(k + 1), (v * 10 + (sbt u k - 48)), rfl, hf.sub ⟨rfl, rfl, rfl, rfl, (some_int (by first | rfl | omega)), trivial⟩, hb, by omega, by rw [bl_take (by omega), valL_app, ← hv], (by rw [bl_take (by omega)]; intro c hc; rcases List.mem_append.1 hc with hc | hc; exact hd c hc; simp only [List.mem_singleton] at hc; subst hc; omega), (by rw [Nat.pow_succ]; omega)⟩
        · have hqt36_1b := hqt36_1
          replace hqt36_1 := Bool.eq_false_iff.1 hqt36_1
          try simp only [ne_eq, decide_eq_true_eq, Bool.and_eq_true, Bool.or_eq_true, Bool.not_eq_true', decide_eq_false_iff_not] at hqt36_1
          refine wp_exit ?_
          (try simp only [Exit.then, Exit.inBlock, ↓reduceIte, Nat.reduceEqDiff])
          refine hK8 _ _ ?_
          refine wp_seq_k (fun K17 hK17 => ?_)
          refine wp_block ?_
          refine wp_seq_k (fun K18 hK18 => ?_)
          refine wp_region_lit ?_
          refine sqv hf (r_move rfl) rfl rfl rfl ?_; clear hf fa; intro fa hf
          refine sqv hf (r_move rfl) rfl rfl rfl ?_; clear hf fa; intro fa hf
          refine sqgT (act := lo) (ag := true) (c := lo) (v := (.int .u64 ((v : Nat) : Int))) hf rfl rfl rfl (fun hact => (r_move rfl)) rfl rfl ?_; clear hf fa; intro fa hf
          refine sqgT (act := lo) (ag := true) (c := lo) (v := (.bool (decide (((v : Nat) : Int) ≤ (9223372036854775808 : Int))))) hf rfl rfl rfl (fun hact => (r_le (gb_ev hact rfl) rfl)) rfl rfl ?_; clear hf fa; intro fa hf
          refine sqv hf (r_pickA (b := lo) (e := (decide (((v : Nat) : Int) ≤ (9223372036854775808 : Int)))) rfl rfl rfl) rfl rfl rfl ?_; clear hf fa; intro fa hf
          refine sqv hf (r_assign rfl) rfl rfl rfl ?_; clear hf fa; intro fa hf
          apply wpList_nil
          (try simp only [Exit.then, Exit.inBlock, ↓reduceIte, Nat.reduceEqDiff])
          refine hK18 _ _ ?_
          refine wp_cond_split (t := (lo && (decide (((v : Nat) : Int) ≤ (9223372036854775808 : Int))))) (hf.ev rfl) (fun hqt57_1 => ?_) (fun hqt57_1 => ?_)
          · have hqt57_1b := hqt57_1
            try simp only [decide_eq_true_eq, Bool.and_eq_true, Bool.or_eq_true, Bool.not_eq_true', decide_eq_false_iff_not, ne_eq, Bool.not_eq_true] at hqt57_1
            refine wp_seq_k (fun K19 hK19 => ?_)
            refine wp_region_lit ?_
            refine sqv hf (r_move rfl) rfl rfl rfl ?_; clear hf fa; intro fa hf
            refine sqv hf (r_neg (C := (if v = 0 then 0 else 18446744073709551616 - ((v : Nat) : Int))) rfl (by rw [IntKind.wrap_u64]; split <;> omega)) rfl rfl rfl ?_; clear hf fa; intro fa hf
            refine sqv hf (r_conv (C := (-((v : Nat) : Int))) rfl Try.underlying63 Try.underlying3 (by rw [IntKind.wrap_i64]; split <;> omega)) rfl rfl rfl ?_; clear hf fa; intro fa hf
            refine sqv hf (r_assign rfl) rfl rfl rfl ?_; clear hf fa; intro fa hf
            refine sqv hf (r_assign rfl) rfl rfl rfl ?_; clear hf fa; intro fa hf
            apply wpList_nil
            (try simp only [Exit.then, Exit.inBlock, ↓reduceIte, Nat.reduceEqDiff])
            refine hK19 _ _ ?_
            refine wp_ret ?_
            (try simp only [Exit.then, Exit.inBlock])
            refine ret2 hf rfl rfl rfl ?_
            have hgo := numT_go (lo := lo) (u := u) (v := v) hsp1 (by omega) (fun h => hqt32_2 (.inr ⟨by omega, h.2.imp id (by omega)⟩)) (by rwa [List.take_of_length_le (by rw [bl_length]; omega)] at hd) (by rwa [List.take_of_length_le (by rw [bl_length]; omega)] at hv)
            rw [hnum, hgo]
            rw [if_pos ⟨hqt57_1.1, by have h := hqt57_1.2; omega⟩]; exact ⟨rfl, hb⟩
          · have hqt57_1b := hqt57_1
            replace hqt57_1 := Bool.eq_false_iff.1 hqt57_1
            try simp only [ne_eq, decide_eq_true_eq, Bool.and_eq_true, Bool.or_eq_true, Bool.not_eq_true', decide_eq_false_iff_not] at hqt57_1
            refine wp_seq_k (fun K20 hK20 => ?_)
            refine wp_region_lit ?_
            refine sqv hf (r_move rfl) rfl rfl rfl ?_; clear hf fa; intro fa hf
            refine sqv hf (r_not rfl) rfl rfl rfl ?_; clear hf fa; intro fa hf
            refine sqv hf (r_move rfl) rfl rfl rfl ?_; clear hf fa; intro fa hf
            refine sqgT (act := (!lo)) (ag := true) (c := (!lo)) (v := (.int .u64 ((v : Nat) : Int))) hf rfl rfl rfl (fun hact => (r_move rfl)) rfl rfl ?_; clear hf fa; intro fa hf
            refine sqgT (act := (!lo)) (ag := true) (c := (!lo)) (v := (.bool (decide (((v : Nat) : Int) < (9223372036854775808 : Int))))) hf rfl rfl rfl (fun hact => (r_lt (gb_ev hact rfl) rfl)) rfl rfl ?_; clear hf fa; intro fa hf
            refine sqv hf (r_pickA (b := (!lo)) (e := (decide (((v : Nat) : Int) < (9223372036854775808 : Int)))) rfl rfl rfl) rfl rfl rfl ?_; clear hf fa; intro fa hf
            refine sqv hf (r_assign rfl) rfl rfl rfl ?_; clear hf fa; intro fa hf
            apply wpList_nil
            (try simp only [Exit.then, Exit.inBlock, ↓reduceIte, Nat.reduceEqDiff])
            refine hK20 _ _ ?_
            refine wp_cond_split (t := ((!lo) && (decide (((v : Nat) : Int) < (9223372036854775808 : Int))))) (hf.ev rfl) (fun hqt66_1 => ?_) (fun hqt66_1 => ?_)
            · have hqt66_1b := hqt66_1
              try simp only [decide_eq_true_eq, Bool.and_eq_true, Bool.or_eq_true, Bool.not_eq_true', decide_eq_false_iff_not, ne_eq, Bool.not_eq_true] at hqt66_1
              refine wp_seq_k (fun K21 hK21 => ?_)
              refine wp_region_lit ?_
              refine sqv hf (r_move rfl) rfl rfl rfl ?_; clear hf fa; intro fa hf
              refine sqv hf (r_conv (C := ((v : Nat) : Int)) rfl Try.underlying63 Try.underlying3 (by rw [IntKind.wrap_i64]; omega)) rfl rfl rfl ?_; clear hf fa; intro fa hf
              refine sqv hf (r_assign rfl) rfl rfl rfl ?_; clear hf fa; intro fa hf
              refine sqv hf (r_assign rfl) rfl rfl rfl ?_; clear hf fa; intro fa hf
              apply wpList_nil
              (try simp only [Exit.then, Exit.inBlock, ↓reduceIte, Nat.reduceEqDiff])
              refine hK21 _ _ ?_
              refine wp_ret ?_
              (try simp only [Exit.then, Exit.inBlock])
              refine ret2 hf rfl rfl rfl ?_
              have hgo := numT_go (lo := lo) (u := u) (v := v) hsp1 (by omega) (fun h => hqt32_2 (.inr ⟨by omega, h.2.imp id (by omega)⟩)) (by rwa [List.take_of_length_le (by rw [bl_length]; omega)] at hd) (by rwa [List.take_of_length_le (by rw [bl_length]; omega)] at hv)
              rw [hnum, hgo]
              rw [if_neg (fun h => hqt57_1 ⟨h.1, by omega⟩)]
              rw [if_pos ⟨hqt66_1.1, by have h := hqt66_1.2; omega⟩]; exact ⟨rfl, hb⟩
            · have hqt66_1b := hqt66_1
              replace hqt66_1 := Bool.eq_false_iff.1 hqt66_1
              try simp only [ne_eq, decide_eq_true_eq, Bool.and_eq_true, Bool.or_eq_true, Bool.not_eq_true', decide_eq_false_iff_not] at hqt66_1
              refine wp_skip ?_
              (try simp only [Exit.then, Exit.inBlock, ↓reduceIte, Nat.reduceEqDiff])
              refine hK17 _ _ ?_
              refine wp_seq_k (fun K22 hK22 => ?_)
              refine wp_region_lit ?_
              refine sqv hf (r_assign rfl) rfl rfl rfl ?_; clear hf fa; intro fa hf
              refine sqv hf (r_assign rfl) rfl rfl rfl ?_; clear hf fa; intro fa hf
              apply wpList_nil
              (try simp only [Exit.then, Exit.inBlock, ↓reduceIte, Nat.reduceEqDiff])
              refine hK22 _ _ ?_
              refine wp_ret ?_
              (try simp only [Exit.then, Exit.inBlock])
              refine ret2 hf rfl rfl rfl ?_
              have hgo := numT_go (lo := lo) (u := u) (v := v) hsp1 (by omega) (fun h => hqt32_2 (.inr ⟨by omega, h.2.imp id (by omega)⟩)) (by rwa [List.take_of_length_le (by rw [bl_length]; omega)] at hd) (by rwa [List.take_of_length_le (by rw [bl_length]; omega)] at hv)
              rw [hnum, hgo]
              rw [if_neg (fun h => hqt57_1 ⟨h.1, by omega⟩)]
              rw [if_neg (fun h => hqt66_1 ⟨h.1, by omega⟩)]; exact ⟨rfl, hb⟩
end Go.Proofs.Ytpalmpfkliepfaa

namespace Go.Proofs.Ytpalmpfkliepfaa
open Go.RowKit Ut
set_option linter.unusedVariables false
set_option linter.unusedSimpArgs false
theorem dS_zero : dS 0 = ⟨#[48]⟩ := by unfold dS digB; rw [if_neg (by omega), show (0 : Int).natAbs = 0 from rfl, natB_lt (by decide)]; rfl
def natZ (n : Nat) : List Nat := if n = 0 then [] else natB n
theorem natZ_step {n : Nat} (h : n ≠ 0) : natZ n = natZ (n / 10) ++ [48 + n % 10] := by
  unfold natZ
  rw [if_neg h]
  by_cases h2 : n < 10
  · rw [if_pos (by omega), natB_lt h2, show n % 10 = n by omega]; rfl
  · rw [if_neg (by omega), natB_ge h2]
theorem tmod10 (m : Int) : (m < 0 → Int.tmod m 10 = -((m.natAbs % 10 : Nat) : Int)) ∧ (0 ≤ m → Int.tmod m 10 = ((m.natAbs % 10 : Nat) : Int)) := by
  constructor
  · intro h
    obtain ⟨a, rfl⟩ : ∃ a : Nat, m = -(a : Int) := ⟨m.natAbs, by omega⟩
    rw [Int.neg_tmod, Int.natAbs_neg, Int.natAbs_natCast]; rfl
  · intro h
    obtain ⟨a, rfl⟩ : ∃ a : Nat, m = (a : Int) := ⟨m.natAbs, by omega⟩
    rw [Int.natAbs_natCast]; rfl
theorem tdiv10 (m : Int) : (m < 0 → Int.tdiv m 10 = -((m.natAbs / 10 : Nat) : Int)) ∧ (0 ≤ m → Int.tdiv m 10 = ((m.natAbs / 10 : Nat) : Int)) := by
  constructor
  · intro h
    obtain ⟨a, rfl⟩ : ∃ a : Nat, m = -(a : Int) := ⟨m.natAbs, by omega⟩
    rw [Int.neg_tdiv, Int.natAbs_neg, Int.natAbs_natCast]; rfl
  · intro h
    obtain ⟨a, rfl⟩ : ∃ a : Nat, m = (a : Int) := ⟨m.natAbs, by omega⟩
    rw [Int.natAbs_natCast]; rfl
theorem bl_cons1 (x : Nat) (hx : x < 256) (o : ByteArray) : bl (strOfNums [((x : Nat) : Int)] ++ o) = x :: bl o := by
  rw [bl_app]
  show bl (strN [x]) ++ _ = _
  rw [bl_strN _ (by intro y hy; simp only [List.mem_singleton] at hy; omega)]; rfl
abbrev wr64 : Int → Int := IntKind.wrap .i64
theorem wr64_id (n : Int) (h : inI n) : wr64 n = n := by unfold inI at h; show IntKind.wrap .i64 n = n; rw [IntKind.wrap_i64]; omega
theorem wr64_in (n : Int) : inI (wr64 n) := by show inI (IntKind.wrap .i64 n); unfold inI; rw [IntKind.wrap_i64]; omega
theorem numR_out {s : ByteArray} {m : Int} (h : m = if (bl s).head? = some 45 then accR wr64 ((bl s).take 20) 0 else wr64 (-accR wr64 ((bl s).take 20) 0)) : numP (bl s) = if dS m = s then (m, true) else (0, false) := by
  rw [← numR_eq wr64 wr64_id wr64_in]
  unfold numR
  simp only
  rw [← h]
  by_cases h2 : digB m = bl s
  · rw [if_pos h2, if_pos (bl_inj (by rw [bl_dS, h2]))]
  · rw [if_neg h2, if_neg (fun e => h2 (by rw [← bl_dS, e]))]
theorem accR_snoc (wr : Int → Int) (l : List Nat) (c : Nat) (n : Int) : accR wr (l ++ [c]) n = if 48 ≤ c ∧ c ≤ 57 then wr (wr (accR wr l n * 10) - ((c : Int) - 48)) else accR wr l n := by unfold accR; rw [List.foldl_append]; rfl
theorem low_eq (s : ByteArray) : (decide ((0 : Int) < ((s.size : Nat) : Int)) && decide (((sbt s 0 : Nat) : Int) = 45)) = decide ((bl s).head? = some 45) := by
  by_cases h : 0 < s.size
  · rw [bl_head h, decide_eq_true (show (0 : Int) < ((s.size : Nat) : Int) by omega)]
    by_cases h2 : sbt s 0 = 45
    · rw [h2]; rfl
    · rw [decide_eq_false (by omega), decide_eq_false (by simpa using h2)]; rfl
  · rw [decide_eq_false (show ¬ (0 : Int) < ((s.size : Nat) : Int) by omega), show bl s = [] from bl_nil.2 (by omega)]; rfl

set_option maxHeartbeats 1000000 in
set_option maxRecDepth 100000 in
theorem rdigits_any (n : Int) (w : World) (h : inI n) : Calls Try.prog 33 #[(.int .i64 n)] w fun e w' => e = .returned (.string (dS n)) ∧ Below w.heap.size w w' := by
  unfold inI at h
  refine sx_enter (L := [(0, (.int .i64 n))]) Try.func33 rfl rfl rfl rfl (fun fa hf => ?_)
  have hb : Below w.heap.size w w := Below.refl _ _
  refine wp_seq_k (fun K1 hK1 => ?_)
  refine wp_region_lit ?_
  refine sqv hf (r_assign rfl) rfl rfl rfl ?_; clear hf fa; intro fa hf
  apply wpList_nil
  (try simp only [Exit.then, Exit.inBlock, ↓reduceIte, Nat.reduceEqDiff])
  refine hK1 _ _ ?_
  refine wp_seq_k (fun K2 hK2 => ?_)
  refine wp_region_lit ?_
  refine sqv hf (r_move rfl) rfl rfl rfl ?_; clear hf fa; intro fa hf
  refine sqv hf (r_lt rfl rfl) rfl rfl rfl ?_; clear hf fa; intro fa hf
  refine sqv hf (r_assign rfl) rfl rfl rfl ?_; clear hf fa; intro fa hf
  refine sqv hf (r_assign rfl) rfl rfl rfl ?_; clear hf fa; intro fa hf
  apply wpList_nil
  (try simp only [Exit.then, Exit.inBlock, ↓reduceIte, Nat.reduceEqDiff])
  refine hK2 _ _ ?_
  refine wp_seq_k (fun K3 hK3 => ?_)
  refine wp_seq_k (fun K4 hK4 => ?_)
  refine wp_region_lit ?_
  refine sqv hf (r_move rfl) rfl rfl rfl ?_; clear hf fa; intro fa hf
  refine sqv hf (r_eq rfl rfl) rfl rfl rfl ?_; clear hf fa; intro fa hf
  apply wpList_nil
  (try simp only [Exit.then, Exit.inBlock, ↓reduceIte, Nat.reduceEqDiff])
  refine hK4 _ _ ?_
  refine wp_cond_split (t := (decide (n = (0 : Int)))) (hf.ev rfl) (fun hqt9_1 => ?_) (fun hqt9_1 => ?_)
  · have hqt9_1b := hqt9_1
    try simp only [decide_eq_true_eq, Bool.and_eq_true, Bool.or_eq_true, Bool.not_eq_true', decide_eq_false_iff_not, ne_eq, Bool.not_eq_true] at hqt9_1
    refine wp_seq_k (fun K5 hK5 => ?_)
    refine wp_region_lit ?_
    refine sqv hf (r_assign rfl) rfl rfl rfl ?_; clear hf fa; intro fa hf
    apply wpList_nil
    (try simp only [Exit.then, Exit.inBlock, ↓reduceIte, Nat.reduceEqDiff])
    refine hK5 _ _ ?_
    refine wp_ret ?_
    (try simp only [Exit.then, Exit.inBlock])
    refine ret1 hf rfl rfl ?_
    refine ⟨?_, hb⟩; rw [show n = 0 from by omega, dS_zero]
  · have hqt9_1b := hqt9_1
    replace hqt9_1 := Bool.eq_false_iff.1 hqt9_1
    try simp only [ne_eq, decide_eq_true_eq, Bool.and_eq_true, Bool.or_eq_true, Bool.not_eq_true', decide_eq_false_iff_not] at hqt9_1
    refine wp_skip ?_
    (try simp only [Exit.then, Exit.inBlock, ↓reduceIte, Nat.reduceEqDiff])
    refine hK3 _ _ ?_
    refine wp_seq_k (fun K6 hK6 => ?_)
    refine wp_block ?_
    refine wp_loop_k (fun mq fa wr => ∃ (m : Int) (o : ByteArray), mq = m.natAbs ∧ Fr 31 fa [(0, (.int .i64 m)), (3, (.string o)), (4, (.bool (decide ((n) < (0 : Int)))))] ∧ Below w.heap.size w wr ∧ ((n < 0 → m ≤ 0) ∧ (0 < n → 0 ≤ m)) ∧ (m.natAbs ≤ n.natAbs) ∧ (natB n.natAbs = natZ m.natAbs ++ bl o)) ?_ ?_
    · skip
      exact ⟨_, n, (⟨#[]⟩ : ByteArray), rfl, hf.sub ⟨rfl, (some_str (by first | rfl | assumption | simp)), rfl, trivial⟩, hb, by omega, by omega, (by unfold natZ; rw [if_neg (by omega)]; exact (List.append_nil _).symm)⟩
    · skip
      clear hf fa; intro mq1 fa w1 hI KL1 hKL1
      clear hb
      obtain ⟨m, o, hmq1, hf, hb, hms, hma, Hs⟩ := hI
      have hol : o.size ≤ 19 := by have h1 := natB_len 19 n.natAbs (by decide) (by omega); have h2 := congrArg List.length Hs; rw [List.length_append, bl_length] at h2; omega
      obtain ⟨d, hd⟩ : ∃ d, Int.tmod m 10 = d := ⟨_, rfl⟩
      have hd1 := tmod10 m; rw [hd] at hd1
      have hd2 := tdiv10 m
      refine wp_seq_k (fun K7 hK7 => ?_)
      refine wp_seq_k (fun K8 hK8 => ?_)
      refine wp_region_lit ?_
      refine sqv hf (r_move rfl) rfl rfl rfl ?_; clear hf fa; intro fa hf
      refine sqv hf (r_ne rfl rfl) rfl rfl rfl ?_; clear hf fa; intro fa hf
      apply wpList_nil
      (try simp only [Exit.then, Exit.inBlock, ↓reduceIte, Nat.reduceEqDiff])
      refine hK8 _ _ ?_
      refine wp_cond_split (t := (decide (m ≠ (0 : Int)))) (hf.ev rfl) (fun hqt11_1 => ?_) (fun hqt11_1 => ?_)
      · have hqt11_1b := hqt11_1
        try simp only [decide_eq_true_eq, Bool.and_eq_true, Bool.or_eq_true, Bool.not_eq_true', decide_eq_false_iff_not, ne_eq, Bool.not_eq_true] at hqt11_1
        refine wp_skip ?_
        (try simp only [Exit.then, Exit.inBlock, ↓reduceIte, Nat.reduceEqDiff])
        refine hK7 _ _ ?_
        refine wp_block ?_
        refine wp_seq_k (fun K9 hK9 => ?_)
        refine wp_region_lit ?_
        refine sqv hf (r_move rfl) rfl rfl rfl ?_; clear hf fa; intro fa hf
        refine sqv hf (r_rem (C := d) rfl rfl (by omega) hd) rfl rfl rfl ?_; clear hf fa; intro fa hf
        refine sqv hf (r_assign rfl) rfl rfl rfl ?_; clear hf fa; intro fa hf
        apply wpList_nil
        (try simp only [Exit.then, Exit.inBlock, ↓reduceIte, Nat.reduceEqDiff])
        refine hK9 _ _ ?_
        refine wp_seq_k (fun K10 hK10 => ?_)
        refine wp_seq_k (fun K11 hK11 => ?_)
        refine wp_region_lit ?_
        refine sqv hf (r_move rfl) rfl rfl rfl ?_; clear hf fa; intro fa hf
        refine sqv hf (r_lt rfl rfl) rfl rfl rfl ?_; clear hf fa; intro fa hf
        apply wpList_nil
        (try simp only [Exit.then, Exit.inBlock, ↓reduceIte, Nat.reduceEqDiff])
        refine hK11 _ _ ?_
        refine wp_cond_split (t := (decide (d < (0 : Int)))) (hf.ev rfl) (fun hqt15_1 => ?_) (fun hqt15_1 => ?_)
        · have hqt15_1b := hqt15_1
          try simp only [decide_eq_true_eq, Bool.and_eq_true, Bool.or_eq_true, Bool.not_eq_true', decide_eq_false_iff_not, ne_eq, Bool.not_eq_true] at hqt15_1
          refine wp_region_lit ?_
          refine sqv hf (r_move rfl) rfl rfl rfl ?_; clear hf fa; intro fa hf
          refine sqv hf (r_neg (C := (((m.natAbs % 10) : Nat) : Int)) rfl (by rw [IntKind.wrap_i64]; omega)) rfl rfl rfl ?_; clear hf fa; intro fa hf
          refine sqv hf (r_assign rfl) rfl rfl rfl ?_; clear hf fa; intro fa hf
          apply wpList_nil
          (try simp only [Exit.then, Exit.inBlock, ↓reduceIte, Nat.reduceEqDiff])
          refine hK10 _ _ ?_
          refine wp_seq_k (fun K12 hK12 => ?_)
          refine wp_region_lit ?_
          refine sqv hf (r_move rfl) rfl rfl rfl ?_; clear hf fa; intro fa hf
          refine sqv hf (r_add (C := (((48 + m.natAbs % 10) : Nat) : Int)) rfl rfl (by rw [IntKind.wrap_i64]; omega)) rfl rfl rfl ?_; clear hf fa; intro fa hf
          refine sqv hf (r_conv (C := (((48 + m.natAbs % 10) : Nat) : Int)) rfl Try.underlying3 Try.underlying5 (by rw [IntKind.wrap_u8]; omega)) rfl rfl rfl ?_; clear hf fa; intro fa hf
          refine sqdt hf (d_bslice (z := (.int .u8 (0 : Int))) (sz := 1) (vs := [(0, (.int .u8 (((48 + m.natAbs % 10) : Nat) : Int)))]) (cs := #[(.int .u8 (((48 + m.natAbs % 10) : Nat) : Int))]) rfl Try.underlying43 (by kernel_rfl) rfl (by kernel_rfl)) rfl rfl rfl ?_; clear hf fa; rintro fa _ w2 ⟨b1, rfl, hle1, hk1, he1⟩ hf
          have hBb1 : w.heap.size ≤ b1 := Nat.le_trans hb.size hle1
          replace hb := hb.trans (Below.mono he1 hb.size)
          refine sqv hf (r_rowstr rfl Try.underlying43 Try.underlying5 Try.underlying9 (Row.of_new (k := 1) (V := vInt .u8) (l := [(((48 + m.natAbs % 10) : Nat) : Int)]) hk1 (Nat.le_refl _) rfl rfl (Nat.le_of_ble_eq_true rfl))) rfl rfl rfl ?_; clear hf fa; intro fa hf
          refine sqv hf (r_move rfl) rfl rfl rfl ?_; clear hf fa; intro fa hf
          refine sqv hf (r_sadd rfl rfl (by have := strOfNums_size [(((48 + m.natAbs % 10) : Nat) : Int)]; (try simp only [List.length_cons, List.length_nil, List.length_append] at this); omega)) rfl rfl rfl ?_; clear hf fa; intro fa hf
          refine sqv hf (r_assign rfl) rfl rfl rfl ?_; clear hf fa; intro fa hf
          apply wpList_nil
          (try simp only [Exit.then, Exit.inBlock, ↓reduceIte, Nat.reduceEqDiff])
          refine hK12 _ _ ?_
          refine wp_region_lit ?_
          refine sqv hf (r_move rfl) rfl rfl rfl ?_; clear hf fa; intro fa hf
          refine sqv hf (r_quo (C := ((if m < 0 then -((m.natAbs / 10 : Nat) : Int) else ((m.natAbs / 10 : Nat) : Int)))) rfl rfl (by omega) (by rw [IntKind.wrap_i64]; split <;> omega)) rfl rfl rfl ?_; clear hf fa; intro fa hf
          refine sqv hf (r_assign rfl) rfl rfl rfl ?_; clear hf fa; intro fa hf
          apply wpList_nil
          (try simp only [Exit.then, Exit.inBlock, ↓reduceIte, Nat.reduceEqDiff])
          refine hKL1 _ _ _ (by split <;> omega) ⟨(if m < 0 then -((m.natAbs / 10 : Nat) : Int) else ((m.natAbs / 10 : Nat) : Int)), ((strOfNums [(((48 + m.natAbs % 10) : Nat) : Int)]) ++ o), rfl, hf.sub ⟨(some_int (by first | rfl | omega)), rfl, rfl, trivial⟩, hb, by split <;> omega, by split <;> omega, (by rw [Hs, natZ_step (by omega), show (if m < 0 then -((m.natAbs / 10 : Nat) : Int) else ((m.natAbs / 10 : Nat) : Int)).natAbs = m.natAbs / 10 by split <;> omega, bl_cons1 _ (by omega)]; simp)⟩
        · have hqt15_1b := hqt15_1
          replace hqt15_1 := Bool.eq_false_iff.1 hqt15_1
          try simp only [ne_eq, decide_eq_true_eq, Bool.and_eq_true, Bool.or_eq_true, Bool.not_eq_true', decide_eq_false_iff_not] at hqt15_1
          refine wp_skip ?_
          (try simp only [Exit.then, Exit.inBlock, ↓reduceIte, Nat.reduceEqDiff])
          refine hK10 _ _ ?_
          refine wp_seq_k (fun K13 hK13 => ?_)
          refine wp_region_lit ?_
          refine sqv hf (r_move rfl) rfl rfl rfl ?_; clear hf fa; intro fa hf
          refine sqv hf (r_add (C := (((48 + m.natAbs % 10) : Nat) : Int)) rfl rfl (by rw [IntKind.wrap_i64]; omega)) rfl rfl rfl ?_; clear hf fa; intro fa hf
          refine sqv hf (r_conv (C := (((48 + m.natAbs % 10) : Nat) : Int)) rfl Try.underlying3 Try.underlying5 (by rw [IntKind.wrap_u8]; omega)) rfl rfl rfl ?_; clear hf fa; intro fa hf
          refine sqdt hf (d_bslice (z := (.int .u8 (0 : Int))) (sz := 1) (vs := [(0, (.int .u8 (((48 + m.natAbs % 10) : Nat) : Int)))]) (cs := #[(.int .u8 (((48 + m.natAbs % 10) : Nat) : Int))]) rfl Try.underlying43 (by kernel_rfl) rfl (by kernel_rfl)) rfl rfl rfl ?_; clear hf fa; rintro fa _ w3 ⟨b2, rfl, hle2, hk2, he2⟩ hf
          have hBb2 : w.heap.size ≤ b2 := Nat.le_trans hb.size hle2
          replace hb := hb.trans (Below.mono he2 hb.size)
          refine sqv hf (r_rowstr rfl Try.underlying43 Try.underlying5 Try.underlying9 (Row.of_new (k := 1) (V := vInt .u8) (l := [(((48 + m.natAbs % 10) : Nat) : Int)]) hk2 (Nat.le_refl _) rfl rfl (Nat.le_of_ble_eq_true rfl))) rfl rfl rfl ?_; clear hf fa; intro fa hf
          refine sqv hf (r_move rfl) rfl rfl rfl ?_; clear hf fa; intro fa hf
          refine sqv hf (r_sadd rfl rfl (by have := strOfNums_size [(((48 + m.natAbs % 10) : Nat) : Int)]; (try simp only [List.length_cons, List.length_nil, List.length_append] at this); omega)) rfl rfl rfl ?_; clear hf fa; intro fa hf
          refine sqv hf (r_assign rfl) rfl rfl rfl ?_; clear hf fa; intro fa hf
          apply wpList_nil
          (try simp only [Exit.then, Exit.inBlock, ↓reduceIte, Nat.reduceEqDiff])
          refine hK13 _ _ ?_
          refine wp_region_lit ?_
          refine sqv hf (r_move rfl) rfl rfl rfl ?_; clear hf fa; intro fa hf
          refine sqv hf (r_quo (C := ((if m < 0 then -((m.natAbs / 10 : Nat) : Int) else ((m.natAbs / 10 : Nat) : Int)))) rfl rfl (by omega) (by rw [IntKind.wrap_i64]; split <;> omega)) rfl rfl rfl ?_; clear hf fa; intro fa hf
          refine sqv hf (r_assign rfl) rfl rfl rfl ?_; clear hf fa; intro fa hf
          apply wpList_nil
          (try simp only [Exit.then, Exit.inBlock, ↓reduceIte, Nat.reduceEqDiff])
          refine hKL1 _ _ _ (by split <;> omega) ⟨(if m < 0 then -((m.natAbs / 10 : Nat) : Int) else ((m.natAbs / 10 : Nat) : Int)), ((strOfNums [(((48 + m.natAbs % 10) : Nat) : Int)]) ++ o), rfl, hf.sub ⟨(some_int (by first | rfl | omega)), rfl, rfl, trivial⟩, hb, by split <;> omega, by split <;> omega, (by rw [Hs, natZ_step (by omega), show (if m < 0 then -((m.natAbs / 10 : Nat) : Int) else ((m.natAbs / 10 : Nat) : Int)).natAbs = m.natAbs / 10 by split <;> omega, bl_cons1 _ (by omega)]; simp)⟩
      · have hqt11_1b := hqt11_1
        replace hqt11_1 := Bool.eq_false_iff.1 hqt11_1
        try simp only [ne_eq, decide_eq_true_eq, Bool.and_eq_true, Bool.or_eq_true, Bool.not_eq_true', decide_eq_false_iff_not] at hqt11_1
        refine wp_exit ?_
        (try simp only [Exit.then, Exit.inBlock, ↓reduceIte, Nat.reduceEqDiff])
        refine hK6 _ _ ?_
        refine wp_seq_k (fun K14 hK14 => ?_)
        refine wp_seq_k (fun K15 hK15 => ?_)
        refine wp_region_lit ?_
        refine sqv hf (r_move rfl) rfl rfl rfl ?_; clear hf fa; intro fa hf
        apply wpList_nil
        (try simp only [Exit.then, Exit.inBlock, ↓reduceIte, Nat.reduceEqDiff])
        refine hK15 _ _ ?_
        refine wp_cond_split (t := (decide ((n) < (0 : Int)))) (hf.ev rfl) (fun hqt27_1 => ?_) (fun hqt27_1 => ?_)
        · have hqt27_1b := hqt27_1
          try simp only [decide_eq_true_eq, Bool.and_eq_true, Bool.or_eq_true, Bool.not_eq_true', decide_eq_false_iff_not, ne_eq, Bool.not_eq_true] at hqt27_1
          refine wp_seq_k (fun K16 hK16 => ?_)
          refine wp_region_lit ?_
          refine sqv hf (r_move rfl) rfl rfl rfl ?_; clear hf fa; intro fa hf
          refine sqv hf (r_sadd rfl rfl (by have : ((⟨#[45]⟩) : ByteArray).size = 1 := rfl; omega)) rfl rfl rfl ?_; clear hf fa; intro fa hf
          refine sqv hf (r_assign rfl) rfl rfl rfl ?_; clear hf fa; intro fa hf
          apply wpList_nil
          (try simp only [Exit.then, Exit.inBlock, ↓reduceIte, Nat.reduceEqDiff])
          refine hK16 _ _ ?_
          refine wp_ret ?_
          (try simp only [Exit.then, Exit.inBlock])
          refine ret1 hf rfl rfl ?_
          have hfin : natB n.natAbs = bl o := by rw [Hs, show m.natAbs = 0 by omega]; rfl
          refine ⟨?_, hb⟩; congr 2; rw [← dS_neg (by omega)]; congr 1; unfold nS; rw [hfin, strN_bl]
        · have hqt27_1b := hqt27_1
          replace hqt27_1 := Bool.eq_false_iff.1 hqt27_1
          try simp only [ne_eq, decide_eq_true_eq, Bool.and_eq_true, Bool.or_eq_true, Bool.not_eq_true', decide_eq_false_iff_not] at hqt27_1
          refine wp_skip ?_
          (try simp only [Exit.then, Exit.inBlock, ↓reduceIte, Nat.reduceEqDiff])
          refine hK14 _ _ ?_
          refine wp_seq_k (fun K17 hK17 => ?_)
          refine wp_region_lit ?_
          refine sqv hf (r_move rfl) rfl rfl rfl ?_; clear hf fa; intro fa hf
          refine sqv hf (r_assign rfl) rfl rfl rfl ?_; clear hf fa; intro fa hf
          apply wpList_nil
          (try simp only [Exit.then, Exit.inBlock, ↓reduceIte, Nat.reduceEqDiff])
          refine hK17 _ _ ?_
          refine wp_ret ?_
          (try simp only [Exit.then, Exit.inBlock])
          refine ret1 hf rfl rfl ?_
          have hfin : natB n.natAbs = bl o := by rw [Hs, show m.natAbs = 0 by omega]; rfl
          refine ⟨?_, hb⟩; congr 2; rw [← dS_pos (by omega)]; unfold nS; rw [hfin, strN_bl]

set_option maxHeartbeats 1000000 in
set_option maxRecDepth 100000 in
theorem rnumber_any (s : ByteArray) (w : World) (hs : s.size ≤ 100000) : Calls Try.prog 26 #[(.string s)] w fun e w' => e = .returned (.tuple #[.int .i64 (numP (bl s)).1, .bool (numP (bl s)).2]) ∧ Below w.heap.size w w' := by
  obtain ⟨lo, hlo⟩ : ∃ lo, decide ((bl s).head? = some 45) = lo := ⟨_, rfl⟩
  have hlo2 := low_eq s; rw [hlo] at hlo2
  refine sx_enter (L := [(0, (.string s))]) Try.func26 rfl rfl rfl rfl (fun fa hf => ?_)
  have hb : Below w.heap.size w w := Below.refl _ _
  refine wp_seq_k (fun K1 hK1 => ?_)
  refine wp_region_lit ?_
  refine sqv hf (r_assign rfl) rfl rfl rfl ?_; clear hf fa; intro fa hf
  refine sqv hf (r_assign rfl) rfl rfl rfl ?_; clear hf fa; intro fa hf
  apply wpList_nil
  (try simp only [Exit.then, Exit.inBlock, ↓reduceIte, Nat.reduceEqDiff])
  refine hK1 _ _ ?_
  refine wp_seq_k (fun K2 hK2 => ?_)
  refine wp_region_un (fun wq => Below w.heap.size w wq) (fun w w' => Below w.heap.size w w')
    (fun V => [(fun x _ => x = (.string s)), (fun x _ => x = (.int .i64 ((s.size : Nat) : Int))), (fun x _ => x = (.bool (decide ((0 : Int) < ((s.size : Nat) : Int))))), (fun x _ => x = (.bool (decide ((0 : Int) < ((s.size : Nat) : Int))))), (fun x _ => x = (gb (decide ((0 : Int) < ((s.size : Nat) : Int))) (.string s))), (fun x _ => x = (gb (decide ((0 : Int) < ((s.size : Nat) : Int))) (.int .u8 ((sbt s 0 : Nat) : Int)))), (fun x _ => x = (gb (decide ((0 : Int) < ((s.size : Nat) : Int))) (.bool (decide (((sbt s 0 : Nat) : Int) = (45 : Int)))))), (fun x _ => x = (.bool lo)), (fun x _ => x = (.int .i64 (0 : Int))), (fun x _ => x = (.bool lo))])
    []
    [[], [0], [1], [2], [3], [3, 4], [3, 5], [3, 6], [3], [0, 1, 2, 3, 4, 5, 6, 7, 8]]
    hf (by kernel_rfl) (by kernel_rfl) (fun _ => rfl) ((Below.refl _ _).drew) (fun a b h1 h2 => h1.trans (h2.mono h1.size)) (fun _ _ h => h.size) (fun V => ⟨kept_eq, kept_eq, kept_eq, kept_eq, kept_eq, kept_eq, kept_eq, kept_eq, kept_eq, kept_eq, trivial⟩) (fun _ _ _ _ _ => rfl) ?_ ?_
  · skip
    intro V
    refine ⟨fun wu0 hC hd => ?_, ?_⟩
    · clear hd
      replace hb := hb.trans (hC.mono hb.size)
      exact Runs.does (r_move rfl) ⟨Below.refl _ _, rfl, nofr rfl⟩
    refine ⟨fun wu1 hC hd => ?_, ?_⟩
    · obtain ⟨h0, _⟩ := hd
      skip
      replace h0 : V 0 = (.string s) := h0
      replace hb := hb.trans (hC.mono hb.size)
      exact Runs.does (r_lens (congrArg some h0) Try.underlying9) ⟨Below.refl _ _, rfl, nofr rfl⟩
    refine ⟨fun wu2 hC hd => ?_, ?_⟩
    · obtain ⟨h1, _⟩ := hd
      skip
      replace h1 : V 1 = (.int .i64 ((s.size : Nat) : Int)) := h1
      replace hb := hb.trans (hC.mono hb.size)
      exact Runs.does (r_gt (congrArg some h1) rfl) ⟨Below.refl _ _, rfl, nofr rfl⟩
    refine ⟨fun wu3 hC hd => ?_, ?_⟩
    · obtain ⟨h2, _⟩ := hd
      skip
      replace h2 : V 2 = (.bool (decide ((0 : Int) < ((s.size : Nat) : Int)))) := h2
      replace hb := hb.trans (hC.mono hb.size)
      exact Runs.does (r_move (congrArg some h2)) ⟨Below.refl _ _, rfl, nofr rfl⟩
    refine ⟨fun wu4 hC hd => ?_, ?_⟩
    · obtain ⟨h3, _⟩ := hd
      skip
      replace h3 : V 3 = (.bool (decide ((0 : Int) < ((s.size : Nat) : Int)))) := h3
      replace hb := hb.trans (hC.mono hb.size)
      refine ⟨true, (decide ((0 : Int) < ((s.size : Nat) : Int))), congrArg some h3, fun hact => ?_, fun hact => ?_⟩
      · replace hact : (decide ((0 : Int) < ((s.size : Nat) : Int))) = true := by simpa using hact
        refine Runs.does (v := (.string s)) (r_move rfl) ⟨Below.refl _ _, ?_, nofr rfl⟩
        show _ = gb _ _; rw [hact]; rfl
      · replace hact : (decide ((0 : Int) < ((s.size : Nat) : Int))) = false := by simpa using hact
        refine ⟨Below.refl _ _, ?_, nofr rfl⟩
        show _ = gb _ _; rw [hact]; rfl
    refine ⟨fun wu5 hC hd => ?_, ?_⟩
    · obtain ⟨h3, h4, _⟩ := hd
      skip
      skip
      replace h3 : V 3 = (.bool (decide ((0 : Int) < ((s.size : Nat) : Int)))) := h3
      replace h4 : V 4 = (gb (decide ((0 : Int) < ((s.size : Nat) : Int))) (.string s)) := h4
      replace hb := hb.trans (hC.mono hb.size)
      refine ⟨true, (decide ((0 : Int) < ((s.size : Nat) : Int))), congrArg some h3, fun hact => ?_, fun hact => ?_⟩
      · replace hact : (decide ((0 : Int) < ((s.size : Nat) : Int))) = true := by simpa using hact
        refine Runs.does (v := (.int .u8 ((sbt s 0 : Nat) : Int))) (by have hact0 := hact; (try simp only [Bool.and_eq_true, Bool.not_eq_true', Bool.or_eq_false_iff, Bool.or_eq_true, Bool.and_eq_false_iff, ne_eq, decide_eq_true_eq, decide_eq_false_iff_not] at hact0); exact (r_sindexD (j := 0) (gb_ev hact (congrArg some h4)) rfl Try.underlying9 rfl (by omega))) ⟨Below.refl _ _, ?_, nofr rfl⟩
        show _ = gb _ _; rw [hact]; rfl
      · replace hact : (decide ((0 : Int) < ((s.size : Nat) : Int))) = false := by simpa using hact
        refine ⟨Below.refl _ _, ?_, nofr rfl⟩
        show _ = gb _ _; rw [hact]; rfl
    refine ⟨fun wu6 hC hd => ?_, ?_⟩
    · obtain ⟨h3, h5, _⟩ := hd
      skip
      skip
      replace h3 : V 3 = (.bool (decide ((0 : Int) < ((s.size : Nat) : Int)))) := h3
      replace h5 : V 5 = (gb (decide ((0 : Int) < ((s.size : Nat) : Int))) (.int .u8 ((sbt s 0 : Nat) : Int))) := h5
      replace hb := hb.trans (hC.mono hb.size)
      refine ⟨true, (decide ((0 : Int) < ((s.size : Nat) : Int))), congrArg some h3, fun hact => ?_, fun hact => ?_⟩
      · replace hact : (decide ((0 : Int) < ((s.size : Nat) : Int))) = true := by simpa using hact
        refine Runs.does (v := (.bool (decide (((sbt s 0 : Nat) : Int) = (45 : Int))))) (r_eq (gb_ev hact (congrArg some h5)) rfl) ⟨Below.refl _ _, ?_, nofr rfl⟩
        show _ = gb _ _; rw [hact]; rfl
      · replace hact : (decide ((0 : Int) < ((s.size : Nat) : Int))) = false := by simpa using hact
        refine ⟨Below.refl _ _, ?_, nofr rfl⟩
        show _ = gb _ _; rw [hact]; rfl
    refine ⟨fun wu7 hC hd => ?_, ?_⟩
    · obtain ⟨h3, h6, _⟩ := hd
      skip
      skip
      replace h3 : V 3 = (.bool (decide ((0 : Int) < ((s.size : Nat) : Int)))) := h3
      replace h6 : V 6 = (gb (decide ((0 : Int) < ((s.size : Nat) : Int))) (.bool (decide (((sbt s 0 : Nat) : Int) = (45 : Int))))) := h6
      replace hb := hb.trans (hC.mono hb.size)
      exact Runs.does (Runs.veq (r_pickA (b := (decide ((0 : Int) < ((s.size : Nat) : Int)))) (e := (decide (((sbt s 0 : Nat) : Int) = (45 : Int)))) (congrArg some h3) (congrArg some h6) rfl) (congrArg Value.bool (show _ = lo from hlo2))) ⟨Below.refl _ _, rfl, nofr rfl⟩
    refine ⟨fun wu8 hC hd => ?_, ?_⟩
    · obtain ⟨h3, _⟩ := hd
      skip
      replace h3 : V 3 = (.bool (decide ((0 : Int) < ((s.size : Nat) : Int)))) := h3
      replace hb := hb.trans (hC.mono hb.size)
      exact Runs.does (r_assign rfl) ⟨Below.refl _ _, rfl, nofr rfl⟩
    refine ⟨fun wu9 hC hd => ?_, ?_⟩
    · obtain ⟨h0, h1, h2, h3, h4, h5, h6, h7, h8, _⟩ := hd
      skip
      skip
      skip
      skip
      skip
      skip
      skip
      skip
      skip
      replace h0 : V 0 = (.string s) := h0
      replace h1 : V 1 = (.int .i64 ((s.size : Nat) : Int)) := h1
      replace h2 : V 2 = (.bool (decide ((0 : Int) < ((s.size : Nat) : Int)))) := h2
      replace h3 : V 3 = (.bool (decide ((0 : Int) < ((s.size : Nat) : Int)))) := h3
      replace h4 : V 4 = (gb (decide ((0 : Int) < ((s.size : Nat) : Int))) (.string s)) := h4
      replace h5 : V 5 = (gb (decide ((0 : Int) < ((s.size : Nat) : Int))) (.int .u8 ((sbt s 0 : Nat) : Int))) := h5
      replace h6 : V 6 = (gb (decide ((0 : Int) < ((s.size : Nat) : Int))) (.bool (decide (((sbt s 0 : Nat) : Int) = (45 : Int))))) := h6
      replace h7 : V 7 = (.bool lo) := h7
      replace h8 : V 8 = (.int .i64 (0 : Int)) := h8
      replace hb := hb.trans (hC.mono hb.size)
      exact Runs.does (r_assign (congrArg some h7)) ⟨Below.refl _ _, rfl, nofr rfl⟩
    trivial
  · skip
    clear hf fa; intro V w1 fa he1 hp hnb hf
    have hv0 : V 0 = (.string s) := postsHold_at hp 0 rfl
    have hv1 : V 1 = (.int .i64 ((s.size : Nat) : Int)) := postsHold_at hp 1 rfl
    have hv2 : V 2 = (.bool (decide ((0 : Int) < ((s.size : Nat) : Int)))) := postsHold_at hp 2 rfl
    have hv3 : V 3 = (.bool (decide ((0 : Int) < ((s.size : Nat) : Int)))) := postsHold_at hp 3 rfl
    have hv4 : V 4 = (gb (decide ((0 : Int) < ((s.size : Nat) : Int))) (.string s)) := postsHold_at hp 4 rfl
    have hv5 : V 5 = (gb (decide ((0 : Int) < ((s.size : Nat) : Int))) (.int .u8 ((sbt s 0 : Nat) : Int))) := postsHold_at hp 5 rfl
    have hv6 : V 6 = (gb (decide ((0 : Int) < ((s.size : Nat) : Int))) (.bool (decide (((sbt s 0 : Nat) : Int) = (45 : Int))))) := postsHold_at hp 6 rfl
    have hv7 : V 7 = (.bool lo) := postsHold_at hp 7 rfl
    have hv8 : V 8 = (.int .i64 (0 : Int)) := postsHold_at hp 8 rfl
    have hv9 : V 9 = (.bool lo) := postsHold_at hp 9 rfl
    simp only [List.take_succ_cons, List.take_zero, insAll, ins, hv0, hv1, hv2, hv3, hv4, hv5, hv6, hv7, hv8, hv9] at hf
    clear hp hnb hv0 hv1 hv2 hv3 hv4 hv5 hv6 hv7 hv8 hv9
    replace hb := hb.trans (Below.mono he1 hb.size)
    (try simp only [Exit.then, Exit.inBlock, ↓reduceIte, Nat.reduceEqDiff])
    refine hK2 _ _ ?_
    refine wp_seq_k (fun K3 hK3 => ?_)
    refine wp_seq_k (fun K4 hK4 => ?_)
    refine wp_region_lit ?_
    refine sqv hf (r_assign rfl) rfl rfl rfl ?_; clear hf fa; intro fa hf
    apply wpList_nil
    (try simp only [Exit.then, Exit.inBlock, ↓reduceIte, Nat.reduceEqDiff])
    refine hK4 _ _ ?_
    refine wp_block ?_
    refine wp_loop_k (fun mq fa wr => ∃ (k : Nat) (m : Int), mq = s.size - k ∧ Fr 52 fa [(0, (.string s)), (4, (.int .i64 m)), (5, (.bool lo)), (6, (.int .i64 ((k : Nat) : Int)))] ∧ Below w.heap.size w wr ∧ (k ≤ s.size) ∧ (k ≤ 20) ∧ (m = accR wr64 ((bl s).take k) 0) ∧ (inI m)) ?_ ?_
    · skip
      exact ⟨_, 0, 0, rfl, hf.sub ⟨rfl, (some_int (by first | rfl | omega)), rfl, (some_int (by first | rfl | omega)), trivial⟩, hb, by omega, by omega, rfl, (by unfold inI; omega)⟩
    · skip
      clear hf fa; intro mq1 fa w2 hI KL1 hKL1
      clear hb
      obtain ⟨k, m, hmq1, hf, hb, hk, hk2, hm, hin⟩ := hI
      have hsb := sbt_lt s k
      refine wp_seq_k (fun K5 hK5 => ?_)
      refine wp_seq_k (fun K6 hK6 => ?_)
      refine wp_region_lit ?_
      refine sqv hf (r_move rfl) rfl rfl rfl ?_; clear hf fa; intro fa hf
      refine sqv hf (r_move rfl) rfl rfl rfl ?_; clear hf fa; intro fa hf
      refine sqv hf (r_lens rfl Try.underlying9) rfl rfl rfl ?_; clear hf fa; intro fa hf
      refine sqv hf (r_lt rfl rfl) rfl rfl rfl ?_; clear hf fa; intro fa hf
      refine sqv hf (r_move rfl) rfl rfl rfl ?_; clear hf fa; intro fa hf
      refine sqgT (act := (decide (((k : Nat) : Int) < ((s.size : Nat) : Int)))) (ag := true) (c := (decide (((k : Nat) : Int) < ((s.size : Nat) : Int)))) (v := (.int .i64 ((k : Nat) : Int))) hf rfl rfl rfl (fun hact => (r_move rfl)) rfl rfl ?_; clear hf fa; intro fa hf
      refine sqgT (act := (decide (((k : Nat) : Int) < ((s.size : Nat) : Int)))) (ag := true) (c := (decide (((k : Nat) : Int) < ((s.size : Nat) : Int)))) (v := (.bool (decide (((k : Nat) : Int) < (20 : Int))))) hf rfl rfl rfl (fun hact => (r_lt (gb_ev hact rfl) rfl)) rfl rfl ?_; clear hf fa; intro fa hf
      refine sqv hf (r_pickA (b := (decide (((k : Nat) : Int) < ((s.size : Nat) : Int)))) (e := (decide (((k : Nat) : Int) < (20 : Int)))) rfl rfl rfl) rfl rfl rfl ?_; clear hf fa; intro fa hf
      apply wpList_nil
      (try simp only [Exit.then, Exit.inBlock, ↓reduceIte, Nat.reduceEqDiff])
      refine hK6 _ _ ?_
      refine wp_cond_split (t := ((decide (((k : Nat) : Int) < ((s.size : Nat) : Int))) && (decide (((k : Nat) : Int) < (20 : Int))))) (hf.ev rfl) (fun hqt22_1 => ?_) (fun hqt22_1 => ?_)
      · have hqt22_1b := hqt22_1
        try simp only [decide_eq_true_eq, Bool.and_eq_true, Bool.or_eq_true, Bool.not_eq_true', decide_eq_false_iff_not, ne_eq, Bool.not_eq_true] at hqt22_1
        refine wp_skip ?_
        (try simp only [Exit.then, Exit.inBlock, ↓reduceIte, Nat.reduceEqDiff])
        refine hK5 _ _ ?_
        refine wp_seq_k (fun K7 hK7 => ?_)
        refine wp_block ?_
        refine wp_seq_k (fun K8 hK8 => ?_)
        refine wp_region_lit ?_
        refine sqv hf (r_move rfl) rfl rfl rfl ?_; clear hf fa; intro fa hf
        refine sqv hf (r_move rfl) rfl rfl rfl ?_; clear hf fa; intro fa hf
        refine sqv hf (r_sindexD (j := k) rfl rfl Try.underlying9 rfl (by omega)) rfl rfl rfl ?_; clear hf fa; intro fa hf
        refine sqv hf (r_ge rfl rfl) rfl rfl rfl ?_; clear hf fa; intro fa hf
        refine sqv hf (r_move rfl) rfl rfl rfl ?_; clear hf fa; intro fa hf
        refine sqgT (act := (decide ((48 : Int) ≤ ((sbt s k : Nat) : Int)))) (ag := true) (c := (decide ((48 : Int) ≤ ((sbt s k : Nat) : Int)))) (v := (.string s)) hf rfl rfl rfl (fun hact => (r_move rfl)) rfl rfl ?_; clear hf fa; intro fa hf
        refine sqgT (act := (decide ((48 : Int) ≤ ((sbt s k : Nat) : Int)))) (ag := true) (c := (decide ((48 : Int) ≤ ((sbt s k : Nat) : Int)))) (v := (.int .i64 ((k : Nat) : Int))) hf rfl rfl rfl (fun hact => (r_move rfl)) rfl rfl ?_; clear hf fa; intro fa hf
        refine sqgT (act := (decide ((48 : Int) ≤ ((sbt s k : Nat) : Int)))) (ag := true) (c := (decide ((48 : Int) ≤ ((sbt s k : Nat) : Int)))) (v := (.int .u8 ((sbt s k : Nat) : Int))) hf rfl rfl rfl (fun hact => (by have hact0 := hact; (try simp only [Bool.and_eq_true, Bool.not_eq_true', Bool.or_eq_false_iff, Bool.or_eq_true, Bool.and_eq_false_iff, ne_eq, decide_eq_true_eq, decide_eq_false_iff_not] at hact0); exact (r_sindexD (j := k) (gb_ev hact rfl) (gb_ev hact rfl) Try.underlying9 rfl (by omega)))) rfl rfl ?_; clear hf fa; intro fa hf
        refine sqgT (act := (decide ((48 : Int) ≤ ((sbt s k : Nat) : Int)))) (ag := true) (c := (decide ((48 : Int) ≤ ((sbt s k : Nat) : Int)))) (v := (.bool (decide (((sbt s k : Nat) : Int) ≤ (57 : Int))))) hf rfl rfl rfl (fun hact => (r_le (gb_ev hact rfl) rfl)) rfl rfl ?_; clear hf fa; intro fa hf
        refine sqv hf (r_pickA (b := (decide ((48 : Int) ≤ ((sbt s k : Nat) : Int)))) (e := (decide (((sbt s k : Nat) : Int) ≤ (57 : Int)))) rfl rfl rfl) rfl rfl rfl ?_; clear hf fa; intro fa hf
        apply wpList_nil
        (try simp only [Exit.then, Exit.inBlock, ↓reduceIte, Nat.reduceEqDiff])
        refine hK8 _ _ ?_
        refine wp_cond_split (t := ((decide ((48 : Int) ≤ ((sbt s k : Nat) : Int))) && (decide (((sbt s k : Nat) : Int) ≤ (57 : Int))))) (hf.ev rfl) (fun hqt34_1 => ?_) (fun hqt34_1 => ?_)
        · have hqt34_1b := hqt34_1
          try simp only [decide_eq_true_eq, Bool.and_eq_true, Bool.or_eq_true, Bool.not_eq_true', decide_eq_false_iff_not, ne_eq, Bool.not_eq_true] at hqt34_1
          refine wp_region_lit ?_
          refine sqv hf (r_move rfl) rfl rfl rfl ?_; clear hf fa; intro fa hf
          refine sqv hf (r_mul (C := ((IntKind.wrap .i64 (m * 10)))) rfl rfl rfl) rfl rfl rfl ?_; clear hf fa; intro fa hf
          refine sqv hf (r_move rfl) rfl rfl rfl ?_; clear hf fa; intro fa hf
          refine sqv hf (r_move rfl) rfl rfl rfl ?_; clear hf fa; intro fa hf
          refine sqv hf (r_sindexD (j := k) rfl rfl Try.underlying9 rfl (by omega)) rfl rfl rfl ?_; clear hf fa; intro fa hf
          refine sqv hf (r_sub (C := (((sbt s k : Nat) : Int) - (48 : Int))) rfl rfl (by rw [IntKind.wrap_u8]; omega)) rfl rfl rfl ?_; clear hf fa; intro fa hf
          refine sqv hf (r_conv (C := (((sbt s k : Nat) : Int) - (48 : Int))) rfl Try.underlying5 Try.underlying3 (by rw [IntKind.wrap_i64]; omega)) rfl rfl rfl ?_; clear hf fa; intro fa hf
          refine sqv hf (r_sub (C := ((IntKind.wrap .i64 (IntKind.wrap .i64 (m * 10) - (((sbt s k : Nat) : Int) - 48))))) rfl rfl rfl) rfl rfl rfl ?_; clear hf fa; intro fa hf
          refine sqv hf (r_assign rfl) rfl rfl rfl ?_; clear hf fa; intro fa hf
          apply wpList_nil
          (try simp only [Exit.then, Exit.inBlock, ↓reduceIte, Nat.reduceEqDiff])
          refine hK7 _ _ ?_
          refine wp_region_lit ?_
          refine sqv hf (r_move rfl) rfl rfl rfl ?_; clear hf fa; intro fa hf
          refine sqv hf (r_add (C := (((k : Nat) : Int) + (1 : Int))) rfl rfl (by rw [IntKind.wrap_i64]; omega)) rfl rfl rfl ?_; clear hf fa; intro fa hf
          refine sqv hf (r_assign rfl) rfl rfl rfl ?_; clear hf fa; intro fa hf
          apply wpList_nil
          (try simp only [Exit.then, Exit.inBlock, ↓reduceIte, Nat.reduceEqDiff])
          refine hKL1 _ _ _ (by omega) ⟨(k + 1), (wr64 (wr64 (m * 10) - (((sbt s k : Nat) : Int) - 48))), rfl, hf.sub ⟨rfl, (some_int (by first | rfl | omega)), rfl, (some_int (by first | rfl | omega)), trivial⟩, hb, by omega, by omega, (by rw [bl_take (by omega), accR_snoc, if_pos (by omega), ← hm]), wr64_in _⟩
        · have hqt34_1b := hqt34_1
          replace hqt34_1 := Bool.eq_false_iff.1 hqt34_1
          try simp only [ne_eq, decide_eq_true_eq, Bool.and_eq_true, Bool.or_eq_true, Bool.not_eq_true', decide_eq_false_iff_not] at hqt34_1
          refine wp_skip ?_
          (try simp only [Exit.then, Exit.inBlock, ↓reduceIte, Nat.reduceEqDiff])
          refine hK7 _ _ ?_
          refine wp_region_lit ?_
          refine sqv hf (r_move rfl) rfl rfl rfl ?_; clear hf fa; intro fa hf
          refine sqv hf (r_add (C := (((k : Nat) : Int) + (1 : Int))) rfl rfl (by rw [IntKind.wrap_i64]; omega)) rfl rfl rfl ?_; clear hf fa; intro fa hf
          refine sqv hf (r_assign rfl) rfl rfl rfl ?_; clear hf fa; intro fa hf
          apply wpList_nil
          (try simp only [Exit.then, Exit.inBlock, ↓reduceIte, Nat.reduceEqDiff])
          refine hKL1 _ _ _ (by omega) ⟨(k + 1), m, rfl, hf.sub ⟨rfl, rfl, rfl, (some_int (by first | rfl | omega)), trivial⟩, hb, by omega, by omega, (by rw [bl_take (by omega), accR_snoc, if_neg (by omega), ← hm]), hin⟩
      · have hqt22_1b := hqt22_1
        replace hqt22_1 := Bool.eq_false_iff.1 hqt22_1
        try simp only [ne_eq, decide_eq_true_eq, Bool.and_eq_true, Bool.or_eq_true, Bool.not_eq_true', decide_eq_false_iff_not] at hqt22_1
        refine wp_exit ?_
        (try simp only [Exit.then, Exit.inBlock, ↓reduceIte, Nat.reduceEqDiff])
        refine hK3 _ _ ?_
        refine wp_seq_k (fun K9 hK9 => ?_)
        refine wp_seq_k (fun K10 hK10 => ?_)
        refine wp_region_lit ?_
        refine sqv hf (r_move rfl) rfl rfl rfl ?_; clear hf fa; intro fa hf
        refine sqv hf (r_not rfl) rfl rfl rfl ?_; clear hf fa; intro fa hf
        apply wpList_nil
        (try simp only [Exit.then, Exit.inBlock, ↓reduceIte, Nat.reduceEqDiff])
        refine hK10 _ _ ?_
        refine wp_cond_split (t := (!lo)) (hf.ev rfl) (fun hqt44_1 => ?_) (fun hqt44_1 => ?_)
        · have hqt44_1b := hqt44_1
          try simp only [decide_eq_true_eq, Bool.and_eq_true, Bool.or_eq_true, Bool.not_eq_true', decide_eq_false_iff_not, ne_eq, Bool.not_eq_true] at hqt44_1
          refine wp_region_lit ?_
          refine sqv hf (r_move rfl) rfl rfl rfl ?_; clear hf fa; intro fa hf
          refine sqv hf (r_neg (C := ((IntKind.wrap .i64 (-m)))) rfl (by rw [Int.zero_sub])) rfl rfl rfl ?_; clear hf fa; intro fa hf
          refine sqv hf (r_assign rfl) rfl rfl rfl ?_; clear hf fa; intro fa hf
          apply wpList_nil
          (try simp only [Exit.then, Exit.inBlock, ↓reduceIte, Nat.reduceEqDiff])
          refine hK9 _ _ ?_
          refine wp_seq_k (fun K11 hK11 => ?_)
          refine wp_seq_k (fun K12 hK12 => ?_)
          refine wp_region_lit ?_
          refine sqv hf (r_move rfl) rfl rfl rfl ?_; clear hf fa; intro fa hf
          refine sqdt hf (d_callB (vs := [(.int .i64 ((IntKind.wrap .i64 (-m))))]) rfl Try.func33 (by kernel_rfl) (by kernel_rfl) (rdigits_any (IntKind.wrap .i64 (-m)) _ (wr64_in _))) rfl rfl rfl ?_; clear hf fa; rintro fa _ w3 ⟨rfl, he2⟩ hf
          replace hb := hb.trans (Below.mono he2 hb.size)
          refine sqv hf (r_move rfl) rfl rfl rfl ?_; clear hf fa; intro fa hf
          refine sqv hf (r_sne rfl rfl) rfl rfl rfl ?_; clear hf fa; intro fa hf
          apply wpList_nil
          (try simp only [Exit.then, Exit.inBlock, ↓reduceIte, Nat.reduceEqDiff])
          refine hK12 _ _ ?_
          refine wp_cond_split (t := (decide ((dS (IntKind.wrap .i64 (-m))) ≠ s))) (hf.ev rfl) (fun hqt50_1 => ?_) (fun hqt50_1 => ?_)
          · have hqt50_1b := hqt50_1
            try simp only [decide_eq_true_eq, Bool.and_eq_true, Bool.or_eq_true, Bool.not_eq_true', decide_eq_false_iff_not, ne_eq, Bool.not_eq_true] at hqt50_1
            refine wp_seq_k (fun K13 hK13 => ?_)
            refine wp_region_lit ?_
            refine sqv hf (r_assign rfl) rfl rfl rfl ?_; clear hf fa; intro fa hf
            refine sqv hf (r_assign rfl) rfl rfl rfl ?_; clear hf fa; intro fa hf
            apply wpList_nil
            (try simp only [Exit.then, Exit.inBlock, ↓reduceIte, Nat.reduceEqDiff])
            refine hK13 _ _ ?_
            refine wp_ret ?_
            (try simp only [Exit.then, Exit.inBlock])
            refine ret2 hf rfl rfl rfl ?_
            have hmf : m = accR wr64 ((bl s).take 20) 0 := by rw [hm]; congr 1; rcases Nat.lt_or_ge k 20 with h | h; rw [List.take_of_length_le (by rw [bl_length]; have h2 := hqt22_1; omega), List.take_of_length_le (by rw [bl_length]; have h2 := hqt22_1; omega)]; rw [show k = 20 by omega]
            rw [numR_out (s := s) (m := (IntKind.wrap .i64 (-m))) (by rw [if_neg (by have h := hqt44_1; simpa [← hlo] using h), ← hmf])]
            rw [if_neg hqt50_1]; exact ⟨rfl, hb⟩
          · have hqt50_1b := hqt50_1
            replace hqt50_1 := Bool.eq_false_iff.1 hqt50_1
            try simp only [ne_eq, decide_eq_true_eq, Bool.and_eq_true, Bool.or_eq_true, Bool.not_eq_true', decide_eq_false_iff_not] at hqt50_1
            refine wp_skip ?_
            (try simp only [Exit.then, Exit.inBlock, ↓reduceIte, Nat.reduceEqDiff])
            refine hK11 _ _ ?_
            refine wp_seq_k (fun K14 hK14 => ?_)
            refine wp_region_lit ?_
            refine sqv hf (r_move rfl) rfl rfl rfl ?_; clear hf fa; intro fa hf
            refine sqv hf (r_assign rfl) rfl rfl rfl ?_; clear hf fa; intro fa hf
            refine sqv hf (r_assign rfl) rfl rfl rfl ?_; clear hf fa; intro fa hf
            apply wpList_nil
            (try simp only [Exit.then, Exit.inBlock, ↓reduceIte, Nat.reduceEqDiff])
            refine hK14 _ _ ?_
            refine wp_ret ?_
            (try simp only [Exit.then, Exit.inBlock])
            refine ret2 hf rfl rfl rfl ?_
            have hmf : m = accR wr64 ((bl s).take 20) 0 := by rw [hm]; congr 1; rcases Nat.lt_or_ge k 20 with h | h; rw [List.take_of_length_le (by rw [bl_length]; have h2 := hqt22_1; omega), List.take_of_length_le (by rw [bl_length]; have h2 := hqt22_1; omega)]; rw [show k = 20 by omega]
            rw [numR_out (s := s) (m := (IntKind.wrap .i64 (-m))) (by rw [if_neg (by have h := hqt44_1; simpa [← hlo] using h), ← hmf])]
            rw [if_pos (Classical.byContradiction hqt50_1)]; exact ⟨rfl, hb⟩
        · have hqt44_1b := hqt44_1
          replace hqt44_1 := Bool.eq_false_iff.1 hqt44_1
          try simp only [ne_eq, decide_eq_true_eq, Bool.and_eq_true, Bool.or_eq_true, Bool.not_eq_true', decide_eq_false_iff_not] at hqt44_1
          refine wp_skip ?_
          (try simp only [Exit.then, Exit.inBlock, ↓reduceIte, Nat.reduceEqDiff])
          refine hK9 _ _ ?_
          refine wp_seq_k (fun K15 hK15 => ?_)
          refine wp_seq_k (fun K16 hK16 => ?_)
          refine wp_region_lit ?_
          refine sqv hf (r_move rfl) rfl rfl rfl ?_; clear hf fa; intro fa hf
          refine sqdt hf (d_callB (vs := [(.int .i64 m)]) rfl Try.func33 (by kernel_rfl) (by kernel_rfl) (rdigits_any m _ hin)) rfl rfl rfl ?_; clear hf fa; rintro fa _ w4 ⟨rfl, he3⟩ hf
          replace hb := hb.trans (Below.mono he3 hb.size)
          refine sqv hf (r_move rfl) rfl rfl rfl ?_; clear hf fa; intro fa hf
          refine sqv hf (r_sne rfl rfl) rfl rfl rfl ?_; clear hf fa; intro fa hf
          apply wpList_nil
          (try simp only [Exit.then, Exit.inBlock, ↓reduceIte, Nat.reduceEqDiff])
          refine hK16 _ _ ?_
          refine wp_cond_split (t := (decide ((dS m) ≠ s))) (hf.ev rfl) (fun hqt50_2 => ?_) (fun hqt50_2 => ?_)
          · have hqt50_2b := hqt50_2
            try simp only [decide_eq_true_eq, Bool.and_eq_true, Bool.or_eq_true, Bool.not_eq_true', decide_eq_false_iff_not, ne_eq, Bool.not_eq_true] at hqt50_2
            refine wp_seq_k (fun K17 hK17 => ?_)
            refine wp_region_lit ?_
            refine sqv hf (r_assign rfl) rfl rfl rfl ?_; clear hf fa; intro fa hf
            refine sqv hf (r_assign rfl) rfl rfl rfl ?_; clear hf fa; intro fa hf
            apply wpList_nil
            (try simp only [Exit.then, Exit.inBlock, ↓reduceIte, Nat.reduceEqDiff])
            refine hK17 _ _ ?_
            refine wp_ret ?_
            (try simp only [Exit.then, Exit.inBlock])
            refine ret2 hf rfl rfl rfl ?_
            have hmf : m = accR wr64 ((bl s).take 20) 0 := by rw [hm]; congr 1; rcases Nat.lt_or_ge k 20 with h | h; rw [List.take_of_length_le (by rw [bl_length]; have h2 := hqt22_1; omega), List.take_of_length_le (by rw [bl_length]; have h2 := hqt22_1; omega)]; rw [show k = 20 by omega]
            rw [numR_out (s := s) (m := m) (by rw [if_pos (by have h := hqt44_1; simpa [← hlo] using h), ← hmf])]
            rw [if_neg hqt50_2]; exact ⟨rfl, hb⟩
          · have hqt50_2b := hqt50_2
            replace hqt50_2 := Bool.eq_false_iff.1 hqt50_2
            try simp only [ne_eq, decide_eq_true_eq, Bool.and_eq_true, Bool.or_eq_true, Bool.not_eq_true', decide_eq_false_iff_not] at hqt50_2
            refine wp_skip ?_
            (try simp only [Exit.then, Exit.inBlock, ↓reduceIte, Nat.reduceEqDiff])
            refine hK15 _ _ ?_
            refine wp_seq_k (fun K18 hK18 => ?_)
            refine wp_region_lit ?_
            refine sqv hf (r_move rfl) rfl rfl rfl ?_; clear hf fa; intro fa hf
            refine sqv hf (r_assign rfl) rfl rfl rfl ?_; clear hf fa; intro fa hf
            refine sqv hf (r_assign rfl) rfl rfl rfl ?_; clear hf fa; intro fa hf
            apply wpList_nil
            (try simp only [Exit.then, Exit.inBlock, ↓reduceIte, Nat.reduceEqDiff])
            refine hK18 _ _ ?_
            refine wp_ret ?_
            (try simp only [Exit.then, Exit.inBlock])
            refine ret2 hf rfl rfl rfl ?_
            have hmf : m = accR wr64 ((bl s).take 20) 0 := by rw [hm]; congr 1; rcases Nat.lt_or_ge k 20 with h | h; rw [List.take_of_length_le (by rw [bl_length]; have h2 := hqt22_1; omega), List.take_of_length_le (by rw [bl_length]; have h2 := hqt22_1; omega)]; rw [show k = 20 by omega]
            rw [numR_out (s := s) (m := m) (by rw [if_pos (by have h := hqt44_1; simpa [← hlo] using h), ← hmf])]
            rw [if_pos (Classical.byContradiction hqt50_2)]; exact ⟨rfl, hb⟩
end Go.Proofs.Ytpalmpfkliepfaa

namespace Go.Proofs.Ytpalmpfkliepfaa
open Go.Shelf Go.RowKit
def sh_lays167_ren : Go.Shelf.Ren := ⟨fun | 167 => 68 | 240 => 89 | 276 => 104 | n => n, fun | 0 => 0 | 4 => 4 | 5 => 5 | 9 => 9 | 20 => 20 | 37 => 43 | 70 => 125 | 72 => 127 | 75 => 129 | 80 => 47 | 164 => 152 | n => n, fun | n => n⟩
theorem sh_lays167 : Go.Proofs.Lays.n167 Try.prog sh_lays167_ren := {
  mixed := by kernel_rfl
  f167 := Try.func68.trans (congrArg some (by kernel_rfl))
  f240 := Try.func89.trans (congrArg some (by kernel_rfl))
  f276 := Try.func104.trans (congrArg some (by kernel_rfl))
  t0 := Try.underlying0
  a0 := Try.isAgg0
  z0 := Try.sizeOf0
  v0 := Try.zeroValue0
  t4 := Try.underlying4
  a4 := Try.isAgg4
  z4 := Try.sizeOf4
  v4 := Try.zeroValue4
  t5 := Try.underlying5
  a5 := Try.isAgg5
  z5 := Try.sizeOf5
  v5 := Try.zeroValue5
  t9 := Try.underlying9
  a9 := Try.isAgg9
  z9 := Try.sizeOf9
  v9 := Try.zeroValue9
  t20 := Try.underlying20
  a20 := Try.isAgg20
  z20 := Try.sizeOf20
  v20 := Try.zeroValue20
  t37 := Try.underlying43
  a37 := Try.isAgg43
  z37 := Try.sizeOf43
  v37 := Try.zeroValue43
  t70 := Try.underlying125
  a70 := Try.isAgg125
  z70 := Try.sizeOf125
  v70 := Try.zeroValue125
  t72 := Try.underlying127
  a72 := Try.isAgg127
  z72 := Try.sizeOf127
  v72 := Try.zeroValue127
  t75 := Try.underlying129
  a75 := Try.isAgg129
  z75 := Try.sizeOf129
  v75 := Try.zeroValue129
  t164 := Try.underlying152
  a164 := Try.isAgg152
  z164 := Try.sizeOf152
  v164 := Try.zeroValue152 }
theorem sh_Builder_Extra_167 : Builder.Extra Try.prog sh_lays167_ren := {
  sizeBuilder := by kernel_rfl
  liesBuilder := by kernel_rfl
  t5 := Try.underlying5
  a5 := Try.isAgg5
  z5 := Try.sizeOf5
  v5 := Try.zeroValue5
  infoByte := by kernel_rfl
  cellsByte := by kernel_rfl
  sizeByte := by kernel_rfl
  neB5 := by decide }
theorem sh_Builder_WriteByte (B b : Nat) (bs : List Value) (c : Int) (w : World) (h : Lib.IsBuilder 127 5 B b bs w) (hlen : bs.length + 1 ≤ 140737488355328) (hBw : B ≤ w.heap.size) :
    Calls Try.prog 68 #[.pointer (some ⟨b, 0, none⟩), .int .u8 c] w fun e w' => e = .returned .nilIface ∧ (Lib.BuilderAt 127 5 B b (.pointer (some ⟨b, 0, none⟩)) (bs ++ [.int .u8 c]) w' ∧ Below B w w') := Any.Builder_WriteByte sh_lays167 sh_Builder_Extra_167 B b bs c w h hlen hBw
end Go.Proofs.Ytpalmpfkliepfaa

namespace Go.Proofs.Ytpalmpfkliepfaa
open Go.RowKit Ut
set_option linter.unusedVariables false
set_option linter.unusedSimpArgs false

theorem contains_any (s : ByteArray) (c : UInt8) (w : World) : Calls Try.prog 55 #[.string s, .string ⟨#[c]⟩] w fun e w' => e = .returned (.bool (decide (posB s c.toNat < s.size))) ∧ w = w' := by
  refine (sh_strings_Contains_one s c w).mono fun e w' h => ⟨?_, h.2.symm⟩
  rw [h.1, indexByte_eq]
  congr 3
  unfold posB bl
  show _ = ((s.data.toList.map UInt8.toNat).idxOf c.toNat < s.data.size)
  rw [Array.length_toList]
  split
  · rename_i h; simp; exact h
  · rename_i h; simp; exact Nat.le_of_not_lt h
/-- A builder that holds these bytes. -/
def BlT (B b : Nat) (l : List Int) (w : World) : Prop := Lib.IsBuilder 127 5 B b (l.map (Value.int .u8)) w
theorem BlT.new {B b : Nat} {w : World} (hB : B ≤ b) (h : w.heap[b]? = some (.cells #[.pointer none, .slice none 0 0] 127 (0, 0))) : BlT B b [] w :=
  .inl ⟨hB, _, h, World.ownsRow_nil _ _ _ _, by intro e; cases e⟩
theorem bwrite_any (B b : Nat) (l : List Int) (c : Int) (w : World) (h : BlT B b l w) (hl : l.length < 100000000) (hB : B ≤ w.heap.size) : Calls Try.prog 68 #[.pointer (some ⟨b, 0, none⟩), .int .u8 c] w fun e w' => e = .returned .nilIface ∧ BlT B b (l ++ [c]) w' ∧ Below B w w' := by
  refine (sh_Builder_WriteByte B b _ c w h (by rw [List.length_map]; omega) hB).mono fun e w' h => ⟨h.1, ?_, h.2.2⟩
  unfold BlT
  rw [List.map_append]
  exact .inr h.2.1
theorem bstring_any (B b : Nat) (l : List Int) (w : World) (h : BlT B b l w) (hl : ∀ x ∈ l, 0 ≤ x ∧ x < 256) (hB : B ≤ w.heap.size) : Calls Try.prog 69 #[.pointer (some ⟨b, 0, none⟩)] w fun e w' => e = .returned (.string (strOfNums l)) ∧ Below B w w' := by
  refine sh_Builder_String_any B b (l.map fun n => UInt8.ofNat n.toNat) w ?_ hB
  unfold BlT at h
  rw [show Lib.byteCells (l.map fun n => UInt8.ofNat n.toNat) = l.map (Value.int .u8) from ?_]
  · exact h
  · unfold Lib.byteCells
    rw [List.map_map]
    apply List.map_congr_left
    intro x hx
    have := hl x hx
    simp
    omega
end Go.Proofs.Ytpalmpfkliepfaa

namespace Go.Proofs.Ytpalmpfkliepfaa
open Go.RowKit
set_option linter.unusedVariables false
set_option linter.unusedSimpArgs false
def tvalP (b : Int) : Int :=
  bif (decide (b = (127 : Int))) then (0 : Int)
  else bif (decide (b = (126 : Int))) then (0 : Int)
  else bif (decide (b = (125 : Int))) then (8 : Int)
  else bif (decide (b = (124 : Int))) then (8 : Int)
  else (7 : Int)

set_option maxHeartbeats 1000000 in
set_option maxRecDepth 100000 in
theorem tval_any (b : Int) (w : World)  : Calls Try.prog 85 #[(.int .u8 b)] w fun e w' => e = .returned (.int .i64 ((tvalP b))) ∧ w = w' := by
  refine sx_enter (L := [(0, (.int .u8 b))]) Try.func85 rfl rfl rfl rfl (fun fa hf => ?_)
  have hb : Below w.heap.size w w := Below.refl _ _
  refine wp_seq_k (fun K1 hK1 => ?_)
  refine wp_region_lit ?_
  refine sqv hf (r_assign rfl) rfl rfl rfl ?_; clear hf fa; intro fa hf
  apply wpList_nil
  (try simp only [Exit.then, Exit.inBlock, ↓reduceIte, Nat.reduceEqDiff])
  refine hK1 _ _ ?_
  refine wp_seq_k (fun K2 hK2 => ?_)
  refine wp_seq_k (fun K3 hK3 => ?_)
  refine wp_region_lit ?_
  refine sqv hf (r_move rfl) rfl rfl rfl ?_; clear hf fa; intro fa hf
  apply wpList_nil
  (try simp only [Exit.then, Exit.inBlock, ↓reduceIte, Nat.reduceEqDiff])
  refine hK3 _ _ ?_
  refine wp_block ?_
  refine wp_seq_k (fun K4 hK4 => ?_)
  refine wp_seq_k (fun K5 hK5 => ?_)
  refine wp_region_lit ?_
  refine sqv hf (r_eq rfl rfl) rfl rfl rfl ?_; clear hf fa; intro fa hf
  refine sqv hf (r_assign rfl) rfl rfl rfl ?_; clear hf fa; intro fa hf
  apply wpList_nil
  (try simp only [Exit.then, Exit.inBlock, ↓reduceIte, Nat.reduceEqDiff])
  refine hK5 _ _ ?_
  refine wp_cond_split (t := (decide (b = (127 : Int)))) (hf.ev rfl) (fun hqt4_1 => ?_) (fun hqt4_1 => ?_)
  · have hqt4_1b := hqt4_1
    try simp only [decide_eq_true_eq, Bool.and_eq_true, Bool.or_eq_true, Bool.not_eq_true', decide_eq_false_iff_not, ne_eq, Bool.not_eq_true] at hqt4_1
    refine wp_skip ?_
    (try simp only [Exit.then, Exit.inBlock, ↓reduceIte, Nat.reduceEqDiff])
    refine hK4 _ _ ?_
    refine wp_cond_true ((hf.ev rfl).trans (congrArg Value.bool (show (decide (b = (127 : Int))) = true from hqt4_1b))) ?_
    refine wp_seq_k (fun K6 hK6 => ?_)
    refine wp_region_lit ?_
    refine sqv hf (r_assign rfl) rfl rfl rfl ?_; clear hf fa; intro fa hf
    apply wpList_nil
    (try simp only [Exit.then, Exit.inBlock, ↓reduceIte, Nat.reduceEqDiff])
    refine hK6 _ _ ?_
    refine wp_ret ?_
    (try simp only [Exit.then, Exit.inBlock])
    refine ret1 hf rfl rfl ?_
    refine ⟨?_, rfl⟩; unfold tvalP; rw [hqt4_1b]; (try rfl)
  · have hqt4_1b := hqt4_1
    replace hqt4_1 := Bool.eq_false_iff.1 hqt4_1
    try simp only [ne_eq, decide_eq_true_eq, Bool.and_eq_true, Bool.or_eq_true, Bool.not_eq_true', decide_eq_false_iff_not] at hqt4_1
    refine wp_region_lit ?_
    refine sqv hf (r_eq rfl rfl) rfl rfl rfl ?_; clear hf fa; intro fa hf
    refine sqv hf (r_assign rfl) rfl rfl rfl ?_; clear hf fa; intro fa hf
    apply wpList_nil
    (try simp only [Exit.then, Exit.inBlock, ↓reduceIte, Nat.reduceEqDiff])
    refine hK4 _ _ ?_
    refine wp_cond_split (t := (decide (b = (126 : Int)))) (hf.ev rfl) (fun hqt4_3 => ?_) (fun hqt4_3 => ?_)
    · have hqt4_3b := hqt4_3
      try simp only [decide_eq_true_eq, Bool.and_eq_true, Bool.or_eq_true, Bool.not_eq_true', decide_eq_false_iff_not, ne_eq, Bool.not_eq_true] at hqt4_3
      refine wp_seq_k (fun K7 hK7 => ?_)
      refine wp_region_lit ?_
      refine sqv hf (r_assign rfl) rfl rfl rfl ?_; clear hf fa; intro fa hf
      apply wpList_nil
      (try simp only [Exit.then, Exit.inBlock, ↓reduceIte, Nat.reduceEqDiff])
      refine hK7 _ _ ?_
      refine wp_ret ?_
      (try simp only [Exit.then, Exit.inBlock])
      refine ret1 hf rfl rfl ?_
      refine ⟨?_, rfl⟩; unfold tvalP; rw [hqt4_1b, hqt4_3b]; (try rfl)
    · have hqt4_3b := hqt4_3
      replace hqt4_3 := Bool.eq_false_iff.1 hqt4_3
      try simp only [ne_eq, decide_eq_true_eq, Bool.and_eq_true, Bool.or_eq_true, Bool.not_eq_true', decide_eq_false_iff_not] at hqt4_3
      refine wp_seq_k (fun K8 hK8 => ?_)
      refine wp_seq_k (fun K9 hK9 => ?_)
      refine wp_region_lit ?_
      refine sqv hf (r_eq rfl rfl) rfl rfl rfl ?_; clear hf fa; intro fa hf
      refine sqv hf (r_assign rfl) rfl rfl rfl ?_; clear hf fa; intro fa hf
      apply wpList_nil
      (try simp only [Exit.then, Exit.inBlock, ↓reduceIte, Nat.reduceEqDiff])
      refine hK9 _ _ ?_
      refine wp_cond_split (t := (decide (b = (125 : Int)))) (hf.ev rfl) (fun hqt7_1 => ?_) (fun hqt7_1 => ?_)
      · have hqt7_1b := hqt7_1
        try simp only [decide_eq_true_eq, Bool.and_eq_true, Bool.or_eq_true, Bool.not_eq_true', decide_eq_false_iff_not, ne_eq, Bool.not_eq_true] at hqt7_1
        refine wp_skip ?_
        (try simp only [Exit.then, Exit.inBlock, ↓reduceIte, Nat.reduceEqDiff])
        refine hK8 _ _ ?_
        refine wp_cond_true ((hf.ev rfl).trans (congrArg Value.bool (show (decide (b = (125 : Int))) = true from hqt7_1b))) ?_
        refine wp_seq_k (fun K10 hK10 => ?_)
        refine wp_region_lit ?_
        refine sqv hf (r_assign rfl) rfl rfl rfl ?_; clear hf fa; intro fa hf
        apply wpList_nil
        (try simp only [Exit.then, Exit.inBlock, ↓reduceIte, Nat.reduceEqDiff])
        refine hK10 _ _ ?_
        refine wp_ret ?_
        (try simp only [Exit.then, Exit.inBlock])
        refine ret1 hf rfl rfl ?_
        refine ⟨?_, rfl⟩; unfold tvalP; rw [hqt4_1b, hqt4_3b, hqt7_1b]; (try rfl)
      · have hqt7_1b := hqt7_1
        replace hqt7_1 := Bool.eq_false_iff.1 hqt7_1
        try simp only [ne_eq, decide_eq_true_eq, Bool.and_eq_true, Bool.or_eq_true, Bool.not_eq_true', decide_eq_false_iff_not] at hqt7_1
        refine wp_region_lit ?_
        refine sqv hf (r_eq rfl rfl) rfl rfl rfl ?_; clear hf fa; intro fa hf
        refine sqv hf (r_assign rfl) rfl rfl rfl ?_; clear hf fa; intro fa hf
        apply wpList_nil
        (try simp only [Exit.then, Exit.inBlock, ↓reduceIte, Nat.reduceEqDiff])
        refine hK8 _ _ ?_
        refine wp_cond_split (t := (decide (b = (124 : Int)))) (hf.ev rfl) (fun hqt7_3 => ?_) (fun hqt7_3 => ?_)
        · have hqt7_3b := hqt7_3
          try simp only [decide_eq_true_eq, Bool.and_eq_true, Bool.or_eq_true, Bool.not_eq_true', decide_eq_false_iff_not, ne_eq, Bool.not_eq_true] at hqt7_3
          refine wp_seq_k (fun K11 hK11 => ?_)
          refine wp_region_lit ?_
          refine sqv hf (r_assign rfl) rfl rfl rfl ?_; clear hf fa; intro fa hf
          apply wpList_nil
          (try simp only [Exit.then, Exit.inBlock, ↓reduceIte, Nat.reduceEqDiff])
          refine hK11 _ _ ?_
          refine wp_ret ?_
          (try simp only [Exit.then, Exit.inBlock])
          refine ret1 hf rfl rfl ?_
          refine ⟨?_, rfl⟩; unfold tvalP; rw [hqt4_1b, hqt4_3b, hqt7_1b, hqt7_3b]; (try rfl)
        · have hqt7_3b := hqt7_3
          replace hqt7_3 := Bool.eq_false_iff.1 hqt7_3
          try simp only [ne_eq, decide_eq_true_eq, Bool.and_eq_true, Bool.or_eq_true, Bool.not_eq_true', decide_eq_false_iff_not] at hqt7_3
          refine wp_skip ?_
          (try simp only [Exit.then, Exit.inBlock, ↓reduceIte, Nat.reduceEqDiff])
          refine hK2 _ _ ?_
          refine wp_seq_k (fun K12 hK12 => ?_)
          refine wp_region_lit ?_
          refine sqv hf (r_assign rfl) rfl rfl rfl ?_; clear hf fa; intro fa hf
          apply wpList_nil
          (try simp only [Exit.then, Exit.inBlock, ↓reduceIte, Nat.reduceEqDiff])
          refine hK12 _ _ ?_
          refine wp_ret ?_
          (try simp only [Exit.then, Exit.inBlock])
          refine ret1 hf rfl rfl ?_
          refine ⟨?_, rfl⟩; unfold tvalP; rw [hqt4_1b, hqt4_3b, hqt7_1b, hqt7_3b]; (try rfl)

def tnameP (b : Int) : ByteArray :=
  bif (decide (b = (127 : Int))) then ⟨#[105, 51, 50]⟩
  else bif (decide (b = (126 : Int))) then ⟨#[105, 54, 52]⟩
  else bif (decide (b = (125 : Int))) then ⟨#[102, 51, 50]⟩
  else bif (decide (b = (124 : Int))) then ⟨#[102, 54, 52]⟩
  else bif (decide (b = (112 : Int))) then ⟨#[102, 117, 110, 99, 114, 101, 102]⟩
  else ⟨#[63]⟩

set_option maxHeartbeats 1000000 in
set_option maxRecDepth 100000 in
theorem tname_any (b : Int) (w : World)  : Calls Try.prog 70 #[(.int .u8 b)] w fun e w' => e = .returned (.string (tnameP b)) ∧ w = w' := by
  refine sx_enter (L := [(0, (.int .u8 b))]) Try.func70 rfl rfl rfl rfl (fun fa hf => ?_)
  have hb : Below w.heap.size w w := Below.refl _ _
  refine wp_seq_k (fun K1 hK1 => ?_)
  refine wp_region_lit ?_
  refine sqv hf (r_assign rfl) rfl rfl rfl ?_; clear hf fa; intro fa hf
  apply wpList_nil
  (try simp only [Exit.then, Exit.inBlock, ↓reduceIte, Nat.reduceEqDiff])
  refine hK1 _ _ ?_
  refine wp_seq_k (fun K2 hK2 => ?_)
  refine wp_seq_k (fun K3 hK3 => ?_)
  refine wp_region_lit ?_
  refine sqv hf (r_move rfl) rfl rfl rfl ?_; clear hf fa; intro fa hf
  apply wpList_nil
  (try simp only [Exit.then, Exit.inBlock, ↓reduceIte, Nat.reduceEqDiff])
  refine hK3 _ _ ?_
  refine wp_block ?_
  refine wp_seq_k (fun K4 hK4 => ?_)
  refine wp_region_lit ?_
  refine sqv hf (r_eq rfl rfl) rfl rfl rfl ?_; clear hf fa; intro fa hf
  refine sqv hf (r_assign rfl) rfl rfl rfl ?_; clear hf fa; intro fa hf
  apply wpList_nil
  (try simp only [Exit.then, Exit.inBlock, ↓reduceIte, Nat.reduceEqDiff])
  refine hK4 _ _ ?_
  refine wp_cond_split (t := (decide (b = (127 : Int)))) (hf.ev rfl) (fun hqt4_1 => ?_) (fun hqt4_1 => ?_)
  · have hqt4_1b := hqt4_1
    try simp only [decide_eq_true_eq, Bool.and_eq_true, Bool.or_eq_true, Bool.not_eq_true', decide_eq_false_iff_not, ne_eq, Bool.not_eq_true] at hqt4_1
    refine wp_seq_k (fun K5 hK5 => ?_)
    refine wp_region_lit ?_
    refine sqv hf (r_assign rfl) rfl rfl rfl ?_; clear hf fa; intro fa hf
    apply wpList_nil
    (try simp only [Exit.then, Exit.inBlock, ↓reduceIte, Nat.reduceEqDiff])
    refine hK5 _ _ ?_
    refine wp_ret ?_
    (try simp only [Exit.then, Exit.inBlock])
    refine ret1 hf rfl rfl ?_
    refine ⟨?_, rfl⟩; unfold tnameP; rw [hqt4_1b]; (try rfl)
  · have hqt4_1b := hqt4_1
    replace hqt4_1 := Bool.eq_false_iff.1 hqt4_1
    try simp only [ne_eq, decide_eq_true_eq, Bool.and_eq_true, Bool.or_eq_true, Bool.not_eq_true', decide_eq_false_iff_not] at hqt4_1
    refine wp_seq_k (fun K6 hK6 => ?_)
    refine wp_region_lit ?_
    refine sqv hf (r_eq rfl rfl) rfl rfl rfl ?_; clear hf fa; intro fa hf
    refine sqv hf (r_assign rfl) rfl rfl rfl ?_; clear hf fa; intro fa hf
    apply wpList_nil
    (try simp only [Exit.then, Exit.inBlock, ↓reduceIte, Nat.reduceEqDiff])
    refine hK6 _ _ ?_
    refine wp_cond_split (t := (decide (b = (126 : Int)))) (hf.ev rfl) (fun hqt6_1 => ?_) (fun hqt6_1 => ?_)
    · have hqt6_1b := hqt6_1
      try simp only [decide_eq_true_eq, Bool.and_eq_true, Bool.or_eq_true, Bool.not_eq_true', decide_eq_false_iff_not, ne_eq, Bool.not_eq_true] at hqt6_1
      refine wp_seq_k (fun K7 hK7 => ?_)
      refine wp_region_lit ?_
      refine sqv hf (r_assign rfl) rfl rfl rfl ?_; clear hf fa; intro fa hf
      apply wpList_nil
      (try simp only [Exit.then, Exit.inBlock, ↓reduceIte, Nat.reduceEqDiff])
      refine hK7 _ _ ?_
      refine wp_ret ?_
      (try simp only [Exit.then, Exit.inBlock])
      refine ret1 hf rfl rfl ?_
      refine ⟨?_, rfl⟩; unfold tnameP; rw [hqt4_1b, hqt6_1b]; (try rfl)
    · have hqt6_1b := hqt6_1
      replace hqt6_1 := Bool.eq_false_iff.1 hqt6_1
      try simp only [ne_eq, decide_eq_true_eq, Bool.and_eq_true, Bool.or_eq_true, Bool.not_eq_true', decide_eq_false_iff_not] at hqt6_1
      refine wp_seq_k (fun K8 hK8 => ?_)
      refine wp_region_lit ?_
      refine sqv hf (r_eq rfl rfl) rfl rfl rfl ?_; clear hf fa; intro fa hf
      refine sqv hf (r_assign rfl) rfl rfl rfl ?_; clear hf fa; intro fa hf
      apply wpList_nil
      (try simp only [Exit.then, Exit.inBlock, ↓reduceIte, Nat.reduceEqDiff])
      refine hK8 _ _ ?_
      refine wp_cond_split (t := (decide (b = (125 : Int)))) (hf.ev rfl) (fun hqt8_1 => ?_) (fun hqt8_1 => ?_)
      · have hqt8_1b := hqt8_1
        try simp only [decide_eq_true_eq, Bool.and_eq_true, Bool.or_eq_true, Bool.not_eq_true', decide_eq_false_iff_not, ne_eq, Bool.not_eq_true] at hqt8_1
        refine wp_seq_k (fun K9 hK9 => ?_)
        refine wp_region_lit ?_
        refine sqv hf (r_assign rfl) rfl rfl rfl ?_; clear hf fa; intro fa hf
        apply wpList_nil
        (try simp only [Exit.then, Exit.inBlock, ↓reduceIte, Nat.reduceEqDiff])
        refine hK9 _ _ ?_
        refine wp_ret ?_
        (try simp only [Exit.then, Exit.inBlock])
        refine ret1 hf rfl rfl ?_
        refine ⟨?_, rfl⟩; unfold tnameP; rw [hqt4_1b, hqt6_1b, hqt8_1b]; (try rfl)
      · have hqt8_1b := hqt8_1
        replace hqt8_1 := Bool.eq_false_iff.1 hqt8_1
        try simp only [ne_eq, decide_eq_true_eq, Bool.and_eq_true, Bool.or_eq_true, Bool.not_eq_true', decide_eq_false_iff_not] at hqt8_1
        refine wp_seq_k (fun K10 hK10 => ?_)
        refine wp_region_lit ?_
        refine sqv hf (r_eq rfl rfl) rfl rfl rfl ?_; clear hf fa; intro fa hf
        refine sqv hf (r_assign rfl) rfl rfl rfl ?_; clear hf fa; intro fa hf
        apply wpList_nil
        (try simp only [Exit.then, Exit.inBlock, ↓reduceIte, Nat.reduceEqDiff])
        refine hK10 _ _ ?_
        refine wp_cond_split (t := (decide (b = (124 : Int)))) (hf.ev rfl) (fun hqt10_1 => ?_) (fun hqt10_1 => ?_)
        · have hqt10_1b := hqt10_1
          try simp only [decide_eq_true_eq, Bool.and_eq_true, Bool.or_eq_true, Bool.not_eq_true', decide_eq_false_iff_not, ne_eq, Bool.not_eq_true] at hqt10_1
          refine wp_seq_k (fun K11 hK11 => ?_)
          refine wp_region_lit ?_
          refine sqv hf (r_assign rfl) rfl rfl rfl ?_; clear hf fa; intro fa hf
          apply wpList_nil
          (try simp only [Exit.then, Exit.inBlock, ↓reduceIte, Nat.reduceEqDiff])
          refine hK11 _ _ ?_
          refine wp_ret ?_
          (try simp only [Exit.then, Exit.inBlock])
          refine ret1 hf rfl rfl ?_
          refine ⟨?_, rfl⟩; unfold tnameP; rw [hqt4_1b, hqt6_1b, hqt8_1b, hqt10_1b]; (try rfl)
        · have hqt10_1b := hqt10_1
          replace hqt10_1 := Bool.eq_false_iff.1 hqt10_1
          try simp only [ne_eq, decide_eq_true_eq, Bool.and_eq_true, Bool.or_eq_true, Bool.not_eq_true', decide_eq_false_iff_not] at hqt10_1
          refine wp_seq_k (fun K12 hK12 => ?_)
          refine wp_region_lit ?_
          refine sqv hf (r_eq rfl rfl) rfl rfl rfl ?_; clear hf fa; intro fa hf
          refine sqv hf (r_assign rfl) rfl rfl rfl ?_; clear hf fa; intro fa hf
          apply wpList_nil
          (try simp only [Exit.then, Exit.inBlock, ↓reduceIte, Nat.reduceEqDiff])
          refine hK12 _ _ ?_
          refine wp_cond_split (t := (decide (b = (112 : Int)))) (hf.ev rfl) (fun hqt12_1 => ?_) (fun hqt12_1 => ?_)
          · have hqt12_1b := hqt12_1
            try simp only [decide_eq_true_eq, Bool.and_eq_true, Bool.or_eq_true, Bool.not_eq_true', decide_eq_false_iff_not, ne_eq, Bool.not_eq_true] at hqt12_1
            refine wp_seq_k (fun K13 hK13 => ?_)
            refine wp_region_lit ?_
            refine sqv hf (r_assign rfl) rfl rfl rfl ?_; clear hf fa; intro fa hf
            apply wpList_nil
            (try simp only [Exit.then, Exit.inBlock, ↓reduceIte, Nat.reduceEqDiff])
            refine hK13 _ _ ?_
            refine wp_ret ?_
            (try simp only [Exit.then, Exit.inBlock])
            refine ret1 hf rfl rfl ?_
            refine ⟨?_, rfl⟩; unfold tnameP; rw [hqt4_1b, hqt6_1b, hqt8_1b, hqt10_1b, hqt12_1b]; (try rfl)
          · have hqt12_1b := hqt12_1
            replace hqt12_1 := Bool.eq_false_iff.1 hqt12_1
            try simp only [ne_eq, decide_eq_true_eq, Bool.and_eq_true, Bool.or_eq_true, Bool.not_eq_true', decide_eq_false_iff_not] at hqt12_1
            refine wp_skip ?_
            (try simp only [Exit.then, Exit.inBlock, ↓reduceIte, Nat.reduceEqDiff])
            refine hK2 _ _ ?_
            refine wp_seq_k (fun K14 hK14 => ?_)
            refine wp_region_lit ?_
            refine sqv hf (r_assign rfl) rfl rfl rfl ?_; clear hf fa; intro fa hf
            apply wpList_nil
            (try simp only [Exit.then, Exit.inBlock, ↓reduceIte, Nat.reduceEqDiff])
            refine hK14 _ _ ?_
            refine wp_ret ?_
            (try simp only [Exit.then, Exit.inBlock])
            refine ret1 hf rfl rfl ?_
            refine ⟨?_, rfl⟩; unfold tnameP; rw [hqt4_1b, hqt6_1b, hqt8_1b, hqt10_1b, hqt12_1b]; (try rfl)

theorem drop_at {α : Type} {l : List α} {k : Nat} {y : α} (h : l[k]? = some y) : l.drop k = y :: l.drop (k + 1) := by
  obtain ⟨hk, rfl⟩ := List.getElem?_eq_some_iff.1 h
  exact List.drop_eq_getElem_cons hk
end Go.Proofs.Ytpalmpfkliepfaa

namespace Go.Proofs.Ytpalmpfkliepfaa
open Go.Shelf Go.RowKit
end Go.Proofs.Ytpalmpfkliepfaa

namespace Go.Proofs.Ytpalmpfkliepfaa
open Go.RowKit
set_option linter.unusedVariables false
set_option linter.unusedSimpArgs false
def namesL (l : List Int) : List ByteArray := l.map tnameP
@[simp] theorem namesL_nil : namesL [] = [] := rfl
theorem tname_le (b : Int) : (tnameP b).size ≤ 7 := by
  unfold tnameP
  generalize decide (b = 127) = a1
  generalize decide (b = 126) = a2
  generalize decide (b = 125) = a3
  generalize decide (b = 124) = a4
  generalize decide (b = 112) = a5
  cases a1 <;> cases a2 <;> cases a3 <;> cases a4 <;> cases a5 <;> decide
def rnameP (b : Int) : ByteArray :=
  bif ((decide ((124 : Int) ≤ b)) && (decide (b ≤ (127 : Int)))) then ([⟨#[105, 51, 50]⟩, ⟨#[105, 54, 52]⟩, ⟨#[102, 51, 50]⟩, ⟨#[102, 54, 52]⟩].getD (127 - (b).toNat) (⟨#[]⟩ : ByteArray))
  else bif (decide (b = (112 : Int))) then ⟨#[102, 117, 110, 99, 114, 101, 102]⟩
  else ⟨#[63]⟩

set_option maxHeartbeats 1000000 in
set_option maxRecDepth 100000 in
theorem rname_any (b : Int) (w : World) (hb0 : -1000 ≤ b ∧ b ≤ 1000) : Calls Try.prog 71 #[(.int .i64 b)] w fun e w' => e = .returned (.string (rnameP b)) ∧ Below w.heap.size w w' := by
  refine sx_enter (L := [(0, (.int .i64 b))]) Try.func71 rfl rfl rfl rfl (fun fa hf => ?_)
  have hb : Below w.heap.size w w := Below.refl _ _
  refine wp_seq_k (fun K1 hK1 => ?_)
  refine wp_region_lit ?_
  refine sqv hf (r_assign rfl) rfl rfl rfl ?_; clear hf fa; intro fa hf
  apply wpList_nil
  (try simp only [Exit.then, Exit.inBlock, ↓reduceIte, Nat.reduceEqDiff])
  refine hK1 _ _ ?_
  refine wp_seq_k (fun K2 hK2 => ?_)
  refine wp_region_lit ?_
  refine sqdt hf (d_bslice (z := (.string ⟨#[]⟩)) (sz := 1) (vs := [(0, (.string ⟨#[105, 51, 50]⟩)), (1, (.string ⟨#[105, 54, 52]⟩)), (2, (.string ⟨#[102, 51, 50]⟩)), (3, (.string ⟨#[102, 54, 52]⟩))]) (cs := #[(.string ⟨#[105, 51, 50]⟩), (.string ⟨#[105, 54, 52]⟩), (.string ⟨#[102, 51, 50]⟩), (.string ⟨#[102, 54, 52]⟩)]) rfl Try.underlying32 (by kernel_rfl) rfl (by kernel_rfl)) rfl rfl rfl ?_; clear hf fa; rintro fa _ w1 ⟨b1, rfl, hle1, hk1, he1⟩ hf
  have hBb1 : w.heap.size ≤ b1 := Nat.le_trans hb.size hle1
  replace hb := hb.trans (Below.mono he1 hb.size)
  refine sqv hf (r_assign rfl) rfl rfl rfl ?_; clear hf fa; intro fa hf
  apply wpList_nil
  (try simp only [Exit.then, Exit.inBlock, ↓reduceIte, Nat.reduceEqDiff])
  refine hK2 _ _ ?_
  refine wp_seq_k (fun K3 hK3 => ?_)
  refine wp_seq_k (fun K4 hK4 => ?_)
  refine wp_region_lit ?_
  refine sqv hf (r_move rfl) rfl rfl rfl ?_; clear hf fa; intro fa hf
  refine sqv hf (r_ge rfl rfl) rfl rfl rfl ?_; clear hf fa; intro fa hf
  refine sqv hf (r_move rfl) rfl rfl rfl ?_; clear hf fa; intro fa hf
  refine sqgT (act := (decide ((124 : Int) ≤ b))) (ag := true) (c := (decide ((124 : Int) ≤ b))) (v := (.int .i64 b)) hf rfl rfl rfl (fun hact => (r_move rfl)) rfl rfl ?_; clear hf fa; intro fa hf
  refine sqgT (act := (decide ((124 : Int) ≤ b))) (ag := true) (c := (decide ((124 : Int) ≤ b))) (v := (.bool (decide (b ≤ (127 : Int))))) hf rfl rfl rfl (fun hact => (r_le (gb_ev hact rfl) rfl)) rfl rfl ?_; clear hf fa; intro fa hf
  refine sqv hf (r_pickA (b := (decide ((124 : Int) ≤ b))) (e := (decide (b ≤ (127 : Int)))) rfl rfl rfl) rfl rfl rfl ?_; clear hf fa; intro fa hf
  apply wpList_nil
  (try simp only [Exit.then, Exit.inBlock, ↓reduceIte, Nat.reduceEqDiff])
  refine hK4 _ _ ?_
  refine wp_cond_split (t := ((decide ((124 : Int) ≤ b)) && (decide (b ≤ (127 : Int))))) (hf.ev rfl) (fun hqt10_1 => ?_) (fun hqt10_1 => ?_)
  · have hqt10_1b := hqt10_1
    try simp only [decide_eq_true_eq, Bool.and_eq_true, Bool.or_eq_true, Bool.not_eq_true', decide_eq_false_iff_not, ne_eq, Bool.not_eq_true] at hqt10_1
    refine wp_seq_k (fun K5 hK5 => ?_)
    have hr1 := Row.of_new (k := 1) (V := vStr) (l := [⟨#[105, 51, 50]⟩, ⟨#[105, 54, 52]⟩, ⟨#[102, 51, 50]⟩, ⟨#[102, 54, 52]⟩]) (base := w.heap.size) hk1 (by omega) rfl rfl (Nat.le_of_ble_eq_true rfl)
    skip
    refine wp_region_lit ?_
    refine sqv hf (r_move rfl) rfl rfl rfl ?_; clear hf fa; intro fa hf
    refine sqv hf (r_move rfl) rfl rfl rfl ?_; clear hf fa; intro fa hf
    refine sqv hf (r_sub (C := ((127 : Int) - b)) rfl rfl (by rw [IntKind.wrap_i64]; omega)) rfl rfl rfl ?_; clear hf fa; intro fa hf
    have hy1 := getD_at (l := [⟨#[105, 51, 50]⟩, ⟨#[105, 54, 52]⟩, ⟨#[102, 51, 50]⟩, ⟨#[102, 54, 52]⟩]) (j := (127 - (b).toNat)) (⟨#[]⟩ : ByteArray) (by first | omega | (simp only [Sl.list_length, List.length_set, List.length_take, List.length_append, List.length_replicate, List.length_cons, List.length_nil, List.length_map, nums_len]; omega))
    have hel1 := RdS.at (Row.rd (by intros; rfl) hr1) hy1
    obtain ⟨_, _, hab, hlr1, hel1⟩ := hel1
    cases hab
    refine sqv hf (r_ixa (sz := 1) (j := (127 - (b).toNat)) rfl rfl Try.underlying32 (by kernel_rfl) (by omega) (by omega) rfl) rfl rfl rfl ?_; clear hf fa; intro fa hf
    refine sqv hf (r_load (v := (.string ([⟨#[105, 51, 50]⟩, ⟨#[105, 54, 52]⟩, ⟨#[102, 51, 50]⟩, ⟨#[102, 54, 52]⟩].getD (127 - (b).toNat) (⟨#[]⟩ : ByteArray)))) rfl Try.underlying9 rfl (cellsAt_cell hel1 (i := 0) rfl rfl)) rfl rfl rfl ?_; clear hf fa; intro fa hf
    refine sqv hf (r_assign rfl) rfl rfl rfl ?_; clear hf fa; intro fa hf
    apply wpList_nil
    (try simp only [Exit.then, Exit.inBlock, ↓reduceIte, Nat.reduceEqDiff])
    refine hK5 _ _ ?_
    refine wp_ret ?_
    (try simp only [Exit.then, Exit.inBlock])
    refine ret1 hf rfl rfl ?_
    refine ⟨?_, hb⟩; unfold rnameP; rw [hqt10_1b]; (try rfl)
  · have hqt10_1b := hqt10_1
    replace hqt10_1 := Bool.eq_false_iff.1 hqt10_1
    try simp only [ne_eq, decide_eq_true_eq, Bool.and_eq_true, Bool.or_eq_true, Bool.not_eq_true', decide_eq_false_iff_not] at hqt10_1
    refine wp_skip ?_
    (try simp only [Exit.then, Exit.inBlock, ↓reduceIte, Nat.reduceEqDiff])
    refine hK3 _ _ ?_
    refine wp_seq_k (fun K6 hK6 => ?_)
    refine wp_seq_k (fun K7 hK7 => ?_)
    refine wp_region_lit ?_
    refine sqv hf (r_move rfl) rfl rfl rfl ?_; clear hf fa; intro fa hf
    refine sqv hf (r_eq rfl rfl) rfl rfl rfl ?_; clear hf fa; intro fa hf
    apply wpList_nil
    (try simp only [Exit.then, Exit.inBlock, ↓reduceIte, Nat.reduceEqDiff])
    refine hK7 _ _ ?_
    refine wp_cond_split (t := (decide (b = (112 : Int)))) (hf.ev rfl) (fun hqt17_1 => ?_) (fun hqt17_1 => ?_)
    · have hqt17_1b := hqt17_1
      try simp only [decide_eq_true_eq, Bool.and_eq_true, Bool.or_eq_true, Bool.not_eq_true', decide_eq_false_iff_not, ne_eq, Bool.not_eq_true] at hqt17_1
      refine wp_seq_k (fun K8 hK8 => ?_)
      refine wp_region_lit ?_
      refine sqv hf (r_assign rfl) rfl rfl rfl ?_; clear hf fa; intro fa hf
      apply wpList_nil
      (try simp only [Exit.then, Exit.inBlock, ↓reduceIte, Nat.reduceEqDiff])
      refine hK8 _ _ ?_
      refine wp_ret ?_
      (try simp only [Exit.then, Exit.inBlock])
      refine ret1 hf rfl rfl ?_
      refine ⟨?_, hb⟩; unfold rnameP; rw [hqt10_1b, hqt17_1b]; (try rfl)
    · have hqt17_1b := hqt17_1
      replace hqt17_1 := Bool.eq_false_iff.1 hqt17_1
      try simp only [ne_eq, decide_eq_true_eq, Bool.and_eq_true, Bool.or_eq_true, Bool.not_eq_true', decide_eq_false_iff_not] at hqt17_1
      refine wp_skip ?_
      (try simp only [Exit.then, Exit.inBlock, ↓reduceIte, Nat.reduceEqDiff])
      refine hK6 _ _ ?_
      refine wp_seq_k (fun K9 hK9 => ?_)
      refine wp_region_lit ?_
      refine sqv hf (r_assign rfl) rfl rfl rfl ?_; clear hf fa; intro fa hf
      apply wpList_nil
      (try simp only [Exit.then, Exit.inBlock, ↓reduceIte, Nat.reduceEqDiff])
      refine hK9 _ _ ?_
      refine wp_ret ?_
      (try simp only [Exit.then, Exit.inBlock])
      refine ret1 hf rfl rfl ?_
      refine ⟨?_, hb⟩; unfold rnameP; rw [hqt10_1b, hqt17_1b]; (try rfl)

theorem rname_eq (b : Int) : rnameP b = tnameP b := by
  unfold rnameP tnameP
  by_cases h1 : b = 127
  · subst h1; decide
  · by_cases h2 : b = 126
    · subst h2; decide
    · by_cases h3 : b = 125
      · subst h3; decide
      · by_cases h4 : b = 124
        · subst h4; decide
        · have h5 : (decide (124 ≤ b) && decide (b ≤ 127)) = false := by simp; omega
          rw [h5]; simp [h1, h2, h3, h4]
theorem rname2_any (b : Int) (w : World) (hb0 : -1000 ≤ b ∧ b ≤ 1000) : Calls Try.prog 71 #[.int .i64 b] w fun e w' => e = .returned (.string (tnameP b)) ∧ Below w.heap.size w w' := by
  have h := rname_any b w hb0
  rw [rname_eq] at h
  exact h
def byteR (s : ByteArray) : List Int → Int
  | [] => 0
  | b :: l => if tnameP b = s then b else byteR s l
def byteP (s : ByteArray) : Int := byteR s [127, 126, 125, 124, 112]
theorem byte_rng (s : ByteArray) : 0 ≤ byteP s ∧ byteP s < 256 := by
  unfold byteP byteR byteR byteR byteR byteR byteR
  split; decide
  split; decide
  split; decide
  split; decide
  split <;> decide

set_option maxHeartbeats 1000000 in
set_option maxRecDepth 100000 in
theorem byte_any (s : ByteArray) (w : World) : Calls Try.prog 65 #[(.string s)] w fun e w' => e = .returned (.int .u8 (byteP s)) ∧ Below w.heap.size w w' := by
  refine sx_enter (L := [(0, (.string s))]) Try.func65 rfl rfl rfl rfl (fun fa hf => ?_)
  have hb : Below w.heap.size w w := Below.refl _ _
  refine wp_seq_k (fun K1 hK1 => ?_)
  refine wp_region_lit ?_
  refine sqv hf (r_assign rfl) rfl rfl rfl ?_; clear hf fa; intro fa hf
  apply wpList_nil
  (try simp only [Exit.then, Exit.inBlock, ↓reduceIte, Nat.reduceEqDiff])
  refine hK1 _ _ ?_
  refine wp_seq_k (fun K2 hK2 => ?_)
  refine wp_seq_k (fun K3 hK3 => ?_)
  refine wp_region_lit ?_
  refine sqdt hf (d_bslice (z := (.int .u8 (0 : Int))) (sz := 1) (vs := [(0, (.int .u8 (127 : Int))), (1, (.int .u8 (126 : Int))), (2, (.int .u8 (125 : Int))), (3, (.int .u8 (124 : Int))), (4, (.int .u8 (112 : Int)))]) (cs := #[(.int .u8 (127 : Int)), (.int .u8 (126 : Int)), (.int .u8 (125 : Int)), (.int .u8 (124 : Int)), (.int .u8 (112 : Int))]) rfl Try.underlying43 (by kernel_rfl) rfl (by kernel_rfl)) rfl rfl rfl ?_; clear hf fa; rintro fa _ w1 ⟨b1, rfl, hle1, hk1, he1⟩ hf
  have hBb1 : w.heap.size ≤ b1 := Nat.le_trans hb.size hle1
  replace hb := hb.trans (Below.mono he1 hb.size)
  refine sqv hf (r_lensl rfl Try.underlying43) rfl rfl rfl ?_; clear hf fa; intro fa hf
  have hr1 := Row.of_new (k := 1) (V := (vInt .u8)) (l := [(127 : Int), (126 : Int), (125 : Int), (124 : Int), (112 : Int)]) (base := w.heap.size) hk1 (by omega) rfl rfl (Nat.le_of_ble_eq_true rfl)
  refine sqv hf (r_move rfl) rfl rfl rfl ?_; clear hf fa; intro fa hf
  apply wpList_nil
  (try simp only [Exit.then, Exit.inBlock, ↓reduceIte, Nat.reduceEqDiff])
  refine hK3 _ _ ?_
  refine wp_block ?_
  refine wp_loop_k (fun mq fa wr => ∃ (k : Nat), mq = 5 - k ∧ Fr 17 fa [(0, (.string s)), (6, (.int .i64 (5 : Int))), (7, (.int .i64 ((k : Nat) : Int))), (5, (.slice (some ⟨b1, 0, none⟩) 5 5))] ∧ Below w.heap.size w wr ∧ Row 1 (vInt .u8) 5 (w.heap.size) wr (.slice (some ⟨b1, 0, none⟩) (5) 5) [(127 : Int), (126 : Int), (125 : Int), (124 : Int), (112 : Int)] ∧ (k ≤ 5) ∧ (byteP s = byteR s ([(127 : Int), (126 : Int), (125 : Int), (124 : Int), (112 : Int)].drop k))) ?_ ?_
  · skip
    exact ⟨_, 0, rfl, hf.sub ⟨rfl, rfl, (some_int (by first | rfl | omega)), rfl, trivial⟩, hb, hr1, by omega, rfl⟩
  · skip
    clear hf fa; intro mq1 fa w2 hI KL1 hKL1
    clear hb
    clear hr1
    obtain ⟨k, hmq1, hf, hb, hrhr1, hk, Hs⟩ := hI
    have hcrhr1 := Row.caps hrhr1
    refine wp_seq_k (fun K4 hK4 => ?_)
    refine wp_region_lit ?_
    refine sqv hf (r_lt rfl rfl) rfl rfl rfl ?_; clear hf fa; intro fa hf
    apply wpList_nil
    (try simp only [Exit.then, Exit.inBlock, ↓reduceIte, Nat.reduceEqDiff])
    refine hK4 _ _ ?_
    refine wp_seq_k (fun K5 hK5 => ?_)
    refine wp_cond_split (t := (decide (((k : Nat) : Int) < (5 : Int)))) (hf.ev rfl) (fun hqt8_1 => ?_) (fun hqt8_1 => ?_)
    · have hqt8_1b := hqt8_1
      try simp only [decide_eq_true_eq, Bool.and_eq_true, Bool.or_eq_true, Bool.not_eq_true', decide_eq_false_iff_not, ne_eq, Bool.not_eq_true] at hqt8_1
      refine wp_skip ?_
      (try simp only [Exit.then, Exit.inBlock, ↓reduceIte, Nat.reduceEqDiff])
      refine hK5 _ _ ?_
      refine wp_seq_k (fun K6 hK6 => ?_)
      refine wp_block ?_
      refine wp_seq_k (fun K7 hK7 => ?_)
      obtain ⟨yb, hyB⟩ : ∃ x, ([(127 : Int), (126 : Int), (125 : Int), (124 : Int), (112 : Int)])[k]? = some x := ⟨_, List.getElem?_eq_getElem (by simp only [List.length_cons, List.length_nil]; omega)⟩
      have hyr : 0 ≤ yb ∧ yb < 256 := by have := List.mem_of_getElem? hyB; simp at this; omega
      refine wp_region_lit ?_
      have hy1 : ([(127 : Int), (126 : Int), (125 : Int), (124 : Int), (112 : Int)])[k]? = some yb := hyB
      have hel1 := RdS.at (Row.rd (by intros; rfl) hrhr1) hy1
      obtain ⟨_, _, hab, hlr1, hel1⟩ := hel1
      cases hab
      refine sqv hf (r_ixa (sz := 1) (j := k) rfl rfl Try.underlying43 (by kernel_rfl) rfl (by omega) rfl) rfl rfl rfl ?_; clear hf fa; intro fa hf
      refine sqv hf (r_load (v := (.int .u8 yb)) rfl Try.underlying5 rfl (cellsAt_cell hel1 (i := 0) rfl rfl)) rfl rfl rfl ?_; clear hf fa; intro fa hf
      refine sqv hf (r_assign rfl) rfl rfl rfl ?_; clear hf fa; intro fa hf
      apply wpList_nil
      (try simp only [Exit.then, Exit.inBlock, ↓reduceIte, Nat.reduceEqDiff])
      refine hK7 _ _ ?_
      refine wp_seq_k (fun K8 hK8 => ?_)
      refine wp_region_lit ?_
      refine sqv hf (r_move rfl) rfl rfl rfl ?_; clear hf fa; intro fa hf
      refine sqdt hf (d_callS (vs := [(.int .u8 yb)]) rfl Try.func70 (by kernel_rfl) (by kernel_rfl) (tname_any yb _)) rfl rfl rfl ?_; clear hf fa; rintro fa _ _ ⟨rfl, rfl⟩ hf
      refine sqv hf (r_move rfl) rfl rfl rfl ?_; clear hf fa; intro fa hf
      refine sqv hf (r_seq rfl rfl) rfl rfl rfl ?_; clear hf fa; intro fa hf
      apply wpList_nil
      (try simp only [Exit.then, Exit.inBlock, ↓reduceIte, Nat.reduceEqDiff])
      refine hK8 _ _ ?_
      refine wp_cond_split (t := (decide ((tnameP yb) = s))) (hf.ev rfl) (fun hqt14_1 => ?_) (fun hqt14_1 => ?_)
      · have hqt14_1b := hqt14_1
        try simp only [decide_eq_true_eq, Bool.and_eq_true, Bool.or_eq_true, Bool.not_eq_true', decide_eq_false_iff_not, ne_eq, Bool.not_eq_true] at hqt14_1
        refine wp_seq_k (fun K9 hK9 => ?_)
        refine wp_region_lit ?_
        refine sqv hf (r_move rfl) rfl rfl rfl ?_; clear hf fa; intro fa hf
        refine sqv hf (r_assign rfl) rfl rfl rfl ?_; clear hf fa; intro fa hf
        apply wpList_nil
        (try simp only [Exit.then, Exit.inBlock, ↓reduceIte, Nat.reduceEqDiff])
        refine hK9 _ _ ?_
        refine wp_ret ?_
        (try simp only [Exit.then, Exit.inBlock])
        refine ret1 hf rfl rfl ?_
        refine ⟨congrArg (fun n => Ending.returned (.int .u8 n)) ?_, hb⟩; rw [Hs, drop_at hyB, byteR, if_pos hqt14_1]
      · have hqt14_1b := hqt14_1
        replace hqt14_1 := Bool.eq_false_iff.1 hqt14_1
        try simp only [ne_eq, decide_eq_true_eq, Bool.and_eq_true, Bool.or_eq_true, Bool.not_eq_true', decide_eq_false_iff_not] at hqt14_1
        refine wp_skip ?_
        (try simp only [Exit.then, Exit.inBlock, ↓reduceIte, Nat.reduceEqDiff])
        refine hK6 _ _ ?_
        refine wp_region_lit ?_
        refine sqv hf (r_add (C := (((k : Nat) : Int) + (1 : Int))) rfl rfl (by rw [IntKind.wrap_i64]; omega)) rfl rfl rfl ?_; clear hf fa; intro fa hf
        refine sqv hf (r_move rfl) rfl rfl rfl ?_; clear hf fa; intro fa hf
        apply wpList_nil
        (try simp only [Exit.then, Exit.inBlock, ↓reduceIte, Nat.reduceEqDiff])
        refine hKL1 _ _ _ (by omega) ⟨(k + 1), rfl, hf.sub ⟨rfl, rfl, (some_int (by first | rfl | omega)), rfl, trivial⟩, hb, hrhr1, by omega, (by have h := Hs; rw [drop_at hyB, byteR, if_neg hqt14_1] at h; exact h)⟩
    · have hqt8_1b := hqt8_1
      replace hqt8_1 := Bool.eq_false_iff.1 hqt8_1
      try simp only [ne_eq, decide_eq_true_eq, Bool.and_eq_true, Bool.or_eq_true, Bool.not_eq_true', decide_eq_false_iff_not] at hqt8_1
      refine wp_exit ?_
      (try simp only [Exit.then, Exit.inBlock, ↓reduceIte, Nat.reduceEqDiff])
      refine hK2 _ _ ?_
      refine wp_seq_k (fun K10 hK10 => ?_)
      refine wp_region_lit ?_
      refine sqv hf (r_assign rfl) rfl rfl rfl ?_; clear hf fa; intro fa hf
      apply wpList_nil
      (try simp only [Exit.then, Exit.inBlock, ↓reduceIte, Nat.reduceEqDiff])
      refine hK10 _ _ ?_
      refine wp_ret ?_
      (try simp only [Exit.then, Exit.inBlock])
      refine ret1 hf rfl rfl ?_
      refine ⟨congrArg (fun n => Ending.returned (.int .u8 n)) ?_, hb⟩; obtain rfl : k = 5 := by omega
      rw [Hs]; rfl
end Go.Proofs.Ytpalmpfkliepfaa
