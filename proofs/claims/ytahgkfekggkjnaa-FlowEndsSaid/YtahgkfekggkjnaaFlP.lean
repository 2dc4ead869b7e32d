/- What is proved here: plain laws of blocks: the walks of the program and of the document agree. -/
import Derived.Test.YtahgkfekggkjnaaFlN
namespace Go.Proofs.Ytahgkfekggkjnaa
open Go.RowKit
set_option linter.unusedVariables false
set_option linter.unusedSimpArgs false

/- THE SHAPE. -/
def chS (x : Int) : UInt8 := if x = 4 then 105 else if x = 5 then 101 else 98
def RelS (xs : List Int) (s : ByteArray) : Prop := ∃ stk : List Int, xs = 0 :: stk ∧ s.data.toList = stk.map chS
theorem RelS.size {xs : List Int} {s : ByteArray} (h : RelS xs s) : xs.length = s.size + 1 := by
  obtain ⟨stk, rfl, h⟩ := h
  have : s.size = (stk.map chS).length := by rw [← h, Array.length_toList]; rfl
  simp [this]
theorem RelS.push {xs : List Int} {s : ByteArray} (h : RelS xs s) (o : Int) (b : UInt8) (hb : chS o = b) : RelS (xs ++ [o]) (s ++ ⟨#[b]⟩) := by
  obtain ⟨stk, rfl, h⟩ := h
  refine ⟨stk ++ [o], rfl, ?_⟩
  simp [ByteArray.data_append, h, hb]
theorem ext_toList (s : ByteArray) (n : Nat) : (s.extract 0 n).data.toList = s.data.toList.take n := by
  rw [ByteArray.data_extract, Array.toList_extract, List.extract_eq_take_drop]; simp
theorem RelS.pop {xs : List Int} {s : ByteArray} (h : RelS xs s) (h0 : 0 < s.size) : RelS (xs.take (xs.length - 1)) (s.extract 0 (s.size - 1)) := by
  have hs := h.size
  obtain ⟨stk, rfl, h⟩ := h
  simp only [List.length_cons] at hs
  refine ⟨stk.take (s.size - 1), ?_, by rw [ext_toList, h, List.map_take]⟩
  rw [List.length_cons, show stk.length + 1 - 1 = (s.size - 1) + 1 by omega, List.take_succ_cons]
theorem RelS.last {xs : List Int} {s : ByteArray} (h : RelS xs s) (h0 : 0 < s.size) : sbt s (s.size - 1) = (chS (xs.getD (xs.length - 1) 0)).toNat := by
  have hs := h.size
  obtain ⟨stk, rfl, h⟩ := h
  simp only [List.length_cons] at hs
  unfold sbt
  rw [h, List.length_cons, show stk.length + 1 - 1 = (s.size - 1) + 1 by omega, List.getD_cons_succ, List.getD_eq_getElem?_getD, List.getElem?_map, List.getD_eq_getElem?_getD, List.getElem?_eq_getElem (show s.size - 1 < stk.length by omega)]
  rfl
theorem RelS.set5 {xs : List Int} {s : ByteArray} (h : RelS xs s) (h0 : 0 < s.size) : RelS (xs.set (xs.length - 1) 5) (s.extract 0 (s.size - 1) ++ ⟨#[101]⟩) := by
  have hs := h.size
  have hp := (h.pop h0).push 5 101 rfl
  have : xs.take (xs.length - 1) ++ [5] = xs.set (xs.length - 1) 5 := by
    rw [← List.take_set_snoc (by omega)]
    exact List.take_of_length_le (by rw [List.length_set]; omega)
  rwa [this] at hp

theorem shR_walkR (len : Nat) : ∀ (r xs : List Int) (s : ByteArray) (n : Nat), RelS xs s → n + r.length = len → shR len r xs n = if (walkR r s n).1 = 0 ∨ (walkR r s n).1 ≠ len then 30 else 0
  | [], xs, s, n, h, hn => by simp [shR, walkR]
  | o :: r, xs, s, n, h, hn => by
    simp only [List.length_cons] at hn
    have hs := h.size
    by_cases h2 : o = 2
    · subst h2
      have e1 : shR len (2 :: r) xs n = shR len r (xs ++ [2]) (n + 1) := by rw [shR, if_pos (by decide)]
      have e2 : walkR (2 :: r) s n = walkR r (s ++ ⟨#[98]⟩) (n + 1) := by rw [walkR, if_pos rfl]
      rw [e1, e2]
      exact shR_walkR len r _ _ _ (h.push 2 98 rfl) (by omega)
    by_cases h3 : o = 3
    · subst h3
      have e1 : shR len (3 :: r) xs n = shR len r (xs ++ [3]) (n + 1) := by rw [shR, if_pos (by decide)]
      have e2 : walkR (3 :: r) s n = walkR r (s ++ ⟨#[98]⟩) (n + 1) := by rw [walkR, if_neg (by decide), if_pos rfl]
      rw [e1, e2]
      exact shR_walkR len r _ _ _ (h.push 3 98 rfl) (by omega)
    by_cases h4 : o = 4
    · subst h4
      have e1 : shR len (4 :: r) xs n = shR len r (xs ++ [4]) (n + 1) := by rw [shR, if_pos (by decide)]
      have e2 : walkR (4 :: r) s n = walkR r (s ++ ⟨#[105]⟩) (n + 1) := by rw [walkR, if_neg (by decide), if_neg (by decide), if_pos rfl]
      rw [e1, e2]
      exact shR_walkR len r _ _ _ (h.push 4 105 rfl) (by omega)
    have hno : ¬ opensI o = true := by simp [opensI, h2, h3, h4]
    by_cases h5 : o = 5
    · subst h5
      have e1 : shR len (5 :: r) xs n = if xs.getD (xs.length - 1) 0 ≠ 4 then 30 else shR len r (xs.set (xs.length - 1) 5) (n + 1) := by rw [shR, if_neg hno, if_pos rfl]
      have e2 : walkR (5 :: r) s n = if s = ⟨#[]⟩ ∨ ((sbt s (s.size - 1) : Nat) : Int) ≠ 105 then (0, (n : Int)) else walkR r (s.extract 0 (s.size - 1) ++ ⟨#[101]⟩) (n + 1) := by rw [walkR, if_neg h2, if_neg h3, if_neg h4, if_pos rfl]
      by_cases he : s = ⟨#[]⟩
      · subst he
        rw [e1, e2, if_pos (show (⟨#[]⟩ : ByteArray) = ⟨#[]⟩ ∨ _ from Or.inl rfl)]
        obtain ⟨stk, rfl, hh⟩ := h
        have : stk = [] := by simpa using hh.symm
        subst this
        rfl
      · have h0 := ne_size he
        have hl := h.last h0
        by_cases hx : xs.getD (xs.length - 1) 0 = 4
        · have e3 : ¬ (s = ⟨#[]⟩ ∨ ((sbt s (s.size - 1) : Nat) : Int) ≠ 105) := by
            rw [hl, hx]
            rintro (h | h)
            · exact he h
            · exact h rfl
          rw [e1, e2, if_neg e3, if_neg (fun h => h hx)]
          exact shR_walkR len r _ _ _ (h.set5 h0) (by omega)
        · have e3 : (s = ⟨#[]⟩ ∨ ((sbt s (s.size - 1) : Nat) : Int) ≠ 105) := by
            right; rw [hl]
            have : chS (xs.getD (xs.length - 1) 0) = 101 ∨ chS (xs.getD (xs.length - 1) 0) = 98 := by
              unfold chS; rw [if_neg hx]; split <;> simp
            rcases this with e | e <;> rw [e] <;> decide
          rw [e1, e2, if_pos e3, if_pos hx]
          rfl
    by_cases h11 : o = 11
    · subst h11
      have e1 : shR len (11 :: r) xs n = if ((xs.length - 1 : Nat) : Int) = 0 then (if decide ((n : Int) = (len : Int) - 1) = true then 0 else 30) else shR len r (xs.take (xs.length - 1)) (n + 1) := by rw [shR, if_neg hno, if_neg h5, if_pos rfl]
      have e2 : walkR (11 :: r) s n = if s = ⟨#[]⟩ then ((n : Int) + 1, -1) else walkR r (s.extract 0 (s.size - 1)) (n + 1) := by rw [walkR, if_neg h2, if_neg h3, if_neg h4, if_neg h5, if_pos rfl]
      by_cases he : s = ⟨#[]⟩
      · rw [e1, e2, if_pos he, if_pos (show ((xs.length - 1 : Nat) : Int) = 0 by rw [hs, he]; rfl)]
        by_cases hq : (n : Int) = (len : Int) - 1
        · rw [if_pos (show decide ((n : Int) = (len : Int) - 1) = true from decide_eq_true hq), if_neg (by simp only; omega)]
        · rw [if_neg (show ¬ decide ((n : Int) = (len : Int) - 1) = true by simpa using hq), if_pos (by simp only; omega)]
      · have h0 := ne_size he
        rw [e1, e2, if_neg he, if_neg (show ¬ ((xs.length - 1 : Nat) : Int) = 0 by omega)]
        exact shR_walkR len r _ _ _ (h.pop h0) (by omega)
    · have e1 : shR len (o :: r) xs n = shR len r xs (n + 1) := by rw [shR, if_neg hno, if_neg h5, if_neg h11]
      have e2 : walkR (o :: r) s n = walkR r s (n + 1) := by rw [walkR, if_neg h2, if_neg h3, if_neg h4, if_neg h5, if_neg h11]
      rw [e1, e2]
      exact shR_walkR len r _ _ _ h (by omega)

theorem rshape_eq (ops : List Int) : rshapeP ops = shapeP ops := by
  unfold rshapeP shapeP
  split
  · rfl
  · rw [shR_walkR ops.length ops [0] ⟨#[]⟩ 0 ⟨[], rfl, rfl⟩ (by omega)]

/- THE WALK. -/
def stepS (o : Int) (n : Nat) (st : List Nat) : List Nat := if opensI o = true then n :: st else if o = 11 then st.tail else st
def stN (ops : List Int) : Nat → List Nat
  | 0 => []
  | n + 1 => stepS (ops.getD n 0) n (stN ops n)

theorem opens_ne {o : Int} (h : opensI o = true) : o ≠ 5 ∧ o ≠ 11 := by
  unfold opensI at h
  simp only [Bool.or_eq_true, decide_eq_true_eq] at h
  omega

theorem stN_sh (ops : List Int) (h : shapeP ops = 0) : ∀ n, n ≤ ops.length → ShP ops n (stN ops n).length
  | 0, _ => ShP.start (by simpa using h)
  | n + 1, hn => by
    have ih := stN_sh ops h n (by omega)
    have hd := drop_getD (l := ops) (n := n) (by omega)
    unfold stN stepS
    by_cases ho : opensI (ops.getD n 0) = true
    · rw [if_pos ho]; simpa using ih.opens hd ho
    · rw [if_neg ho]
      by_cases h5 : ops.getD n 0 = 5
      · rw [if_neg (by omega)]; exact ih.els hd ho h5
      · by_cases h11 : ops.getD n 0 = 11
        · rw [if_pos h11, List.length_tail]
          by_cases hk : 0 < (stN ops n).length
          · exact ih.fin hd ho h5 ⟨h11, by omega⟩
          · have := ih.other hd ho h5 (by omega)
            rwa [show (stN ops n).length - 1 = (stN ops n).length by omega]
        · rw [if_neg h11]; exact ih.other hd ho h5 (by omega)

theorem stN_end (ops : List Int) (h : shapeP ops = 0) : stN ops ops.length = [] := by
  have hh := stN_sh ops h _ (Nat.le_refl _)
  unfold ShP at hh
  rcases hh with hh | ⟨xs, h1, _⟩
  · exact List.eq_nil_of_length_eq_zero hh.2
  · rw [List.drop_length, shR] at h1; cases h1

theorem stN_mem (ops : List Int) : ∀ n, ∀ j ∈ stN ops n, j < n ∧ opensI (ops.getD j 0) = true
  | 0, j, h => by simp [stN] at h
  | n + 1, j, h => by
    unfold stN stepS at h
    split at h
    · rcases List.mem_cons.1 h with rfl | h
      · exact ⟨by omega, by assumption⟩
      · have := stN_mem ops n j h; exact ⟨by omega, this.2⟩
    · split at h
      · have := stN_mem ops n j (List.mem_of_mem_tail h); exact ⟨by omega, this.2⟩
      · have := stN_mem ops n j h; exact ⟨by omega, this.2⟩

theorem stN_nodup (ops : List Int) : ∀ n, (stN ops n).Nodup
  | 0 => by simp [stN]
  | n + 1 => by
    have ih := stN_nodup ops n
    unfold stN stepS
    split
    · rw [List.nodup_cons]; exact ⟨fun h => by have := (stN_mem ops n n h).1; omega, ih⟩
    · split
      · exact ih.sublist (List.tail_sublist _)
      · exact ih

/-- Of a block that began: it is open yet, or it has ended. -/
def BlkAt (ops : List Int) (n j : Nat) : Prop :=
  (∃ (d : Nat) (ot : Int), (stN ops n)[d]? = some j ∧ -1 ≤ ot ∧ ot < n ∧ seekP ops j = seekR (ops.drop n) n d ot) ∨ (j ∉ stN ops n ∧ (j : Int) < (seekP ops j).1 ∧ (seekP ops j).1 < n ∧ -1 ≤ (seekP ops j).2 ∧ (seekP ops j).2 < n)

theorem blkAt (ops : List Int) : ∀ n, n ≤ ops.length → ∀ j, j < n → opensI (ops.getD j 0) = true → BlkAt ops n j
  | 0, _, j, h, _ => by omega
  | n + 1, hn, j, hj, hoj => by
    have hd := drop_getD (l := ops) (n := n) (by omega)
    have hnd := stN_nodup ops n
    have hmem := stN_mem ops n
    by_cases hjn : j = n
    · subst hjn
      refine .inl ⟨0, -1, ?_, by omega, by omega, rfl⟩
      unfold stN stepS
      rw [if_pos hoj]; rfl
    · rcases blkAt ops n (by omega) j (by omega) hoj with ⟨d, ot, h1, h2, h3, h4⟩ | ⟨h1, h2, h3, h4, h5⟩
      · rw [hd, seekR] at h4
        have hjm := hmem j (List.mem_of_getElem? h1)
        unfold BlkAt
        rw [show stN ops (n + 1) = stepS (ops.getD n 0) n (stN ops n) from rfl]
        unfold stepS
        by_cases ho : opensI (ops.getD n 0) = true
        · rw [if_pos ho] at h4 ⊢
          exact .inl ⟨d + 1, ot, by simpa using h1, h2, by omega, h4⟩
        · rw [if_neg ho] at h4 ⊢
          by_cases h5 : ops.getD n 0 = 5
          · rw [if_neg (show ¬ ops.getD n 0 = 11 by omega)]
            by_cases hd0 : (d : Int) = 0
            · rw [if_pos ⟨h5, hd0⟩] at h4
              exact .inl ⟨d, n, h1, by omega, by omega, h4⟩
            · rw [if_neg (by omega), if_neg (by omega)] at h4
              exact .inl ⟨d, ot, h1, h2, by omega, h4⟩
          · rw [if_neg (by omega)] at h4
            by_cases h11 : ops.getD n 0 = 11
            · rw [if_pos h11] at h4 ⊢
              by_cases hd0 : (d : Int) = 0
              · rw [if_pos hd0] at h4
                obtain rfl : d = 0 := by omega
                refine .inr ⟨?_, by rw [h4]; simp; omega, by rw [h4]; simp only; omega, by rw [h4]; simpa using h2, by rw [h4]; simp only; omega⟩
                cases hst : stN ops n with
                | nil => rw [hst] at h1; simp at h1
                | cons x xs =>
                  rw [hst] at h1 hnd
                  simp at h1; subst h1
                  exact (List.nodup_cons.1 hnd).1
              · rw [if_neg hd0] at h4
                refine .inl ⟨d - 1, ot, ?_, h2, by omega, h4⟩
                rw [List.getElem?_tail, show d - 1 + 1 = d by omega]; exact h1
            · rw [if_neg h11] at h4 ⊢
              exact .inl ⟨d, ot, h1, h2, by omega, h4⟩
      · refine .inr ⟨fun h => ?_, h2, by omega, h4, by omega⟩
        unfold stN stepS at h
        split at h
        · rcases List.mem_cons.1 h with h | h
          · exact hjn h
          · exact h1 h
        · split at h
          · exact h1 (List.mem_of_mem_tail h)
          · exact h1 h

theorem seek_found (ops : List Int) (h : shapeP ops = 0) {j : Nat} (hj : j < ops.length) (ho : opensI (ops.getD j 0) = true) : (j : Int) < (seekP ops j).1 ∧ (seekP ops j).1 < ops.length := by
  rcases blkAt ops _ (Nat.le_refl _) j hj ho with ⟨d, ot, h1, _⟩ | ⟨_, h2, h3, _⟩
  · rw [stN_end ops h] at h1; simp at h1
  · exact ⟨h2, h3⟩

/- THE DEPTH. -/
theorem seekR_ge : ∀ (r : List Int) (n d : Nat) (ot : Int), ((seekR r n d ot).1 = -1 ∨ (n : Int) ≤ (seekR r n d ot).1)
  | [], n, d, ot => .inl rfl
  | o :: r, n, d, ot => by
    unfold seekR
    split
    · rcases seekR_ge r (n + 1) (d + 1) ot with h | h <;> omega
    · split
      · rcases seekR_ge r (n + 1) d n with h | h <;> omega
      · split
        · split
          · right; exact Int.le_refl _
          · rcases seekR_ge r (n + 1) (d - 1) ot with h | h <;> omega
        · rcases seekR_ge r (n + 1) d ot with h | h <;> omega
theorem seekR_ot : ∀ (r : List Int) (n d : Nat) (ot : Int), (seekR r n d ot).2 = -1 ∨ (seekR r n d ot).2 = ot ∨ (n : Int) ≤ (seekR r n d ot).2
  | [], n, d, ot => .inl rfl
  | o :: r, n, d, ot => by
    unfold seekR
    split
    · rcases seekR_ot r (n + 1) (d + 1) ot with h | h | h <;> omega
    · split
      · rcases seekR_ot r (n + 1) d n with h | h | h <;> omega
      · split
        · split
          · right; left; rfl
          · rcases seekR_ot r (n + 1) (d - 1) ot with h | h | h <;> omega
        · rcases seekR_ot r (n + 1) d ot with h | h | h <;> omega

/-- Is a block counted at a place? -/
def cntB (ops : List Int) (at0 j : Nat) : Prop := opensI (ops.getD j 0) = true ∧ (at0 : Int) < (seekP ops j).1 ∧ (at0 : Int) ≠ (seekP ops j).2

theorem cntB_iff (ops : List Int) (hs : shapeP ops = 0) (at0 j : Nat) (ha : at0 < ops.length) (hj : j < at0) :
    cntB ops at0 j ↔ j ∈ stN ops at0 ∧ ¬ ((stN ops at0)[0]? = some j ∧ (ops.getD at0 0 = 11 ∨ ops.getD at0 0 = 5)) := by
  have hd := drop_getD (l := ops) (n := at0) ha
  unfold cntB
  constructor
  · rintro ⟨ho, h1, h2⟩
    rcases blkAt ops at0 (by omega) j hj ho with ⟨d, ot, g1, g2, g3, g4⟩ | ⟨_, _, g3, _⟩
    · refine ⟨List.mem_of_getElem? g1, ?_⟩
      rintro ⟨e0, e1⟩
      have hd0 : d = 0 := by
        have hnd := stN_nodup ops at0
        exact (List.getElem?_inj (List.getElem?_eq_some_iff.1 g1).1 hnd).1 (g1.trans e0.symm)
      subst hd0
      rw [hd, seekR] at g4
      have hno : ¬ opensI (ops.getD at0 0) = true := fun h => by have := opens_ne h; omega
      rw [if_neg hno] at g4
      rcases e1 with e1 | e1
      · rw [if_neg (by omega), if_pos e1, if_pos (show ((0 : Nat) : Int) = 0 from rfl)] at g4
        rw [g4] at h1; simp at h1
      · rw [if_pos ⟨e1, rfl⟩] at g4
        rcases seekR_ot (ops.drop (at0 + 1)) (at0 + 1) 0 at0 with h | h | h
        · -- the else is lost only where no end is found
          have hf := seek_found ops hs (by omega) ho
          rw [g4] at hf h2
          have : ∀ (r : List Int) (n d : Nat) (ot : Int), 0 ≤ ot → (seekR r n d ot).2 = -1 → (seekR r n d ot).1 = -1 := by
            intro r
            induction r with
            | nil => intros; rfl
            | cons o r ih =>
              intro n d ot hot he
              unfold seekR at he ⊢
              split at he
              · rename_i hh; rw [if_pos hh]; exact ih _ _ _ hot he
              · rename_i hh; rw [if_neg hh]
                split at he
                · rename_i hh2; rw [if_pos hh2]; exact ih _ _ _ (by omega) he
                · rename_i hh2; rw [if_neg hh2]
                  split at he
                  · rename_i hh3; rw [if_pos hh3]
                    split at he
                    · simp only at he; omega
                    · rename_i hh4; rw [if_neg hh4]; exact ih _ _ _ hot he
                  · rename_i hh3; rw [if_neg hh3]; exact ih _ _ _ hot he
          have := this _ _ _ _ (by omega) h
          omega
        · rw [g4] at h2; exact h2 h.symm
        · -- a later else of the same block: it is not this one; but then another else stood here: the shape forbids it
          exfalso
          have : ∀ (r : List Int) (n d k : Nat) (xs : List Int) (ot : Int), shR ops.length r xs n = 0 → xs.length = k → xs.getD (k - 1 - d) 0 = 5 → d < k - 1 → (seekR r n d ot).2 = -1 ∨ (seekR r n d ot).2 = ot := by
            intro r
            induction r with
            | nil => intro n d k xs ot h; cases h
            | cons o r ih =>
              intro n d k xs ot h hk h5 hdk
              unfold shR at h
              unfold seekR
              split at h
              · rename_i hh; rw [if_pos hh]
                exact ih (n + 1) (d + 1) (k + 1) _ ot h (by simp [hk]) (by
                  rw [List.getD_eq_getElem?_getD, List.getElem?_append_left (by omega), ← List.getD_eq_getElem?_getD, show k + 1 - 1 - (d + 1) = k - 1 - d by omega]; exact h5) (by omega)
              · rename_i hh; rw [if_neg hh]
                split at h
                · rename_i h55
                  split at h
                  · cases h
                  · rename_i hx
                    have hx := Decidable.of_not_not hx
                    have hd1 : d ≠ 0 := by
                      rintro rfl
                      rw [hk] at hx
                      rw [show k - 1 - 0 = k - 1 by omega, hx] at h5; cases h5
                    rw [if_neg (by omega), if_neg (by omega)]
                    exact ih (n + 1) d k _ ot h (by simp [hk]) (by
                      rw [List.getD_eq_getElem?_getD, List.getElem?_set_ne (by omega), ← List.getD_eq_getElem?_getD]; exact h5) hdk
                · rename_i h55
                  rw [if_neg (by omega)]
                  split at h
                  · rename_i h11; rw [if_pos h11]
                    split at h
                    · omega
                    · split
                      · right; rfl
                      · exact ih (n + 1) (d - 1) (k - 1) _ ot h (by rw [List.length_take]; omega) (by
                          rw [List.getD_eq_getElem?_getD, List.getElem?_take, if_pos (by omega), ← List.getD_eq_getElem?_getD, show k - 1 - 1 - (d - 1) = k - 1 - d by omega]; exact h5) (by omega)
                  · rename_i h11; rw [if_neg h11]
                    exact ih (n + 1) d k _ ot h hk h5 hdk
          have hsh := stN_sh ops hs at0 (by omega)
          have hpos := hsh.pos hd hno e1
          rcases hsh with ⟨hx, _⟩ | ⟨xs, x1, x2, x3⟩
          · omega
          · rw [hd, shR, if_neg hno, if_pos e1] at x1
            split at x1
            · cases x1
            · have hl : (xs.set (xs.length - 1) 5).length = xs.length := List.length_set ..
              have := this _ (at0 + 1) 0 xs.length _ at0 x1 hl (by
                rw [List.getD_eq_getElem?_getD, show xs.length - 1 - 0 = xs.length - 1 by omega, List.getElem?_set_self (by omega)]; rfl) (by omega)
              omega
    · omega
  · rintro ⟨hm, hne⟩
    have ho := (stN_mem ops at0 j hm).2
    refine ⟨ho, ?_⟩
    rcases blkAt ops at0 (by omega) j hj ho with ⟨d, ot, g1, g2, g3, g4⟩ | ⟨g1, _⟩
    · have hf := seek_found ops hs (by omega) ho
      have g5 := g4
      rw [hd, seekR] at g4
      by_cases hoo : opensI (ops.getD at0 0) = true
      · rw [if_pos hoo] at g4
        rw [g4] at hf ⊢
        have a1 := seekR_ge (ops.drop (at0 + 1)) (at0 + 1) (d + 1) ot
        have a2 := seekR_ot (ops.drop (at0 + 1)) (at0 + 1) (d + 1) ot
        omega
      · rw [if_neg hoo] at g4
        by_cases hz : d = 0
        · subst hz
          have : ¬ (ops.getD at0 0 = 11 ∨ ops.getD at0 0 = 5) := fun h => hne ⟨g1, h⟩
          rw [if_neg (by omega), if_neg (by omega)] at g4
          rw [g4] at hf ⊢
          have a1 := seekR_ge (ops.drop (at0 + 1)) (at0 + 1) 0 ot
          have a2 := seekR_ot (ops.drop (at0 + 1)) (at0 + 1) 0 ot
          omega
        · rw [if_neg (by omega)] at g4
          have key : ∃ d', seekP ops j = seekR (ops.drop (at0 + 1)) (at0 + 1) d' ot := by
            split at g4
            · rw [if_neg (by omega)] at g4; exact ⟨_, g4⟩
            · exact ⟨_, g4⟩
          obtain ⟨d', g6⟩ := key
          rw [g6] at hf ⊢
          have a1 := seekR_ge (ops.drop (at0 + 1)) (at0 + 1) d' ot
          have a2 := seekR_ot (ops.drop (at0 + 1)) (at0 + 1) d' ot
          omega
    · exact absurd hm g1
end Go.Proofs.Ytahgkfekggkjnaa
