/- What is proved here: plain functions of blocks. -/
import Derived.Test.YtahgkfekggkjnaaSxM
namespace Go.Proofs.Ytahgkfekggkjnaa
open Go.RowKit

abbrev Ins := Int × Int × Int × Sl Int × Unit
def vIns (d : Ins) : List Value := vInt .u8 d.1 ++ (vInt .u64 d.2.1 ++ (vInt .u64 d.2.2.1 ++ (vSl d.2.2.2.1 ++ [])))
def opensI (x : Int) : Bool := (decide (x = (2 : Int)) || decide (x = (3 : Int))) || decide (x = (4 : Int))
def opl (l : List Ins) : List Int := l.map (·.1)
theorem opl_length (l : List Ins) : (opl l).length = l.length := by simp [opl]
theorem opl_drop {l : List Ins} {n : Nat} {y : Ins} (h : l[n]? = some y) : (opl l).drop n = y.1 :: (opl l).drop (n + 1) := by
  have hn := (List.getElem?_eq_some_iff.1 h).1
  rw [List.drop_eq_getElem_cons (by rw [opl_length]; exact hn)]
  congr 1
  have := (List.getElem?_eq_some_iff.1 h).2
  simp [opl, this]
theorem opl_end {l : List Ins} {n : Nat} (h : l.length ≤ n) : (opl l).drop n = [] := List.drop_eq_nil_of_le (by rw [opl_length]; exact h)

/-- From a place on: where the block ends, and its else. -/
def seekR : List Int → Nat → Nat → Int → Int × Int
  | [], _, _, _ => (-1, -1)
  | o :: r, n, dp, ot => if opensI o = true then seekR r (n + 1) (dp + 1) ot else if o = 5 ∧ (dp : Int) = 0 then seekR r (n + 1) dp n else if o = 11 then (if (dp : Int) = 0 then (n, ot) else seekR r (n + 1) (dp - 1) ot) else seekR r (n + 1) dp ot
def seekP (l : List Int) (at0 : Nat) : Int × Int := seekR (l.drop (at0 + 1)) (at0 + 1) 0 (-1)

/-- As the document walks: with a string. -/
def walkR : List Int → ByteArray → Nat → Int × Int
  | [], _, _ => (0, -1)
  | o :: r, s, n => if o = 2 then walkR r (s ++ ⟨#[98]⟩) (n + 1) else if o = 3 then walkR r (s ++ ⟨#[98]⟩) (n + 1) else if o = 4 then walkR r (s ++ ⟨#[105]⟩) (n + 1) else
    if o = 5 then (if s = ⟨#[]⟩ ∨ ((sbt s (s.size - 1) : Nat) : Int) ≠ 105 then (0, n) else walkR r (s.extract 0 (s.size - 1) ++ ⟨#[101]⟩) (n + 1)) else
    if o = 11 then (if s = ⟨#[]⟩ then (n + 1, -1) else walkR r (s.extract 0 (s.size - 1)) (n + 1)) else walkR r s (n + 1)
def rshapeP (l : List Int) : Int := if 20000 < (l.length : Int) then 29 else if (walkR l ⟨#[]⟩ 0).1 = 0 ∨ (walkR l ⟨#[]⟩ 0).1 ≠ l.length then 30 else 0

/-- As the program does: with a row of first bytes. -/
def shR (len : Nat) : List Int → List Int → Nat → Int
  | [], _, _ => 30
  | o :: r, xs, n => if opensI o = true then shR len r (xs ++ [o]) (n + 1) else if o = 5 then (if xs.getD (xs.length - 1) 0 ≠ 4 then 30 else shR len r (xs.set (xs.length - 1) 5) (n + 1)) else
    if o = 11 then (if ((xs.length - 1 : Nat) : Int) = 0 then (if decide ((n : Int) = (len : Int) - 1) = true then 0 else 30) else shR len r (xs.take (xs.length - 1)) (n + 1)) else shR len r xs (n + 1)
def shapeP (l : List Int) : Int := if 20000 < (l.length : Int) then 29 else shR l.length l [0] 0

theorem getD_mem' {l : List Int} {j : Nat} (h : j < l.length) : l.getD j 0 ∈ l := by
  rw [List.getD_eq_getElem?_getD, List.getElem?_eq_getElem h]; exact List.getElem_mem h
theorem opl_getD {l : List Ins} {n : Nat} {y : Ins} (h : l[n]? = some y) : (opl l).getD n 0 = y.1 := by
  rw [List.getD_eq_getElem?_getD]; simp [opl, h]

/-- Blocks that begin ahead of a place and end behind it. -/
def dcR (ops : List Int) (at0 : Nat) : Nat → Int
  | 0 => 0
  | i + 1 => if opensI (ops.getD i 0) = true then (if (at0 : Int) < (seekP ops i).1 ∧ (at0 : Int) ≠ (seekP ops i).2 then dcR ops at0 i + 1 else dcR ops at0 i) else dcR ops at0 i
theorem dcR_eq (ops : List Int) (at0 i : Nat) : dcR ops at0 (i + 1) = if opensI (ops.getD i 0) = true then (if (at0 : Int) < (seekP ops i).1 ∧ (at0 : Int) ≠ (seekP ops i).2 then dcR ops at0 i + 1 else dcR ops at0 i) else dcR ops at0 i := rfl
theorem dcR_le (ops : List Int) (at0 : Nat) : ∀ i, 0 ≤ dcR ops at0 i ∧ dcR ops at0 i ≤ i
  | 0 => ⟨Int.le_refl _, Int.le_refl _⟩
  | i + 1 => by
    have := dcR_le ops at0 i
    unfold dcR
    split
    · split <;> omega
    · omega
def depthP (ops : List Int) (at0 : Nat) : Int := if (at0 : Int) = (ops.length : Int) - 1 then dcR ops at0 at0 - 1 else dcR ops at0 at0

/-- How many blocks are open ahead of each instruction. -/
def dlR : List Int → Int → List Int
  | [], _ => []
  | o :: r, d => if o = 11 ∨ o = 5 then (if opensI o = true ∨ o = 5 then (d - 1) :: dlR r (d - 1 + 1) else (d - 1) :: dlR r (d - 1)) else (if opensI o = true ∨ o = 5 then d :: dlR r (d + 1) else d :: dlR r d)
theorem dlR_length : ∀ (l : List Int) (d : Int), (dlR l d).length = l.length
  | [], _ => rfl
  | o :: r, d => by
    unfold dlR
    split <;> split <;> simp [dlR_length r]
def depthsP (ops : List Int) : List Int := if shapeP ops ≠ 0 then [] else dlR ops 0

theorem depthsP_le (ops : List Int) : (depthsP ops).length ≤ ops.length := by
  unfold depthsP; split
  · simp
  · rw [dlR_length]; exact Nat.le_refl _
theorem dlR_bd : ∀ (l : List Int) (d : Int), ∀ x ∈ dlR l d, d - l.length ≤ x ∧ x ≤ d + l.length
  | [], _, x, h => by simp [dlR] at h
  | o :: r, d, x, h => by
    unfold dlR at h
    simp only [List.length_cons]
    split at h <;> split at h <;> rcases List.mem_cons.1 h with h | h <;> first | omega | (have := dlR_bd r _ x h; omega)
theorem depthsP_bd (ops : List Int) : ∀ x ∈ depthsP ops, -(ops.length : Int) ≤ x ∧ x ≤ ops.length := by
  intro x hx
  unfold depthsP at hx
  split at hx
  · simp at hx
  · have := dlR_bd _ _ x hx; omega
theorem drop_getD {l : List Int} {n : Nat} (h : n < l.length) : l.drop n = l.getD n 0 :: l.drop (n + 1) := by
  rw [List.drop_eq_getElem_cons h, List.getD_eq_getElem?_getD, List.getElem?_eq_getElem h]; rfl
def deepR : List Int → List Int → Int → Int
  | o :: r, d :: ds, n => if opensI o = true then deepR r ds (if n < d + 1 then d + 1 else n) else deepR r ds (if n < d then d else n)
  | _, _, n => n

theorem deepR_nil (l : List Int) (n : Int) : deepR l [] n = n := by cases l <;> rfl

/-- The end of each block, and its else. -/
def ofR : List Int → Nat → List Int → List Int → List Int → List Int × List Int
  | [], _, _, en, el => (en, el)
  | o :: r, n, op, en, el => if opensI o = true then ofR r (n + 1) (op ++ [(n : Int)]) (en.set n (-1)) (el.set n (-1)) else
    if o = 5 then ofR r (n + 1) op (en.set n (-1)) ((el.set n (-1)).set (op.getD (op.length - 1) 0).toNat n) else
    if o = 11 ∧ 0 < (op.length : Int) then ofR r (n + 1) (op.take (op.length - 1)) ((en.set n (-1)).set (op.getD (op.length - 1) 0).toNat n) (el.set n (-1)) else ofR r (n + 1) op (en.set n (-1)) (el.set n (-1))
def ofP (ops : List Int) : List Int × List Int := ofR ops 0 [] (List.replicate ops.length 0) (List.replicate ops.length 0)

def ofQ (ops : List Int) : List Int × List Int := if shapeP ops ≠ 0 then ([], []) else ofP ops

/-- The shape's walk at a place where so many blocks are open. -/
def ShP (ops : List Int) (n k : Nat) : Prop := (n = ops.length ∧ k = 0) ∨ ∃ xs : List Int, shR ops.length (ops.drop n) xs n = 0 ∧ xs.length = k + 1 ∧ xs.getD 0 0 = 0
theorem ShP.start {ops : List Int} (h : ¬ shapeP ops ≠ 0) : ShP ops 0 0 := by
  have h := Decidable.of_not_not h
  unfold shapeP at h
  split at h
  · cases h
  · exact .inr ⟨[0], h, rfl, rfl⟩
section
variable {ops : List Int} {n k : Nat} {o : Int} {r : List Int}
theorem ShP.lt (hd : ops.drop n = o :: r) : n < ops.length := by
  rcases Nat.lt_or_ge n ops.length with h | h
  · exact h
  · rw [List.drop_eq_nil_of_le h] at hd; cases hd
theorem ShP.drop1 (hd : ops.drop n = o :: r) : ops.drop (n + 1) = r := by
  rw [← List.drop_drop, hd]; rfl
theorem ShP.opens (h : ShP ops n k) (hd : ops.drop n = o :: r) (ho : opensI o = true) : ShP ops (n + 1) (k + 1) := by
  rcases h with h | ⟨xs, h1, h2, h3⟩
  · have := ShP.lt hd; omega
  · rw [hd, shR, if_pos ho] at h1
    refine .inr ⟨xs ++ [o], by rw [ShP.drop1 hd]; exact h1, by simp [h2], ?_⟩
    cases xs with
    | nil => simp at h2
    | cons x xs => exact h3
theorem ShP.pos (h : ShP ops n k) (hd : ops.drop n = o :: r) (ho : ¬ opensI o = true) (h5 : o = 5) : 0 < k := by
  rcases h with h | ⟨xs, h1, h2, h3⟩
  · have := ShP.lt hd; omega
  · rw [hd, shR, if_neg ho, if_pos h5] at h1
    rcases Nat.eq_zero_or_pos k with hk | hk
    · subst hk
      rw [h2] at h1
      simp only [Nat.zero_add, Nat.sub_self, h3] at h1
      simp at h1
    · exact hk
theorem ShP.els (h : ShP ops n k) (hd : ops.drop n = o :: r) (ho : ¬ opensI o = true) (h5 : o = 5) : ShP ops (n + 1) k := by
  have hk := h.pos hd ho h5
  rcases h with h | ⟨xs, h1, h2, h3⟩
  · have := ShP.lt hd; omega
  · rw [hd, shR, if_neg ho, if_pos h5] at h1
    split at h1
    · cases h1
    · refine .inr ⟨_, by rw [ShP.drop1 hd]; exact h1, by simp [h2], ?_⟩
      rw [List.getD_eq_getElem?_getD, List.getElem?_set_ne (by omega), ← List.getD_eq_getElem?_getD]; exact h3
theorem ShP.fin (h : ShP ops n k) (hd : ops.drop n = o :: r) (ho : ¬ opensI o = true) (h5 : ¬ o = 5) (h11 : o = 11 ∧ 0 < (k : Int)) : ShP ops (n + 1) (k - 1) := by
  rcases h with h | ⟨xs, h1, h2, h3⟩
  · have := ShP.lt hd; omega
  · rw [hd, shR, if_neg ho, if_neg h5, if_pos h11.1, if_neg (by omega)] at h1
    refine .inr ⟨_, by rw [ShP.drop1 hd]; exact h1, by rw [List.length_take]; omega, ?_⟩
    rw [List.getD_eq_getElem?_getD, List.getElem?_take, if_pos (by omega), ← List.getD_eq_getElem?_getD]; exact h3
theorem ShP.other (h : ShP ops n k) (hd : ops.drop n = o :: r) (ho : ¬ opensI o = true) (h5 : ¬ o = 5) (h11 : ¬ (o = 11 ∧ 0 < (k : Int))) : ShP ops (n + 1) k := by
  rcases h with h | ⟨xs, h1, h2, h3⟩
  · have := ShP.lt hd; omega
  · rw [hd, shR, if_neg ho, if_neg h5] at h1
    by_cases hb : o = 11
    · rw [if_pos hb, if_pos (by omega)] at h1
      split at h1
      · rename_i h4
        simp only [decide_eq_true_eq] at h4
        have := ShP.lt hd
        exact .inl ⟨by omega, by omega⟩
      · cases h1
    · rw [if_neg hb] at h1
      exact .inr ⟨xs, by rw [ShP.drop1 hd]; exact h1, h2, h3⟩
end
end Go.Proofs.Ytahgkfekggkjnaa
