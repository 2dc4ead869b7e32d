/- What is proved here: lists that are led by a map of places; swaps, rotations: plain. -/
import Derived.Test.YtbllifhcfgjdlaaGgU
namespace Go.Proofs.Ytbllifhcfgjdlaa
open Go.RowKit FltT
set_option linter.unusedVariables false
set_option linter.unusedSimpArgs false
theorem getD_set (l : List Nat) (i j x : Nat) : (l.set i x).getD j 0 = if j = i ∧ i < l.length then x else l.getD j 0 := by
  rw [List.getD_eq_getElem?_getD, List.getElem?_set, List.getD_eq_getElem?_getD]
  by_cases h : i = j
  · subst h
    by_cases h2 : i < l.length
    · simp [h2]
    · simp [h2]
  · rw [if_neg h, if_neg (fun hh => h hh.1.symm)]
/-- l' is l, led by τ -/
structure Via (τ : Nat → Nat) (l l' : List Nat) : Prop where
  perm : l'.Perm l
  at' : ∀ i, l'.getD i 0 = l.getD (τ i) 0
theorem Via.len {τ : Nat → Nat} {l l' : List Nat} (h : Via τ l l') : l'.length = l.length := h.perm.length_eq
theorem Via.refl (l : List Nat) : Via id l l := ⟨List.Perm.refl _, fun _ => rfl⟩
theorem Via.trans {τ υ : Nat → Nat} {l l' l'' : List Nat} (h : Via τ l l') (h2 : Via υ l' l'') : Via (fun i => τ (υ i)) l l'' := ⟨h2.perm.trans h.perm, fun i => by rw [h2.at', h.at']⟩
theorem Via.congr {τ τ' : Nat → Nat} {l l' : List Nat} (h : Via τ l l') (e : ∀ i, τ i = τ' i) : Via τ' l l' := ⟨h.perm, fun i => by rw [h.at', e]⟩
theorem Via.allW {τ : Nat → Nat} {l l' : List Nat} (h : Via τ l l') (hW : allW l) : allW l' := fun x hx => hW x (h.perm.mem_iff.1 hx)
def swpT (x y i : Nat) : Nat := if i = y then x else if i = x then y else i
theorem swap_perm {l : List Nat} {x y : Nat} (hx : x < l.length) (hy : y < l.length) (hne : x ≠ y) : ((l.set x (l.getD y 0)).set y (l.getD x 0)).Perm l := by
  rw [List.perm_iff_count]
  intro a
  rw [List.count_set (by simpa using hy), List.count_set hx]
  have e1 : (l.set x (l.getD y 0))[y]'(by simpa using hy) = l[y] := by rw [List.getElem_set_ne hne]
  have e2 : l.getD y 0 = l[y] := by rw [List.getD_eq_getElem?_getD, List.getElem?_eq_getElem hy]; rfl
  have e3 : l.getD x 0 = l[x] := by rw [List.getD_eq_getElem?_getD, List.getElem?_eq_getElem hx]; rfl
  rw [e1, e2, e3]
  have c1 : (if l[x] == a then 1 else 0) ≤ l.count a := by
    split
    · rename_i h
      rw [beq_iff_eq] at h
      exact List.one_le_count_iff.2 (h ▸ List.getElem_mem hx)
    · omega
  omega
theorem via_swap {l : List Nat} {x y : Nat} (hx : x < l.length) (hy : y < l.length) (hne : x ≠ y) : Via (swpT x y) l ((l.set x (l.getD y 0)).set y (l.getD x 0)) := by
  refine ⟨swap_perm hx hy hne, fun i => ?_⟩
  rw [getD_set, getD_set, List.length_set]
  unfold swpT
  by_cases h1 : i = y
  · rw [if_pos ⟨h1, hy⟩, if_pos h1]
  · rw [if_neg (fun h => h1 h.1), if_neg h1]
    by_cases h2 : i = x
    · rw [if_pos ⟨h2, hx⟩, if_pos h2]
    · rw [if_neg (fun h => h2 h.1), if_neg h2]
/-- n elements at a and n at b change places -/
def sgm (a b n i : Nat) : Nat := if a ≤ i ∧ i < a + n then i - a + b else if b ≤ i ∧ i < b + n then i - b + a else i
theorem sgm_zero (a b i : Nat) : id i = sgm a b 0 i := by
  unfold sgm
  rw [if_neg (by omega), if_neg (by omega)]; rfl
theorem sgm_step {a b n : Nat} (h : a + n < b) (i : Nat) : sgm a b n (swpT (a + n) (b + n) i) = sgm a b (n + 1) i := by
  unfold sgm swpT
  repeat' split
  all_goals omega
/-- a rotation: [m, b) comes ahead of [a, m) -/
def rot (a m b i : Nat) : Nat := if i < a then i else if i < a + (b - m) then i + (m - a) else if i < b then i - (b - m) else i
theorem rot_gt {m i j : Nat} (hi : i ≤ m) (hj : j < i) (k : Nat) : sgm (m - i) m j (rot (m - (i - j)) m (m + j) k) = rot (m - i) m (m + j) k := by
  unfold sgm rot
  repeat' split
  all_goals omega
theorem rot_lt {m i j : Nat} (hi : i ≤ m) (hj : i < j) (k : Nat) : sgm (m - i) (m + j - i) i (rot (m - i) m (m + (j - i)) k) = rot (m - i) m (m + j) k := by
  unfold sgm rot
  repeat' split
  all_goals omega
theorem rot_eq {m i : Nat} (hi : i ≤ m) (k : Nat) : sgm (m - i) m i k = rot (m - i) m (m + i) k := by
  unfold sgm rot
  repeat' split
  all_goals omega
theorem rot_nil {a m : Nat} (h : a ≤ m) (k : Nat) : rot a m m k = k := by
  unfold rot
  repeat' split
  all_goals omega
end Go.Proofs.Ytbllifhcfgjdlaa
