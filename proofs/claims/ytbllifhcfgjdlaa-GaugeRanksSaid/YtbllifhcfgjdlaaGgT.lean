/- What is proved here: the reference's sort of floats, least and greatest, sums: plain. -/
import Derived.Test.YtbllifhcfgjdlaaGgS
import Derived.Test.YtbllifhcfgjdlaaSxC3
namespace Go.Proofs.Ytbllifhcfgjdlaa
open Go.RowKit FltT
set_option linter.unusedVariables false
set_option linter.unusedSimpArgs false
def atN (row : List Nat) (x : Nat) : Nat → Nat
  | 0 => 0
  | n + 1 => if 0 < ordN (row.getD n 0) x then atN row x n else n + 1
def insS (row : List Nat) (x : Nat) : List Nat := row.take (atN row x row.length) ++ [x] ++ row.drop (atN row x row.length)
def sortP (l : List Nat) : List Nat := l.foldl insS []
theorem atN_le (row : List Nat) (x : Nat) : ∀ n, atN row x n ≤ n
  | 0 => Nat.le_refl _
  | n + 1 => by
    unfold atN
    split
    · have := atN_le row x n; omega
    · exact Nat.le_refl _
theorem insS_len (row : List Nat) (x : Nat) : (insS row x).length = row.length + 1 := by
  have := atN_le row x row.length
  unfold insS
  simp only [List.length_append, List.length_take, List.length_drop, List.length_cons, List.length_nil]
  omega
theorem sortP_step {l : List Nat} {i y : Nat} (h : l[i]? = some y) : sortP (l.take (i + 1)) = insS (sortP (l.take i)) y := by
  unfold sortP
  rw [List.take_add_one, h, List.foldl_append]
  rfl
theorem foldl_insS_len (l : List Nat) : ∀ r : List Nat, (l.foldl insS r).length = r.length + l.length := by
  induction l with
  | nil => intro r; rfl
  | cons x l ih => intro r; rw [List.foldl_cons, ih, insS_len, List.length_cons]; omega
theorem sortP_len (l : List Nat) : (sortP l).length = l.length := by
  unfold sortP; rw [foldl_insS_len]; simp
theorem allW_insS {row : List Nat} {x : Nat} (h : allW row) (hx : x < 18446744073709551616) : allW (insS row x) := by
  intro y hy
  unfold insS at hy
  simp only [List.mem_append, List.mem_cons, List.not_mem_nil, or_false] at hy
  rcases hy with (hy | hy) | hy
  · exact h y (List.mem_of_mem_take hy)
  · rw [hy]; exact hx
  · exact h y (List.mem_of_mem_drop hy)
theorem allW_fold : ∀ (l r : List Nat), allW l → allW r → allW (l.foldl insS r)
  | [], r, _, h => h
  | x :: l, r, hl, h => allW_fold l (insS r x) (fun y hy => hl y (List.mem_cons_of_mem _ hy)) (allW_insS h (hl x List.mem_cons_self))
theorem allW_sortP {l : List Nat} (h : allW l) : allW (sortP l) := allW_fold l [] h (fun x hx => by cases hx)
theorem allW_take {l : List Nat} (h : allW l) (n : Nat) : allW (l.take n) := fun x hx => h x (List.mem_of_mem_take hx)
theorem atN_go {row : List Nat} {x q : Nat} (h0 : 0 < q) (h : 0 < ordN (row.getD (q - 1) 0) x) : atN row x q = atN row x (q - 1) := by
  obtain ⟨k, rfl⟩ : ∃ k, q = k + 1 := ⟨q - 1, by omega⟩
  rw [Nat.add_sub_cancel] at *
  rw [atN, if_pos h]
theorem atN_end {row : List Nat} {x q : Nat} (h : ¬ (0 < q ∧ 0 < ordN (row.getD (q - 1) 0) x)) : atN row x q = q := by
  cases q with
  | zero => rfl
  | succ k =>
    rw [Nat.add_sub_cancel] at h
    rw [atN, if_neg (fun h2 => h ⟨by omega, h2⟩)]
theorem row_off {α : Type} {k e base n c : Nat} {V : α → List Value} {w : World} {a : Option Addr} {l : List α} (h : Row k V e base w (.slice a n c) l) : ∀ A, a = some A → ∃ b off, A = ⟨b, off, none⟩ := by
  intro A hA
  rcases h.2 with ⟨hv, _⟩ | ⟨g, cap, cur, hv, _⟩
  · simp at hv; rw [hv.1] at hA; cases hA
  · simp at hv; rw [hv.1] at hA; cases hA; exact ⟨g, 0, rfl⟩
/-- the numbers of a list -/
def numsL (l : List Nat) : List Nat := l.filter (fun x => decide (kindN x ≠ 0))
theorem numsL_step {l : List Nat} {i y : Nat} (h : l[i]? = some y) : numsL (l.take (i + 1)) = if kindN y ≠ 0 then numsL (l.take i) ++ [y] else numsL (l.take i) := by
  unfold numsL
  rw [List.take_add_one, h, List.filter_append]
  by_cases hk : kindN y = 0 <;> simp [hk]
theorem numsL_len (l : List Nat) : (numsL l).length ≤ l.length := List.length_filter_le _ _
theorem allW_nums {l : List Nat} (h : allW l) : allW (numsL l) := fun x hx => h x ((List.mem_filter.1 hx).1)
/-- the sum of a list, up to a NaN -/
inductive SumR : List Nat → Nat → Prop
  | nil : SumR [] 0
  | snoc {l : List Nat} {s y r : Nat} : SumR l s → FRes .add s y r → SumR (l ++ [y]) r
/-- what Add makes of a gauge -/
def AddR (x n o m M s n2 o2 m2 M2 s2 : Nat) : Prop := n2 = n + 1 ∧ (if isNan x then o2 = o + 1 ∧ m2 = m ∧ M2 = M ∧ s2 = s else o2 = o ∧ m2 = (if n = o ∨ ordN x m < 0 then x else m) ∧ M2 = (if n = o ∨ 0 < ordN x M then x else M) ∧ FRes .add s x s2)
/-- what Least or Most answers -/
def LR (n o m r : Nat) : Prop := r < 18446744073709551616 ∧ (if n = o then isNan r else r = m)
end Go.Proofs.Ytbllifhcfgjdlaa
