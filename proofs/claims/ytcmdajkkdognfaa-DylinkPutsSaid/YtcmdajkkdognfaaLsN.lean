/- What is proved here: lists: the first error, and rows of bytes. -/
import Derived.Test.YtcmdajkkdognfaaSnE
namespace Go.Proofs.Ytcmdajkkdognfaa
open Go.RowKit
set_option linter.unusedVariables false
set_option linter.unusedSimpArgs false
/-- The first error of a list. -/
def firstE {α : Type} (f : α → Int) : List α → Int
  | [] => 0
  | x :: l => if f x ≠ 0 then f x else firstE f l
theorem firstE_app {α : Type} (f : α → Int) (a b : List α) : firstE f (a ++ b) = if firstE f a ≠ 0 then firstE f a else firstE f b := by
  induction a with
  | nil => simp [firstE]
  | cons x a ih =>
    rw [List.cons_append, firstE, firstE]
    by_cases h : f x ≠ 0
    · rw [if_pos h, if_pos h, if_pos h]
    · rw [if_neg h, if_neg h, ih]
theorem firstE_zero {α : Type} {f : α → Int} {l : List α} (h : firstE f l = 0) : ∀ y ∈ l, f y = 0 := by
  induction l with
  | nil => intro y hy; cases hy
  | cons x l ih =>
    rw [firstE] at h
    by_cases hx : f x ≠ 0
    · rw [if_pos hx] at h; exact absurd h hx
    · rw [if_neg hx] at h
      intro y hy
      rcases List.mem_cons.1 hy with rfl | hy
      · exact Decidable.not_not.1 hx
      · exact ih h y hy
theorem ltake_at {α : Type} {l : List α} {k : Nat} {y : α} (h : l[k]? = some y) : l.take (k + 1) = l.take k ++ [y] := by
  rw [List.take_add_one, h]; rfl
theorem fm_split {α β : Type} {f : α → List β} {l : List α} {k : Nat} {y : α} (h : l[k]? = some y) : l.flatMap f = (l.take k).flatMap f ++ (f y ++ (l.drop (k + 1)).flatMap f) := by
  have h1 := List.take_append_drop k l
  have h2 : l.drop k = y :: l.drop (k + 1) := by
    obtain ⟨hk, rfl⟩ := List.getElem?_eq_some_iff.1 h
    exact List.drop_eq_getElem_cons hk
  rw [h2] at h1
  conv => lhs; rw [← h1]
  rw [List.flatMap_append, List.flatMap_cons]
theorem fm_take {α β : Type} {f : α → List β} {l : List α} {k : Nat} {y : α} (h : l[k]? = some y) : (l.take (k + 1)).flatMap f = (l.take k).flatMap f ++ f y := by
  rw [ltake_at h, List.flatMap_append]; simp
theorem fm_len {α β : Type} {f : α → List β} {B : Nat} : ∀ (l : List α), (∀ y ∈ l, (f y).length ≤ B) → (l.flatMap f).length ≤ B * l.length := by
  intro l
  induction l with
  | nil => intro _; simp
  | cons x l ih =>
    intro h
    rw [List.flatMap_cons, List.length_append, List.length_cons]
    have := ih (fun y hy => h y (List.mem_cons_of_mem _ hy))
    have := h x (List.mem_cons_self ..)
    rw [Nat.mul_succ]
    omega
theorem pos_eq {w : World} {b T p q : Nat} {v : Value} (h : w.heap[b]? = some (.cells #[v, .int .i64 ((p : Nat) : Int)] T (0, 0))) (e : p = q) : w.heap[b]? = some (.cells #[v, .int .i64 ((q : Nat) : Int)] T (0, 0)) := e ▸ h
theorem lrowTo {α : Type} {k e base n c : Nat} {V : α → List Value} {w : World} {a : Option Addr} {l l' : List α} (h : Row k V e base w (.slice a n c) l) (he : l = l') : Row k V e base w (.slice a l'.length c) l' := he ▸ h.relen

theorem firstE_snoc {α : Type} {f : α → Int} {l : List α} {k : Nat} {y : α} (h : l[k]? = some y) : firstE f (l.take (k + 1)) = if firstE f (l.take k) ≠ 0 then firstE f (l.take k) else f y := by
  rw [List.take_add_one, h, show (some y).toList = [y] from rfl, firstE_app]
  congr 1
  rw [firstE, firstE]
  by_cases hy : f y ≠ 0
  · rw [if_pos hy]
  · rw [if_neg hy]; exact (Decidable.not_not.1 hy).symm
end Go.Proofs.Ytcmdajkkdognfaa
