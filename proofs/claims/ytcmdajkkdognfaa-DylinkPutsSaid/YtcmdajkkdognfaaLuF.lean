/- What is proved here: numbers as bytes of seven bits, by the program and by the document, as rows. -/
import Derived.Test.YtcmdajkkdognfaaLuE
import Derived.Test.YtcmdajkkdognfaaSxE
namespace Go.Proofs.Ytcmdajkkdognfaa
open Go.RowKit
set_option linter.unusedVariables false
set_option linter.unusedSimpArgs false
theorem flat_u8 (l : List Int) : l.flatMap (vInt .u8) = l.map (Value.int .u8) := by
  induction l with
  | nil => rfl
  | cons x l ih => rw [List.flatMap_cons, List.map_cons, ih]; rfl
theorem uint_row (v : Nat) (hv : v < 2 ^ 64) (w : World) : Calls Try.prog 110 #[.int .u64 ((v : Nat) : Int)] w fun e w' => ∃ s, e = .returned s ∧ Row 1 (vInt .u8) 5 w.heap.size w' s (uL v) ∧ Below w.heap.size w w' := by
  refine (uint_any v hv w).mono ?_
  rintro e w' ⟨s, h1, h2, h3⟩
  exact ⟨s, h1, by unfold Row; rw [flat_u8]; exact h2, h3⟩
theorem refUint_row (v : Nat) (hv : v < 2 ^ 64) (w : World) : Calls Try.prog 148 #[.int .u64 ((v : Nat) : Int)] w fun e w' => ∃ s, e = .returned s ∧ Row 1 (vInt .u8) 5 w.heap.size w' s (uL v) ∧ Below w.heap.size w w' := by
  refine (refUint_any v hv w).mono ?_
  rintro e w' ⟨s, n, h1, hr, h2, h3⟩
  have hn : n = (uL v).length := by
    rw [refU v hv n hr]; simp [grpL]
  refine ⟨s, h1, ?_, h3⟩
  unfold Row
  rw [flat_u8]
  have h4 : w'.ownsRow w.heap.size 5 1 s n (List.map (Value.int .u8) (grpL (bitOf (bitsL v 64) false) n n)) := h2
  rw [← refU v hv n hr, hn] at h4
  exact h4
theorem uL_len (v : Nat) (hv : v < 2 ^ 64) : 1 ≤ (uL v).length ∧ (uL v).length ≤ 10 := by
  have key : ∀ k v, v < 128 ^ (k + 1) → 1 ≤ (uL v).length ∧ (uL v).length ≤ k + 1 := by
    intro k
    induction k with
    | zero =>
      intro v h
      rw [uL_low (by omega)]; simp
    | succ k ih =>
      intro v h
      by_cases h1 : v < 128
      · rw [uL_low h1]; simp
      · rw [uL_high h1]
        have := ih (v / 128) (by rw [Nat.pow_succ] at h; omega)
        simp only [List.length_cons]; omega
  have := key 9 v (Nat.lt_of_lt_of_le hv (by decide))
  omega
theorem uL_rng (v : Nat) : ∀ x ∈ uL v, 0 ≤ x ∧ x < 256 := by
  induction v using Nat.strongRecOn with
  | ind v ih =>
    intro x hx
    by_cases h1 : v < 128
    · rw [uL_low h1] at hx
      simp at hx; omega
    · rw [uL_high h1] at hx
      rcases List.mem_cons.1 hx with h | h
      · omega
      · exact ih (v / 128) (by omega) x h
end Go.Proofs.Ytcmdajkkdognfaa
