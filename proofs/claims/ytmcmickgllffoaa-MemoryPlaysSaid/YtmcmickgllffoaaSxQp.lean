/- What is proved here: rules for functions that write one block of the old memory (a scanner), and for calls of them. -/
import Derived.Test.YtmcmickgllffoaaSxPp
namespace Go.Proofs.Ytmcmickgllffoaa
open Go.RowKit
set_option linter.unusedVariables false
set_option linter.unusedSimpArgs false

/-- Below B nothing but block b is another. -/
structure KB (b B : Nat) (w w' : World) : Prop where
  os : w'.os = w.os
  tape : w'.tape = w.tape
  output : w'.output = w.output
  size : w.heap.size ≤ w'.heap.size
  block : ∀ k, k < B → k ≠ b → w'.heap[k]? = w.heap[k]?
section
variable {b B : Nat} {w w1 w2 : World}
theorem KB.refl (b B : Nat) (w : World) : KB b B w w := ⟨rfl, rfl, rfl, Nat.le_refl _, fun _ _ _ => rfl⟩
theorem KB.trans (h : KB b B w w1) (h2 : Below B w1 w2) : KB b B w w2 := ⟨h2.os.trans h.os, h2.tape.trans h.tape, h2.output.trans h.output, Nat.le_trans h.size h2.size, fun k hk hne => (h2.block k hk).trans (h.block k hk hne)⟩
theorem KB.grown (h : KB b w.heap.size w w1) : w.grownBy w1 (some b) := ⟨h.os, h.tape, h.output, h.size, fun k hk hne => h.block k hk (fun e => hne (by rw [e]))⟩
end
section
variable {P : Program} {L : List (Nat × Value)} {w : World} {d : Option Tmp} {ty : TypeId} {ps : String} {af : Array Edge} {gu : Option (Nat × Bool)}
theorem r_nilCheck {x : Operand} {p : Addr} (hx : evO L x = some (.pointer (some p))) : Runs P L ⟨d, .nilCheck x, ty, ps, af, gu⟩ w (.pointer (some p)) w := by
  intro ρ hρ
  simp [execOp, hρ _ _ hx]
end
end Go.Proofs.Ytmcmickgllffoaa
