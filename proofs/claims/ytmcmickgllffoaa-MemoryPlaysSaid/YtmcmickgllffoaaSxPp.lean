/- What is proved here: rules for maps of the call's own whose keys are strings and whose elements are bools (sets). -/
import Derived.Test.YtmcmickgllffoaaSxVp
import Derived.Maps.Own
import Derived.Maps.Views
import Derived.StringKeys
namespace Go.Proofs.Ytmcmickgllffoaa
open Go.RowKit
set_option linter.unusedVariables false
set_option linter.unusedSimpArgs false

def inS (L : List ByteArray) (s : ByteArray) : Bool := L.any fun x => decide (x = s)
/-- Block b of w is a map that holds true at the strings of L, and nothing else. -/
def SetM (P : Program) (k e : TypeId) (w : World) (b : Nat) (L : List ByteArray) : Prop :=
  ∃ D n, w.ownsMap (H := Unit) P k (plainElem P e) b n D ∧ n ≤ L.length ∧ Maps.IsMap D ∧ ∀ s : ByteArray, s.size ≤ maxLen → D.atKey (.string s.data.toList) (.lit (.bool false)) = .lit (.bool (inS L s))
section
variable {P : Program} {L : List (Nat × Value)} {w : World} {d : Option Tmp} {ty : TypeId} {ps : String} {af : Array Edge} {gu : Option (Nat × Bool)} {t k e : TypeId} {b : Nat} {S : List ByteArray}
theorem SetM.ext {w' : World} (h : SetM P k e w b S) (hb : Below w.heap.size w w') : SetM P k e w' b S := by
  obtain ⟨D, n, h1, h2, h3⟩ := h
  exact ⟨D, n, h1.kept (below_grown (r := none) hb) (by simp), h2, h3⟩
theorem SetM.grown {w' : World} {c : Nat} (h : SetM P k e w b S) (hg : w.grownBy w' (some c)) (hne : b ≠ c) : SetM P k e w' b S := by
  obtain ⟨D, n, h1, h2, h3⟩ := h
  exact ⟨D, n, h1.kept hg (fun e => hne (Option.some.inj e)), h2, h3⟩
theorem SetM.lt (h : SetM P k e w b S) : b < w.heap.size := by
  obtain ⟨D, n, h1, h2, h3⟩ := h
  exact h1.lt
end
end Go.Proofs.Ytmcmickgllffoaa
