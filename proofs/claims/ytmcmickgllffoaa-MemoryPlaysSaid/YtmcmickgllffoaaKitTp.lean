/-
  What is proved here: the law for a statement whose order of evaluation is open, with a last part whose order is fixed.
-/
import Derived.Test.YtmcmickgllffoaaKitp
import Derived.StillTail
namespace Go.Proofs.Ytmcmickgllffoaa
open Go.RowKit
set_option linter.unusedVariables false
set_option linter.unusedSimpArgs false

section
variable {P : Program} {ops : Array Oper} {C : World → Prop} {G : World → World → Prop} {posts : List (Value → World → Prop)} {dl : List (List Nat)} {N T : Nat} {a0 : Act}

theorem headInv_all {listed : Array Bool} (inv : HeadInv .any ops T listed) (h : ∀ i, i < T → listed[i]? = some true) (hT : T ≤ ops.size) : listed = (Array.range ops.size).map (fun i => decide (i < T)) := by
  apply Array.ext_getElem?
  intro j
  by_cases hj : j < T
  · rw [h j hj]; simp [show j < ops.size by omega, hj]
  · by_cases hjs : j < ops.size
    · have h1 := inv.tail j (by omega) hjs
      have hsz := inv.size
      rw [Array.getD_eq_getD_getElem?, Array.getElem?_eq_getElem (by omega)] at h1
      rw [Array.getElem?_eq_getElem (by omega)]
      simp at h1
      simp [hjs, hj, h1]
    · have hsz := inv.size
      rw [Array.getElem?_eq_none (by omega), Array.getElem?_eq_none (by simp; omega)]

end
end Go.Proofs.Ytmcmickgllffoaa
