/- What is proved here: modules as plain values, and how they are read. -/
import Derived.Test.YtmcmickgllffoaaSxSp
import Derived.Test.YtmcmickgllffoaaKitWp
namespace Go.Proofs.Ytmcmickgllffoaa
open Go.RowKit
set_option linter.unusedVariables false
set_option linter.unusedSimpArgs false
set_option maxRecDepth 100000
instance {α : Type} [Inhabited α] : Inhabited (Sl α) := ⟨⟨none, 0, 0, fun _ => default⟩⟩
end Go.Proofs.Ytmcmickgllffoaa
