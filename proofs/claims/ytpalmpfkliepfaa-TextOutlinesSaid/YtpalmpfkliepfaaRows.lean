/-
  No cell of these rows narrows 'for every input' (looked for: loops, veiled, ifaces, maps, wideKeys, modest, calm, conditions, laid).
  DERIVED. THE GIVEN ROWS OF THIS SEAT. 4 by the template 'for every input the law returns true; each argument reads behind the call as it read before'; 0 by the template 'total and deterministic' (their statements: YtpalmpfkliepfaaTotals.lean).
  GIVEN WITH THE SEED: the statements are not yours to turn. If you find one false, say at which input.
  Laid BY PROGRAM, IN A SANDBOX (cutbox-rows.mjs): the forced cells as the released guide's own fill.sh prints them over the translation f136b138866660e7… (all of the seat's roots in one cut). By AI agents, Wed Nov 11 2026. No macro, syntax, notation, axiom, sorry.
-/
import Derived.Test.YtpalmpfkliepfaaChecked
import GoSem.Claim
import GoSem.ClaimJoined
import GoSem.ClaimMapViews
import Derived.JoinedTies
import Derived.KernelRfl
namespace Go.Proofs.Ytpalmpfkliepfaa
/- THE CELL 'sum', in the pinned program and in every row, IS THE sha256 OF THE DUMP (.gsa) THAT YtpalmpfkliepfaaProg.lean LOADS. Nothing in Lean hashes anything: it is a label: what it is worth is what the hold of that sum in a sandbox is worth. -/
noncomputable def Try.pinned : Pinned := { name := "ytpalmpfkliepfaa", sum := "f136b138866660e71155827c3e8a8d443e779f59865c1a4b196b810dc98da830", checked := Try.checked }
namespace Rows
def none {H : Type} : Left H := { results := [], args := [] }

/-- 'creellaw46.TextOutlines': WHATEVER THE INPUT: true; the input reads as it did. -/
def textOutlinesSpec : ChangeSpec := { name := "textOutlines", fn := fun _ => fun
  | [d] => { results := [.lit (.bool true)], args := [d] }
  | _ => none }
def textOutlinesRow : OpenClaim := { program := "ytpalmpfkliepfaa", sum := "f136b138866660e71155827c3e8a8d443e779f59865c1a4b196b810dc98da830", func := "creel/creellaw46.TextOutlines", spec := "textOutlines", inPlace := ["internal/abi.NoEscape", "internal/bytealg.MakeNoZero"], recurses := true, apart := false }
def TextOutlinesSaid : Prop := textOutlinesRow.holds Try.pinned (OpenSpec.ofChange textOutlinesSpec)

/-- ITS FALSE NEIGHBOUR: 'it returns false'. Refute it at one input. -/
def textOutlinesWrong : ChangeSpec := { name := "textOutlines", fn := fun _ => fun
  | [d] => { results := [.lit (.bool false)], args := [d] }
  | _ => none }
def TextOutlinesWrongFalsely : Prop := textOutlinesRow.holds Try.pinned (OpenSpec.ofChange textOutlinesWrong)

/-- 'creellaw44.OpLines': WHATEVER THE INPUT: true; the input reads as it did. -/
def opLinesSpec : ChangeSpec := { name := "opLines", fn := fun _ => fun
  | [d1, d2] => { results := [.lit (.bool true)], args := [d1, d2] }
  | _ => none }
def opLinesRow : OpenClaim := { program := "ytpalmpfkliepfaa", sum := "f136b138866660e71155827c3e8a8d443e779f59865c1a4b196b810dc98da830", func := "creel/creellaw44.OpLines", spec := "opLines", inPlace := ["internal/bytealg.IndexByteString", "internal/bytealg.IndexString", "internal/bytealg.CountString", "internal/abi.NoEscape"], recurses := true, named := ["internal/bytealg.MaxLen"], apart := false }
def OpLinesSaid : Prop := opLinesRow.holds Try.pinned (OpenSpec.ofChange opLinesSpec)

/-- ITS FALSE NEIGHBOUR: 'it returns false'. Refute it at one input. -/
def opLinesWrong : ChangeSpec := { name := "opLines", fn := fun _ => fun
  | [d1, d2] => { results := [.lit (.bool false)], args := [d1, d2] }
  | _ => none }
def OpLinesWrongFalsely : Prop := opLinesRow.holds Try.pinned (OpenSpec.ofChange opLinesWrong)

/-- 'creellaw44.OpParses': WHATEVER THE INPUT: true; the input reads as it did. -/
def opParsesSpec : ChangeSpec := { name := "opParses", fn := fun _ => fun
  | [d] => { results := [.lit (.bool true)], args := [d] }
  | _ => none }
def opParsesRow : OpenClaim := { program := "ytpalmpfkliepfaa", sum := "f136b138866660e71155827c3e8a8d443e779f59865c1a4b196b810dc98da830", func := "creel/creellaw44.OpParses", spec := "opParses", inPlace := ["internal/bytealg.IndexByteString", "internal/bytealg.IndexString", "internal/bytealg.CountString", "internal/abi.NoEscape"], recurses := true, named := ["internal/bytealg.MaxLen"], apart := false }
def OpParsesSaid : Prop := opParsesRow.holds Try.pinned (OpenSpec.ofChange opParsesSpec)

/-- ITS FALSE NEIGHBOUR: 'it returns false'. Refute it at one input. -/
def opParsesWrong : ChangeSpec := { name := "opParses", fn := fun _ => fun
  | [d] => { results := [.lit (.bool false)], args := [d] }
  | _ => none }
def OpParsesWrongFalsely : Prop := opParsesRow.holds Try.pinned (OpenSpec.ofChange opParsesWrong)

/-- 'creellaw44.OpParts': WHATEVER THE INPUT: true; the input reads as it did. -/
def opPartsSpec : ChangeSpec := { name := "opParts", fn := fun _ => fun
  | [d1, d2, d3] => { results := [.lit (.bool true)], args := [d1, d2, d3] }
  | _ => none }
def opPartsRow : OpenClaim := { program := "ytpalmpfkliepfaa", sum := "f136b138866660e71155827c3e8a8d443e779f59865c1a4b196b810dc98da830", func := "creel/creellaw44.OpParts", spec := "opParts", inPlace := ["internal/bytealg.IndexByteString", "internal/bytealg.IndexString", "internal/bytealg.CountString", "internal/abi.NoEscape"], recurses := true, named := ["internal/bytealg.MaxLen"], apart := false }
def OpPartsSaid : Prop := opPartsRow.holds Try.pinned (OpenSpec.ofChange opPartsSpec)

/-- ITS FALSE NEIGHBOUR: 'it returns false'. Refute it at one input. -/
def opPartsWrong : ChangeSpec := { name := "opParts", fn := fun _ => fun
  | [d1, d2, d3] => { results := [.lit (.bool false)], args := [d1, d2, d3] }
  | _ => none }
def OpPartsWrongFalsely : Prop := opPartsRow.holds Try.pinned (OpenSpec.ofChange opPartsWrong)

/- THE SECOND FORM. 'bulk': how many values and letters a reading holds, each counted each time it is reached (what is shared counts as often as it is met; a slice's spare places count too). A statement '..UptoSaid' is the law's where the arguments, and the package variables that the reading takes, are together of bulk at most 1048576: NARROWER than '..Said'. Prove '..Said' where nothing that the law and all that it calls make is longer than what came in: it says more and counts as full. Else prove '..UptoSaid'. A law counts once. -/
mutual
def uptoBulk {H : Type} : DataW H → Nat
  | .lit (.string bytes) => bytes.length + 1
  | .lit _ => 1
  | .nil => 1
  | .ptr d => uptoBulk d + 1
  | .slice elems spare => uptoBulkAll elems + uptoBulkAll spare + 1
  | .agg parts => uptoBulkAll parts + 1
  | .iface _ d => uptoBulk d + 1
  | .map entries => uptoBulkEntries entries + 1
  | .held _ => 1
def uptoBulkAll {H : Type} : List (DataW H) → Nat
  | [] => 0
  | d :: r => uptoBulk d + uptoBulkAll r
def uptoBulkEntries {H : Type} : List (Lit × DataW H) → Nat
  | [] => 0
  | x :: r => uptoBulkEntry x + uptoBulkEntries r
def uptoBulkEntry {H : Type} : Lit × DataW H → Nat
  | (.string bytes, d) => bytes.length + uptoBulk d + 1
  | (_, d) => uptoBulk d + 1
 end
def uptoSmall : (H : Type) → List (DataW H) → Bool := fun _ ds => decide (uptoBulkAll ds ≤ 1048576)
def OpenSpec.upto (s : _root_.Go.ChangeSpec) : _root_.Go.OpenSpec := { _root_.Go.OpenSpec.ofChange s with cond := some uptoSmall }

/-- 'creellaw46.TextOutlines', WHERE WHAT IT READS IS OF BULK AT MOST 1048576: true; the input reads as it did. -/
def textOutlinesUptoRow : OpenClaim := { program := "ytpalmpfkliepfaa", sum := "f136b138866660e71155827c3e8a8d443e779f59865c1a4b196b810dc98da830", func := "creel/creellaw46.TextOutlines", spec := "textOutlines", inPlace := ["internal/abi.NoEscape", "internal/bytealg.MakeNoZero"], recurses := true, apart := false, narrowed := true }
def TextOutlinesUptoSaid : Prop := textOutlinesUptoRow.holds Try.pinned (OpenSpec.upto textOutlinesSpec)

/-- 'creellaw44.OpLines', WHERE WHAT IT READS IS OF BULK AT MOST 1048576: true; the input reads as it did. -/
def opLinesUptoRow : OpenClaim := { program := "ytpalmpfkliepfaa", sum := "f136b138866660e71155827c3e8a8d443e779f59865c1a4b196b810dc98da830", func := "creel/creellaw44.OpLines", spec := "opLines", inPlace := ["internal/bytealg.IndexByteString", "internal/bytealg.IndexString", "internal/bytealg.CountString", "internal/abi.NoEscape"], recurses := true, named := ["internal/bytealg.MaxLen"], apart := false, narrowed := true }
def OpLinesUptoSaid : Prop := opLinesUptoRow.holds Try.pinned (OpenSpec.upto opLinesSpec)

/-- 'creellaw44.OpParses', WHERE WHAT IT READS IS OF BULK AT MOST 1048576: true; the input reads as it did. -/
def opParsesUptoRow : OpenClaim := { program := "ytpalmpfkliepfaa", sum := "f136b138866660e71155827c3e8a8d443e779f59865c1a4b196b810dc98da830", func := "creel/creellaw44.OpParses", spec := "opParses", inPlace := ["internal/bytealg.IndexByteString", "internal/bytealg.IndexString", "internal/bytealg.CountString", "internal/abi.NoEscape"], recurses := true, named := ["internal/bytealg.MaxLen"], apart := false, narrowed := true }
def OpParsesUptoSaid : Prop := opParsesUptoRow.holds Try.pinned (OpenSpec.upto opParsesSpec)

/-- 'creellaw44.OpParts', WHERE WHAT IT READS IS OF BULK AT MOST 1048576: true; the input reads as it did. -/
def opPartsUptoRow : OpenClaim := { program := "ytpalmpfkliepfaa", sum := "f136b138866660e71155827c3e8a8d443e779f59865c1a4b196b810dc98da830", func := "creel/creellaw44.OpParts", spec := "opParts", inPlace := ["internal/bytealg.IndexByteString", "internal/bytealg.IndexString", "internal/bytealg.CountString", "internal/abi.NoEscape"], recurses := true, named := ["internal/bytealg.MaxLen"], apart := false, narrowed := true }
def OpPartsUptoSaid : Prop := opPartsUptoRow.holds Try.pinned (OpenSpec.upto opPartsSpec)

end Rows
end Go.Proofs.Ytpalmpfkliepfaa
