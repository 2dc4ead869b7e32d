/-
  No cell of these rows narrows 'for every input' (looked for: loops, veiled, ifaces, maps, wideKeys, modest, calm, conditions, laid).
  DERIVED. THE GIVEN ROWS OF THIS SEAT. 13 by the template 'for every input the law returns true; each argument reads behind the call as it read before'; 0 by the template 'total and deterministic' (their statements: YtcmdajkkdognfaaTotals.lean).
  GIVEN WITH THE SEED: the statements are not yours to turn. If you find one false, say at which input.
  Laid BY PROGRAM, IN A SANDBOX (cutbox-rows.mjs): the forced cells as the released guide's own fill.sh prints them over the translation 15db592209698e0a… (all of the seat's roots in one cut). By AI agents, Wed Nov 11 2026. No macro, syntax, notation, axiom, sorry.
-/
import Derived.Test.YtcmdajkkdognfaaChecked
import GoSem.Claim
import GoSem.ClaimJoined
import GoSem.ClaimMapViews
import Derived.JoinedTies
import Derived.KernelRfl
namespace Go.Proofs.Ytcmdajkkdognfaa
/- THE CELL 'sum', in the pinned program and in every row, IS THE sha256 OF THE DUMP (.gsa) THAT YtcmdajkkdognfaaProg.lean LOADS. Nothing in Lean hashes anything: it is a label: what it is worth is what the hold of that sum in a sandbox is worth. -/
noncomputable def Try.pinned : Pinned := { name := "ytcmdajkkdognfaa", sum := "15db592209698e0a3b280eaf5b738fc96baa300cda670b88c3a3ca30bc161b7d", checked := Try.checked }
namespace Rows
def none {H : Type} : Left H := { results := [], args := [] }

/-- 'creellaw11.ExportsFinds': WHATEVER THE INPUT: true; the input reads as it did. -/
def exportsFindsSpec : ChangeSpec := { name := "exportsFinds", fn := fun _ => fun
  | [d1, d2, d3] => { results := [.lit (.bool true)], args := [d1, d2, d3] }
  | _ => none }
def exportsFindsRow : OpenClaim := { program := "ytcmdajkkdognfaa", sum := "15db592209698e0a3b280eaf5b738fc96baa300cda670b88c3a3ca30bc161b7d", func := "creel/creellaw11.ExportsFinds", spec := "exportsFinds", apart := false }
def ExportsFindsSaid : Prop := exportsFindsRow.holds Try.pinned (OpenSpec.ofChange exportsFindsSpec)

/-- ITS FALSE NEIGHBOUR: 'it returns false'. Refute it at one input. -/
def exportsFindsWrong : ChangeSpec := { name := "exportsFinds", fn := fun _ => fun
  | [d1, d2, d3] => { results := [.lit (.bool false)], args := [d1, d2, d3] }
  | _ => none }
def ExportsFindsWrongFalsely : Prop := exportsFindsRow.holds Try.pinned (OpenSpec.ofChange exportsFindsWrong)

/-- 'creellaw16.DylinkTwice': WHATEVER THE INPUT: true; the input reads as it did. -/
def dylinkTwiceSpec : ChangeSpec := { name := "dylinkTwice", fn := fun _ => fun
  | [d1, d2, d3] => { results := [.lit (.bool true)], args := [d1, d2, d3] }
  | _ => none }
def dylinkTwiceRow : OpenClaim := { program := "ytcmdajkkdognfaa", sum := "15db592209698e0a3b280eaf5b738fc96baa300cda670b88c3a3ca30bc161b7d", func := "creel/creellaw16.DylinkTwice", spec := "dylinkTwice", apart := false }
def DylinkTwiceSaid : Prop := dylinkTwiceRow.holds Try.pinned (OpenSpec.ofChange dylinkTwiceSpec)

/-- ITS FALSE NEIGHBOUR: 'it returns false'. Refute it at one input. -/
def dylinkTwiceWrong : ChangeSpec := { name := "dylinkTwice", fn := fun _ => fun
  | [d1, d2, d3] => { results := [.lit (.bool false)], args := [d1, d2, d3] }
  | _ => none }
def DylinkTwiceWrongFalsely : Prop := dylinkTwiceRow.holds Try.pinned (OpenSpec.ofChange dylinkTwiceWrong)

/-- 'creellaw04.TypesLimits': WHATEVER THE INPUT: true; the input reads as it did. -/
def typesLimitsSpec : ChangeSpec := { name := "typesLimits", fn := fun _ => fun
  | [d1, d2] => { results := [.lit (.bool true)], args := [d1, d2] }
  | _ => none }
def typesLimitsRow : OpenClaim := { program := "ytcmdajkkdognfaa", sum := "15db592209698e0a3b280eaf5b738fc96baa300cda670b88c3a3ca30bc161b7d", func := "creel/creellaw04.TypesLimits", spec := "typesLimits", inPlace := ["internal/abi.NoEscape", "internal/bytealg.MakeNoZero"], apart := false }
def TypesLimitsSaid : Prop := typesLimitsRow.holds Try.pinned (OpenSpec.ofChange typesLimitsSpec)

/-- ITS FALSE NEIGHBOUR: 'it returns false'. Refute it at one input. -/
def typesLimitsWrong : ChangeSpec := { name := "typesLimits", fn := fun _ => fun
  | [d1, d2] => { results := [.lit (.bool false)], args := [d1, d2] }
  | _ => none }
def TypesLimitsWrongFalsely : Prop := typesLimitsRow.holds Try.pinned (OpenSpec.ofChange typesLimitsWrong)

/-- 'creellaw04.TypesValues': WHATEVER THE INPUT: true; the input reads as it did. -/
def typesValuesSpec : ChangeSpec := { name := "typesValues", fn := fun _ => fun
  | [d1, d2, d3] => { results := [.lit (.bool true)], args := [d1, d2, d3] }
  | _ => none }
def typesValuesRow : OpenClaim := { program := "ytcmdajkkdognfaa", sum := "15db592209698e0a3b280eaf5b738fc96baa300cda670b88c3a3ca30bc161b7d", func := "creel/creellaw04.TypesValues", spec := "typesValues", inPlace := ["internal/abi.NoEscape", "internal/bytealg.MakeNoZero"], apart := false }
def TypesValuesSaid : Prop := typesValuesRow.holds Try.pinned (OpenSpec.ofChange typesValuesSpec)

/-- ITS FALSE NEIGHBOUR: 'it returns false'. Refute it at one input. -/
def typesValuesWrong : ChangeSpec := { name := "typesValues", fn := fun _ => fun
  | [d1, d2, d3] => { results := [.lit (.bool false)], args := [d1, d2, d3] }
  | _ => none }
def TypesValuesWrongFalsely : Prop := typesValuesRow.holds Try.pinned (OpenSpec.ofChange typesValuesWrong)

/-- 'creellaw04.TypesFuncs': WHATEVER THE INPUT: true; the input reads as it did. -/
def typesFuncsSpec : ChangeSpec := { name := "typesFuncs", fn := fun _ => fun
  | [d1, d2, d3] => { results := [.lit (.bool true)], args := [d1, d2, d3] }
  | _ => none }
def typesFuncsRow : OpenClaim := { program := "ytcmdajkkdognfaa", sum := "15db592209698e0a3b280eaf5b738fc96baa300cda670b88c3a3ca30bc161b7d", func := "creel/creellaw04.TypesFuncs", spec := "typesFuncs", inPlace := ["internal/abi.NoEscape", "internal/bytealg.MakeNoZero"], apart := false }
def TypesFuncsSaid : Prop := typesFuncsRow.holds Try.pinned (OpenSpec.ofChange typesFuncsSpec)

/-- ITS FALSE NEIGHBOUR: 'it returns false'. Refute it at one input. -/
def typesFuncsWrong : ChangeSpec := { name := "typesFuncs", fn := fun _ => fun
  | [d1, d2, d3] => { results := [.lit (.bool false)], args := [d1, d2, d3] }
  | _ => none }
def TypesFuncsWrongFalsely : Prop := typesFuncsRow.holds Try.pinned (OpenSpec.ofChange typesFuncsWrong)

/-- 'creellaw10.ImportsFinds': WHATEVER THE INPUT: true; the input reads as it did. -/
def importsFindsSpec : ChangeSpec := { name := "importsFinds", fn := fun _ => fun
  | [d1, d2, d3] => { results := [.lit (.bool true)], args := [d1, d2, d3] }
  | _ => none }
def importsFindsRow : OpenClaim := { program := "ytcmdajkkdognfaa", sum := "15db592209698e0a3b280eaf5b738fc96baa300cda670b88c3a3ca30bc161b7d", func := "creel/creellaw10.ImportsFinds", spec := "importsFinds", apart := false }
def ImportsFindsSaid : Prop := importsFindsRow.holds Try.pinned (OpenSpec.ofChange importsFindsSpec)

/-- ITS FALSE NEIGHBOUR: 'it returns false'. Refute it at one input. -/
def importsFindsWrong : ChangeSpec := { name := "importsFinds", fn := fun _ => fun
  | [d1, d2, d3] => { results := [.lit (.bool false)], args := [d1, d2, d3] }
  | _ => none }
def ImportsFindsWrongFalsely : Prop := importsFindsRow.holds Try.pinned (OpenSpec.ofChange importsFindsWrong)

/-- 'creellaw05.ScanBack': WHATEVER THE INPUT: true; the input reads as it did. -/
def scanBackSpec : ChangeSpec := { name := "scanBack", fn := fun _ => fun
  | [d1, d2, d3] => { results := [.lit (.bool true)], args := [d1, d2, d3] }
  | _ => none }
def scanBackRow : OpenClaim := { program := "ytcmdajkkdognfaa", sum := "15db592209698e0a3b280eaf5b738fc96baa300cda670b88c3a3ca30bc161b7d", func := "creel/creellaw05.ScanBack", spec := "scanBack", unfollowed := true, recurses := true, apart := false }
def ScanBackSaid : Prop := scanBackRow.holds Try.pinned (OpenSpec.ofChange scanBackSpec)

/-- ITS FALSE NEIGHBOUR: 'it returns false'. Refute it at one input. -/
def scanBackWrong : ChangeSpec := { name := "scanBack", fn := fun _ => fun
  | [d1, d2, d3] => { results := [.lit (.bool false)], args := [d1, d2, d3] }
  | _ => none }
def ScanBackWrongFalsely : Prop := scanBackRow.holds Try.pinned (OpenSpec.ofChange scanBackWrong)

/-- 'creellaw11.ExportsPuts': WHATEVER THE INPUT: true; the input reads as it did. -/
def exportsPutsSpec : ChangeSpec := { name := "exportsPuts", fn := fun _ => fun
  | [d] => { results := [.lit (.bool true)], args := [d] }
  | _ => none }
def exportsPutsRow : OpenClaim := { program := "ytcmdajkkdognfaa", sum := "15db592209698e0a3b280eaf5b738fc96baa300cda670b88c3a3ca30bc161b7d", func := "creel/creellaw11.ExportsPuts", spec := "exportsPuts", unfollowed := true, recurses := true, apart := false }
def ExportsPutsSaid : Prop := exportsPutsRow.holds Try.pinned (OpenSpec.ofChange exportsPutsSpec)

/-- ITS FALSE NEIGHBOUR: 'it returns false'. Refute it at one input. -/
def exportsPutsWrong : ChangeSpec := { name := "exportsPuts", fn := fun _ => fun
  | [d] => { results := [.lit (.bool false)], args := [d] }
  | _ => none }
def ExportsPutsWrongFalsely : Prop := exportsPutsRow.holds Try.pinned (OpenSpec.ofChange exportsPutsWrong)

/-- 'creellaw11.ExportsBack': WHATEVER THE INPUT: true; the input reads as it did. -/
def exportsBackSpec : ChangeSpec := { name := "exportsBack", fn := fun _ => fun
  | [d] => { results := [.lit (.bool true)], args := [d] }
  | _ => none }
def exportsBackRow : OpenClaim := { program := "ytcmdajkkdognfaa", sum := "15db592209698e0a3b280eaf5b738fc96baa300cda670b88c3a3ca30bc161b7d", func := "creel/creellaw11.ExportsBack", spec := "exportsBack", unfollowed := true, recurses := true, apart := false }
def ExportsBackSaid : Prop := exportsBackRow.holds Try.pinned (OpenSpec.ofChange exportsBackSpec)

/-- ITS FALSE NEIGHBOUR: 'it returns false'. Refute it at one input. -/
def exportsBackWrong : ChangeSpec := { name := "exportsBack", fn := fun _ => fun
  | [d] => { results := [.lit (.bool false)], args := [d] }
  | _ => none }
def ExportsBackWrongFalsely : Prop := exportsBackRow.holds Try.pinned (OpenSpec.ofChange exportsBackWrong)

/-- 'creellaw09.SectJoins': WHATEVER THE INPUT: true; the input reads as it did. -/
def sectJoinsSpec : ChangeSpec := { name := "sectJoins", fn := fun _ => fun
  | [d1, d2, d3] => { results := [.lit (.bool true)], args := [d1, d2, d3] }
  | _ => none }
def sectJoinsRow : OpenClaim := { program := "ytcmdajkkdognfaa", sum := "15db592209698e0a3b280eaf5b738fc96baa300cda670b88c3a3ca30bc161b7d", func := "creel/creellaw09.SectJoins", spec := "sectJoins", unfollowed := true, recurses := true, apart := false }
def SectJoinsSaid : Prop := sectJoinsRow.holds Try.pinned (OpenSpec.ofChange sectJoinsSpec)

/-- ITS FALSE NEIGHBOUR: 'it returns false'. Refute it at one input. -/
def sectJoinsWrong : ChangeSpec := { name := "sectJoins", fn := fun _ => fun
  | [d1, d2, d3] => { results := [.lit (.bool false)], args := [d1, d2, d3] }
  | _ => none }
def SectJoinsWrongFalsely : Prop := sectJoinsRow.holds Try.pinned (OpenSpec.ofChange sectJoinsWrong)

/-- 'creellaw16.DylinkPuts': WHATEVER THE INPUT: true; the input reads as it did. -/
def dylinkPutsSpec : ChangeSpec := { name := "dylinkPuts", fn := fun _ => fun
  | [d] => { results := [.lit (.bool true)], args := [d] }
  | _ => none }
def dylinkPutsRow : OpenClaim := { program := "ytcmdajkkdognfaa", sum := "15db592209698e0a3b280eaf5b738fc96baa300cda670b88c3a3ca30bc161b7d", func := "creel/creellaw16.DylinkPuts", spec := "dylinkPuts", unfollowed := true, recurses := true, apart := false }
def DylinkPutsSaid : Prop := dylinkPutsRow.holds Try.pinned (OpenSpec.ofChange dylinkPutsSpec)

/-- ITS FALSE NEIGHBOUR: 'it returns false'. Refute it at one input. -/
def dylinkPutsWrong : ChangeSpec := { name := "dylinkPuts", fn := fun _ => fun
  | [d] => { results := [.lit (.bool false)], args := [d] }
  | _ => none }
def DylinkPutsWrongFalsely : Prop := dylinkPutsRow.holds Try.pinned (OpenSpec.ofChange dylinkPutsWrong)

/-- 'creellaw10.ImportsPuts': WHATEVER THE INPUT: true; the input reads as it did. -/
def importsPutsSpec : ChangeSpec := { name := "importsPuts", fn := fun _ => fun
  | [d] => { results := [.lit (.bool true)], args := [d] }
  | _ => none }
def importsPutsRow : OpenClaim := { program := "ytcmdajkkdognfaa", sum := "15db592209698e0a3b280eaf5b738fc96baa300cda670b88c3a3ca30bc161b7d", func := "creel/creellaw10.ImportsPuts", spec := "importsPuts", unfollowed := true, recurses := true, apart := false }
def ImportsPutsSaid : Prop := importsPutsRow.holds Try.pinned (OpenSpec.ofChange importsPutsSpec)

/-- ITS FALSE NEIGHBOUR: 'it returns false'. Refute it at one input. -/
def importsPutsWrong : ChangeSpec := { name := "importsPuts", fn := fun _ => fun
  | [d] => { results := [.lit (.bool false)], args := [d] }
  | _ => none }
def ImportsPutsWrongFalsely : Prop := importsPutsRow.holds Try.pinned (OpenSpec.ofChange importsPutsWrong)

/-- 'creellaw10.ImportsBack': WHATEVER THE INPUT: true; the input reads as it did. -/
def importsBackSpec : ChangeSpec := { name := "importsBack", fn := fun _ => fun
  | [d] => { results := [.lit (.bool true)], args := [d] }
  | _ => none }
def importsBackRow : OpenClaim := { program := "ytcmdajkkdognfaa", sum := "15db592209698e0a3b280eaf5b738fc96baa300cda670b88c3a3ca30bc161b7d", func := "creel/creellaw10.ImportsBack", spec := "importsBack", unfollowed := true, recurses := true, apart := false }
def ImportsBackSaid : Prop := importsBackRow.holds Try.pinned (OpenSpec.ofChange importsBackSpec)

/-- ITS FALSE NEIGHBOUR: 'it returns false'. Refute it at one input. -/
def importsBackWrong : ChangeSpec := { name := "importsBack", fn := fun _ => fun
  | [d] => { results := [.lit (.bool false)], args := [d] }
  | _ => none }
def ImportsBackWrongFalsely : Prop := importsBackRow.holds Try.pinned (OpenSpec.ofChange importsBackWrong)

/- THE SECOND FORM. 'bulk': how many values and letters a reading holds, each counted each time it is reached (what is shared counts as often as it is met; a slice's spare places count too). A statement '..UptoSaid' is the law's where the arguments, and the package variables that the reading takes, are together of bulk at most 1048576: NARROWER than '..Said'. Prove '..Said' where nothing that the law and all that it calls make is longer than what came in: it says more and counts as full. Else prove '..UptoSaid'. A law counts once. -/
mutual
def uptoBulk {H : Type} : DataW H → Nat
  | .lit (.string bytes) => bytes.length + 1
  | .lit _ => 1
  | .nil => 1
  | .ptr d => uptoBulk d + 1
  | .slice elems spare => uptoBulkAll elems + uptoBulkAll spare + 1
  | .agg parts => uptoBulkAll parts + 1
  | .iface _ d => uptoBulk d + 1
  | .map entries => uptoBulkEntries entries + 1
  | .held _ => 1
def uptoBulkAll {H : Type} : List (DataW H) → Nat
  | [] => 0
  | d :: r => uptoBulk d + uptoBulkAll r
def uptoBulkEntries {H : Type} : List (Lit × DataW H) → Nat
  | [] => 0
  | x :: r => uptoBulkEntry x + uptoBulkEntries r
def uptoBulkEntry {H : Type} : Lit × DataW H → Nat
  | (.string bytes, d) => bytes.length + uptoBulk d + 1
  | (_, d) => uptoBulk d + 1
 end
def uptoSmall : (H : Type) → List (DataW H) → Bool := fun _ ds => decide (uptoBulkAll ds ≤ 1048576)
def OpenSpec.upto (s : _root_.Go.ChangeSpec) : _root_.Go.OpenSpec := { _root_.Go.OpenSpec.ofChange s with cond := some uptoSmall }

/-- 'creellaw11.ExportsFinds', WHERE WHAT IT READS IS OF BULK AT MOST 1048576: true; the input reads as it did. -/
def exportsFindsUptoRow : OpenClaim := { program := "ytcmdajkkdognfaa", sum := "15db592209698e0a3b280eaf5b738fc96baa300cda670b88c3a3ca30bc161b7d", func := "creel/creellaw11.ExportsFinds", spec := "exportsFinds", apart := false, narrowed := true }
def ExportsFindsUptoSaid : Prop := exportsFindsUptoRow.holds Try.pinned (OpenSpec.upto exportsFindsSpec)

/-- 'creellaw16.DylinkTwice', WHERE WHAT IT READS IS OF BULK AT MOST 1048576: true; the input reads as it did. -/
def dylinkTwiceUptoRow : OpenClaim := { program := "ytcmdajkkdognfaa", sum := "15db592209698e0a3b280eaf5b738fc96baa300cda670b88c3a3ca30bc161b7d", func := "creel/creellaw16.DylinkTwice", spec := "dylinkTwice", apart := false, narrowed := true }
def DylinkTwiceUptoSaid : Prop := dylinkTwiceUptoRow.holds Try.pinned (OpenSpec.upto dylinkTwiceSpec)

/-- 'creellaw04.TypesLimits', WHERE WHAT IT READS IS OF BULK AT MOST 1048576: true; the input reads as it did. -/
def typesLimitsUptoRow : OpenClaim := { program := "ytcmdajkkdognfaa", sum := "15db592209698e0a3b280eaf5b738fc96baa300cda670b88c3a3ca30bc161b7d", func := "creel/creellaw04.TypesLimits", spec := "typesLimits", inPlace := ["internal/abi.NoEscape", "internal/bytealg.MakeNoZero"], apart := false, narrowed := true }
def TypesLimitsUptoSaid : Prop := typesLimitsUptoRow.holds Try.pinned (OpenSpec.upto typesLimitsSpec)

/-- 'creellaw04.TypesValues', WHERE WHAT IT READS IS OF BULK AT MOST 1048576: true; the input reads as it did. -/
def typesValuesUptoRow : OpenClaim := { program := "ytcmdajkkdognfaa", sum := "15db592209698e0a3b280eaf5b738fc96baa300cda670b88c3a3ca30bc161b7d", func := "creel/creellaw04.TypesValues", spec := "typesValues", inPlace := ["internal/abi.NoEscape", "internal/bytealg.MakeNoZero"], apart := false, narrowed := true }
def TypesValuesUptoSaid : Prop := typesValuesUptoRow.holds Try.pinned (OpenSpec.upto typesValuesSpec)

/-- 'creellaw04.TypesFuncs', WHERE WHAT IT READS IS OF BULK AT MOST 1048576: true; the input reads as it did. -/
def typesFuncsUptoRow : OpenClaim := { program := "ytcmdajkkdognfaa", sum := "15db592209698e0a3b280eaf5b738fc96baa300cda670b88c3a3ca30bc161b7d", func := "creel/creellaw04.TypesFuncs", spec := "typesFuncs", inPlace := ["internal/abi.NoEscape", "internal/bytealg.MakeNoZero"], apart := false, narrowed := true }
def TypesFuncsUptoSaid : Prop := typesFuncsUptoRow.holds Try.pinned (OpenSpec.upto typesFuncsSpec)

/-- 'creellaw10.ImportsFinds', WHERE WHAT IT READS IS OF BULK AT MOST 1048576: true; the input reads as it did. -/
def importsFindsUptoRow : OpenClaim := { program := "ytcmdajkkdognfaa", sum := "15db592209698e0a3b280eaf5b738fc96baa300cda670b88c3a3ca30bc161b7d", func := "creel/creellaw10.ImportsFinds", spec := "importsFinds", apart := false, narrowed := true }
def ImportsFindsUptoSaid : Prop := importsFindsUptoRow.holds Try.pinned (OpenSpec.upto importsFindsSpec)

/-- 'creellaw05.ScanBack', WHERE WHAT IT READS IS OF BULK AT MOST 1048576: true; the input reads as it did. -/
def scanBackUptoRow : OpenClaim := { program := "ytcmdajkkdognfaa", sum := "15db592209698e0a3b280eaf5b738fc96baa300cda670b88c3a3ca30bc161b7d", func := "creel/creellaw05.ScanBack", spec := "scanBack", unfollowed := true, recurses := true, apart := false, narrowed := true }
def ScanBackUptoSaid : Prop := scanBackUptoRow.holds Try.pinned (OpenSpec.upto scanBackSpec)

/-- 'creellaw11.ExportsPuts', WHERE WHAT IT READS IS OF BULK AT MOST 1048576: true; the input reads as it did. -/
def exportsPutsUptoRow : OpenClaim := { program := "ytcmdajkkdognfaa", sum := "15db592209698e0a3b280eaf5b738fc96baa300cda670b88c3a3ca30bc161b7d", func := "creel/creellaw11.ExportsPuts", spec := "exportsPuts", unfollowed := true, recurses := true, apart := false, narrowed := true }
def ExportsPutsUptoSaid : Prop := exportsPutsUptoRow.holds Try.pinned (OpenSpec.upto exportsPutsSpec)

/-- 'creellaw11.ExportsBack', WHERE WHAT IT READS IS OF BULK AT MOST 1048576: true; the input reads as it did. -/
def exportsBackUptoRow : OpenClaim := { program := "ytcmdajkkdognfaa", sum := "15db592209698e0a3b280eaf5b738fc96baa300cda670b88c3a3ca30bc161b7d", func := "creel/creellaw11.ExportsBack", spec := "exportsBack", unfollowed := true, recurses := true, apart := false, narrowed := true }
def ExportsBackUptoSaid : Prop := exportsBackUptoRow.holds Try.pinned (OpenSpec.upto exportsBackSpec)

/-- 'creellaw09.SectJoins', WHERE WHAT IT READS IS OF BULK AT MOST 1048576: true; the input reads as it did. -/
def sectJoinsUptoRow : OpenClaim := { program := "ytcmdajkkdognfaa", sum := "15db592209698e0a3b280eaf5b738fc96baa300cda670b88c3a3ca30bc161b7d", func := "creel/creellaw09.SectJoins", spec := "sectJoins", unfollowed := true, recurses := true, apart := false, narrowed := true }
def SectJoinsUptoSaid : Prop := sectJoinsUptoRow.holds Try.pinned (OpenSpec.upto sectJoinsSpec)

/-- 'creellaw16.DylinkPuts', WHERE WHAT IT READS IS OF BULK AT MOST 1048576: true; the input reads as it did. -/
def dylinkPutsUptoRow : OpenClaim := { program := "ytcmdajkkdognfaa", sum := "15db592209698e0a3b280eaf5b738fc96baa300cda670b88c3a3ca30bc161b7d", func := "creel/creellaw16.DylinkPuts", spec := "dylinkPuts", unfollowed := true, recurses := true, apart := false, narrowed := true }
def DylinkPutsUptoSaid : Prop := dylinkPutsUptoRow.holds Try.pinned (OpenSpec.upto dylinkPutsSpec)

/-- 'creellaw10.ImportsPuts', WHERE WHAT IT READS IS OF BULK AT MOST 1048576: true; the input reads as it did. -/
def importsPutsUptoRow : OpenClaim := { program := "ytcmdajkkdognfaa", sum := "15db592209698e0a3b280eaf5b738fc96baa300cda670b88c3a3ca30bc161b7d", func := "creel/creellaw10.ImportsPuts", spec := "importsPuts", unfollowed := true, recurses := true, apart := false, narrowed := true }
def ImportsPutsUptoSaid : Prop := importsPutsUptoRow.holds Try.pinned (OpenSpec.upto importsPutsSpec)

/-- 'creellaw10.ImportsBack', WHERE WHAT IT READS IS OF BULK AT MOST 1048576: true; the input reads as it did. -/
def importsBackUptoRow : OpenClaim := { program := "ytcmdajkkdognfaa", sum := "15db592209698e0a3b280eaf5b738fc96baa300cda670b88c3a3ca30bc161b7d", func := "creel/creellaw10.ImportsBack", spec := "importsBack", unfollowed := true, recurses := true, apart := false, narrowed := true }
def ImportsBackUptoSaid : Prop := importsBackUptoRow.holds Try.pinned (OpenSpec.upto importsBackSpec)

end Rows
end Go.Proofs.Ytcmdajkkdognfaa
