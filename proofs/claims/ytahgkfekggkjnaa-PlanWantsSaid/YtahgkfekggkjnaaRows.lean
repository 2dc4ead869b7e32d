/-
  No cell of these rows narrows 'for every input' (looked for: loops, veiled, ifaces, maps, wideKeys, modest, calm, conditions, laid).
  DERIVED. THE GIVEN ROWS OF THIS SEAT. 13 by the template 'for every input the law returns true; each argument reads behind the call as it read before'; 0 by the template 'total and deterministic' (their statements: YtahgkfekggkjnaaTotals.lean).
  GIVEN WITH THE SEED: the statements are not yours to turn. If you find one false, say at which input.
  Laid BY PROGRAM, IN A SANDBOX (cutbox-rows.mjs): the forced cells as the released guide's own fill.sh prints them over the translation 2e67b5eabff74836… (all of the seat's roots in one cut). By AI agents, Wed Nov 11 2026. No macro, syntax, notation, axiom, sorry.
-/
import Derived.Test.YtahgkfekggkjnaaChecked
import GoSem.Claim
import GoSem.ClaimJoined
import GoSem.ClaimMapViews
import Derived.JoinedTies
import Derived.KernelRfl
namespace Go.Proofs.Ytahgkfekggkjnaa
/- THE CELL 'sum', in the pinned program and in every row, IS THE sha256 OF THE DUMP (.gsa) THAT YtahgkfekggkjnaaProg.lean LOADS. Nothing in Lean hashes anything: it is a label: what it is worth is what the hold of that sum in a sandbox is worth. -/
noncomputable def Try.pinned : Pinned := { name := "ytahgkfekggkjnaa", sum := "2e67b5eabff748361110d8b7bff747546810425d5027033eac838776b06ae437", checked := Try.checked }
namespace Rows
def none {H : Type} : Left H := { results := [], args := [] }

/-- 'creellaw03.UtfShows': WHATEVER THE INPUT: true; the input reads as it did. -/
def utfShowsSpec : ChangeSpec := { name := "utfShows", fn := fun _ => fun
  | [d1, d2] => { results := [.lit (.bool true)], args := [d1, d2] }
  | _ => none }
def utfShowsRow : OpenClaim := { program := "ytahgkfekggkjnaa", sum := "2e67b5eabff748361110d8b7bff747546810425d5027033eac838776b06ae437", func := "creel/creellaw03.UtfShows", spec := "utfShows", apart := false }
def UtfShowsSaid : Prop := utfShowsRow.holds Try.pinned (OpenSpec.ofChange utfShowsSpec)

/-- ITS FALSE NEIGHBOUR: 'it returns false'. Refute it at one input. -/
def utfShowsWrong : ChangeSpec := { name := "utfShows", fn := fun _ => fun
  | [d1, d2] => { results := [.lit (.bool false)], args := [d1, d2] }
  | _ => none }
def UtfShowsWrongFalsely : Prop := utfShowsRow.holds Try.pinned (OpenSpec.ofChange utfShowsWrong)

/-- 'creellaw23.FlowEnds': WHATEVER THE INPUT: true; the input reads as it did. -/
def flowEndsSpec : ChangeSpec := { name := "flowEnds", fn := fun _ => fun
  | [d] => { results := [.lit (.bool true)], args := [d] }
  | _ => none }
def flowEndsRow : OpenClaim := { program := "ytahgkfekggkjnaa", sum := "2e67b5eabff748361110d8b7bff747546810425d5027033eac838776b06ae437", func := "creel/creellaw23.FlowEnds", spec := "flowEnds", apart := false }
def FlowEndsSaid : Prop := flowEndsRow.holds Try.pinned (OpenSpec.ofChange flowEndsSpec)

/-- ITS FALSE NEIGHBOUR: 'it returns false'. Refute it at one input. -/
def flowEndsWrong : ChangeSpec := { name := "flowEnds", fn := fun _ => fun
  | [d] => { results := [.lit (.bool false)], args := [d] }
  | _ => none }
def FlowEndsWrongFalsely : Prop := flowEndsRow.holds Try.pinned (OpenSpec.ofChange flowEndsWrong)

/-- 'creellaw23.FlowNests': WHATEVER THE INPUT: true; the input reads as it did. -/
def flowNestsSpec : ChangeSpec := { name := "flowNests", fn := fun _ => fun
  | [d] => { results := [.lit (.bool true)], args := [d] }
  | _ => none }
def flowNestsRow : OpenClaim := { program := "ytahgkfekggkjnaa", sum := "2e67b5eabff748361110d8b7bff747546810425d5027033eac838776b06ae437", func := "creel/creellaw23.FlowNests", spec := "flowNests", apart := false }
def FlowNestsSaid : Prop := flowNestsRow.holds Try.pinned (OpenSpec.ofChange flowNestsSpec)

/-- ITS FALSE NEIGHBOUR: 'it returns false'. Refute it at one input. -/
def flowNestsWrong : ChangeSpec := { name := "flowNests", fn := fun _ => fun
  | [d] => { results := [.lit (.bool false)], args := [d] }
  | _ => none }
def FlowNestsWrongFalsely : Prop := flowNestsRow.holds Try.pinned (OpenSpec.ofChange flowNestsWrong)

/-- 'creellaw39.BindChases': WHATEVER THE INPUT: true; the input reads as it did. -/
def bindChasesSpec : ChangeSpec := { name := "bindChases", fn := fun _ => fun
  | [d1, d2, d3] => { results := [.lit (.bool true)], args := [d1, d2, d3] }
  | _ => none }
def bindChasesRow : OpenClaim := { program := "ytahgkfekggkjnaa", sum := "2e67b5eabff748361110d8b7bff747546810425d5027033eac838776b06ae437", func := "creel/creellaw39.BindChases", spec := "bindChases", apart := false }
def BindChasesSaid : Prop := bindChasesRow.holds Try.pinned (OpenSpec.ofChange bindChasesSpec)

/-- ITS FALSE NEIGHBOUR: 'it returns false'. Refute it at one input. -/
def bindChasesWrong : ChangeSpec := { name := "bindChases", fn := fun _ => fun
  | [d1, d2, d3] => { results := [.lit (.bool false)], args := [d1, d2, d3] }
  | _ => none }
def BindChasesWrongFalsely : Prop := bindChasesRow.holds Try.pinned (OpenSpec.ofChange bindChasesWrong)

/-- 'creellaw38.PlanLess': WHATEVER THE INPUT: true; the input reads as it did. -/
def planLessSpec : ChangeSpec := { name := "planLess", fn := fun _ => fun
  | [d] => { results := [.lit (.bool true)], args := [d] }
  | _ => none }
def planLessRow : OpenClaim := { program := "ytahgkfekggkjnaa", sum := "2e67b5eabff748361110d8b7bff747546810425d5027033eac838776b06ae437", func := "creel/creellaw38.PlanLess", spec := "planLess", apart := false }
def PlanLessSaid : Prop := planLessRow.holds Try.pinned (OpenSpec.ofChange planLessSpec)

/-- ITS FALSE NEIGHBOUR: 'it returns false'. Refute it at one input. -/
def planLessWrong : ChangeSpec := { name := "planLess", fn := fun _ => fun
  | [d] => { results := [.lit (.bool false)], args := [d] }
  | _ => none }
def PlanLessWrongFalsely : Prop := planLessRow.holds Try.pinned (OpenSpec.ofChange planLessWrong)

/-- 'creellaw03.UtfNames': WHATEVER THE INPUT: true; the input reads as it did. -/
def utfNamesSpec : ChangeSpec := { name := "utfNames", fn := fun _ => fun
  | [d1, d2] => { results := [.lit (.bool true)], args := [d1, d2] }
  | _ => none }
def utfNamesRow : OpenClaim := { program := "ytahgkfekggkjnaa", sum := "2e67b5eabff748361110d8b7bff747546810425d5027033eac838776b06ae437", func := "creel/creellaw03.UtfNames", spec := "utfNames", apart := false }
def UtfNamesSaid : Prop := utfNamesRow.holds Try.pinned (OpenSpec.ofChange utfNamesSpec)

/-- ITS FALSE NEIGHBOUR: 'it returns false'. Refute it at one input. -/
def utfNamesWrong : ChangeSpec := { name := "utfNames", fn := fun _ => fun
  | [d1, d2] => { results := [.lit (.bool false)], args := [d1, d2] }
  | _ => none }
def UtfNamesWrongFalsely : Prop := utfNamesRow.holds Try.pinned (OpenSpec.ofChange utfNamesWrong)

/-- 'creellaw03.UtfSigns': WHATEVER THE INPUT: true; the input reads as it did. -/
def utfSignsSpec : ChangeSpec := { name := "utfSigns", fn := fun _ => fun
  | [d1, d2] => { results := [.lit (.bool true)], args := [d1, d2] }
  | _ => none }
def utfSignsRow : OpenClaim := { program := "ytahgkfekggkjnaa", sum := "2e67b5eabff748361110d8b7bff747546810425d5027033eac838776b06ae437", func := "creel/creellaw03.UtfSigns", spec := "utfSigns", apart := false }
def UtfSignsSaid : Prop := utfSignsRow.holds Try.pinned (OpenSpec.ofChange utfSignsSpec)

/-- ITS FALSE NEIGHBOUR: 'it returns false'. Refute it at one input. -/
def utfSignsWrong : ChangeSpec := { name := "utfSigns", fn := fun _ => fun
  | [d1, d2] => { results := [.lit (.bool false)], args := [d1, d2] }
  | _ => none }
def UtfSignsWrongFalsely : Prop := utfSignsRow.holds Try.pinned (OpenSpec.ofChange utfSignsWrong)

/-- 'creellaw23.FlowDepths': WHATEVER THE INPUT: true; the input reads as it did. -/
def flowDepthsSpec : ChangeSpec := { name := "flowDepths", fn := fun _ => fun
  | [d] => { results := [.lit (.bool true)], args := [d] }
  | _ => none }
def flowDepthsRow : OpenClaim := { program := "ytahgkfekggkjnaa", sum := "2e67b5eabff748361110d8b7bff747546810425d5027033eac838776b06ae437", func := "creel/creellaw23.FlowDepths", spec := "flowDepths", apart := false }
def FlowDepthsSaid : Prop := flowDepthsRow.holds Try.pinned (OpenSpec.ofChange flowDepthsSpec)

/-- ITS FALSE NEIGHBOUR: 'it returns false'. Refute it at one input. -/
def flowDepthsWrong : ChangeSpec := { name := "flowDepths", fn := fun _ => fun
  | [d] => { results := [.lit (.bool false)], args := [d] }
  | _ => none }
def FlowDepthsWrongFalsely : Prop := flowDepthsRow.holds Try.pinned (OpenSpec.ofChange flowDepthsWrong)

/-- 'creellaw37.ScopeNear': WHATEVER THE INPUT: true; the input reads as it did. -/
def scopeNearSpec : ChangeSpec := { name := "scopeNear", fn := fun _ => fun
  | [d1, d2] => { results := [.lit (.bool true)], args := [d1, d2] }
  | _ => none }
def scopeNearRow : OpenClaim := { program := "ytahgkfekggkjnaa", sum := "2e67b5eabff748361110d8b7bff747546810425d5027033eac838776b06ae437", func := "creel/creellaw37.ScopeNear", spec := "scopeNear", apart := false }
def ScopeNearSaid : Prop := scopeNearRow.holds Try.pinned (OpenSpec.ofChange scopeNearSpec)

/-- ITS FALSE NEIGHBOUR: 'it returns false'. Refute it at one input. -/
def scopeNearWrong : ChangeSpec := { name := "scopeNear", fn := fun _ => fun
  | [d1, d2] => { results := [.lit (.bool false)], args := [d1, d2] }
  | _ => none }
def ScopeNearWrongFalsely : Prop := scopeNearRow.holds Try.pinned (OpenSpec.ofChange scopeNearWrong)

/-- 'creellaw38.PlanWants': WHATEVER THE INPUT: true; the input reads as it did. -/
def planWantsSpec : ChangeSpec := { name := "planWants", fn := fun _ => fun
  | [d1, d2] => { results := [.lit (.bool true)], args := [d1, d2] }
  | _ => none }
def planWantsRow : OpenClaim := { program := "ytahgkfekggkjnaa", sum := "2e67b5eabff748361110d8b7bff747546810425d5027033eac838776b06ae437", func := "creel/creellaw38.PlanWants", spec := "planWants", apart := false }
def PlanWantsSaid : Prop := planWantsRow.holds Try.pinned (OpenSpec.ofChange planWantsSpec)

/-- ITS FALSE NEIGHBOUR: 'it returns false'. Refute it at one input. -/
def planWantsWrong : ChangeSpec := { name := "planWants", fn := fun _ => fun
  | [d1, d2] => { results := [.lit (.bool false)], args := [d1, d2] }
  | _ => none }
def PlanWantsWrongFalsely : Prop := planWantsRow.holds Try.pinned (OpenSpec.ofChange planWantsWrong)

/-- 'creellaw37.ScopeFinds': WHATEVER THE INPUT: true; the input reads as it did. -/
def scopeFindsSpec : ChangeSpec := { name := "scopeFinds", fn := fun _ => fun
  | [d1, d2, d3] => { results := [.lit (.bool true)], args := [d1, d2, d3] }
  | _ => none }
def scopeFindsRow : OpenClaim := { program := "ytahgkfekggkjnaa", sum := "2e67b5eabff748361110d8b7bff747546810425d5027033eac838776b06ae437", func := "creel/creellaw37.ScopeFinds", spec := "scopeFinds", apart := false }
def ScopeFindsSaid : Prop := scopeFindsRow.holds Try.pinned (OpenSpec.ofChange scopeFindsSpec)

/-- ITS FALSE NEIGHBOUR: 'it returns false'. Refute it at one input. -/
def scopeFindsWrong : ChangeSpec := { name := "scopeFinds", fn := fun _ => fun
  | [d1, d2, d3] => { results := [.lit (.bool false)], args := [d1, d2, d3] }
  | _ => none }
def ScopeFindsWrongFalsely : Prop := scopeFindsRow.holds Try.pinned (OpenSpec.ofChange scopeFindsWrong)

/-- 'creellaw18.AluTwo': WHATEVER THE INPUT: true; the input reads as it did. -/
def aluTwoSpec : ChangeSpec := { name := "aluTwo", fn := fun _ => fun
  | [d1, d2, d3] => { results := [.lit (.bool true)], args := [d1, d2, d3] }
  | _ => none }
def aluTwoRow : OpenClaim := { program := "ytahgkfekggkjnaa", sum := "2e67b5eabff748361110d8b7bff747546810425d5027033eac838776b06ae437", func := "creel/creellaw18.AluTwo", spec := "aluTwo", apart := false }
def AluTwoSaid : Prop := aluTwoRow.holds Try.pinned (OpenSpec.ofChange aluTwoSpec)

/-- ITS FALSE NEIGHBOUR: 'it returns false'. Refute it at one input. -/
def aluTwoWrong : ChangeSpec := { name := "aluTwo", fn := fun _ => fun
  | [d1, d2, d3] => { results := [.lit (.bool false)], args := [d1, d2, d3] }
  | _ => none }
def AluTwoWrongFalsely : Prop := aluTwoRow.holds Try.pinned (OpenSpec.ofChange aluTwoWrong)

/-- 'creellaw18.AluLaws': WHATEVER THE INPUT: true; the input reads as it did. -/
def aluLawsSpec : ChangeSpec := { name := "aluLaws", fn := fun _ => fun
  | [d1, d2] => { results := [.lit (.bool true)], args := [d1, d2] }
  | _ => none }
def aluLawsRow : OpenClaim := { program := "ytahgkfekggkjnaa", sum := "2e67b5eabff748361110d8b7bff747546810425d5027033eac838776b06ae437", func := "creel/creellaw18.AluLaws", spec := "aluLaws", unfollowed := true, recurses := true, apart := false }
def AluLawsSaid : Prop := aluLawsRow.holds Try.pinned (OpenSpec.ofChange aluLawsSpec)

/-- ITS FALSE NEIGHBOUR: 'it returns false'. Refute it at one input. -/
def aluLawsWrong : ChangeSpec := { name := "aluLaws", fn := fun _ => fun
  | [d1, d2] => { results := [.lit (.bool false)], args := [d1, d2] }
  | _ => none }
def AluLawsWrongFalsely : Prop := aluLawsRow.holds Try.pinned (OpenSpec.ofChange aluLawsWrong)

/- THE SECOND FORM. 'bulk': how many values and letters a reading holds, each counted each time it is reached (what is shared counts as often as it is met; a slice's spare places count too). A statement '..UptoSaid' is the law's where the arguments, and the package variables that the reading takes, are together of bulk at most 1048576: NARROWER than '..Said'. Prove '..Said' where nothing that the law and all that it calls make is longer than what came in: it says more and counts as full. Else prove '..UptoSaid'. A law counts once. -/
mutual
def uptoBulk {H : Type} : DataW H → Nat
  | .lit (.string bytes) => bytes.length + 1
  | .lit _ => 1
  | .nil => 1
  | .ptr d => uptoBulk d + 1
  | .slice elems spare => uptoBulkAll elems + uptoBulkAll spare + 1
  | .agg parts => uptoBulkAll parts + 1
  | .iface _ d => uptoBulk d + 1
  | .map entries => uptoBulkEntries entries + 1
  | .held _ => 1
def uptoBulkAll {H : Type} : List (DataW H) → Nat
  | [] => 0
  | d :: r => uptoBulk d + uptoBulkAll r
def uptoBulkEntries {H : Type} : List (Lit × DataW H) → Nat
  | [] => 0
  | x :: r => uptoBulkEntry x + uptoBulkEntries r
def uptoBulkEntry {H : Type} : Lit × DataW H → Nat
  | (.string bytes, d) => bytes.length + uptoBulk d + 1
  | (_, d) => uptoBulk d + 1
 end
def uptoSmall : (H : Type) → List (DataW H) → Bool := fun _ ds => decide (uptoBulkAll ds ≤ 1048576)
def OpenSpec.upto (s : _root_.Go.ChangeSpec) : _root_.Go.OpenSpec := { _root_.Go.OpenSpec.ofChange s with cond := some uptoSmall }

/-- 'creellaw03.UtfShows', WHERE WHAT IT READS IS OF BULK AT MOST 1048576: true; the input reads as it did. -/
def utfShowsUptoRow : OpenClaim := { program := "ytahgkfekggkjnaa", sum := "2e67b5eabff748361110d8b7bff747546810425d5027033eac838776b06ae437", func := "creel/creellaw03.UtfShows", spec := "utfShows", apart := false, narrowed := true }
def UtfShowsUptoSaid : Prop := utfShowsUptoRow.holds Try.pinned (OpenSpec.upto utfShowsSpec)

/-- 'creellaw23.FlowEnds', WHERE WHAT IT READS IS OF BULK AT MOST 1048576: true; the input reads as it did. -/
def flowEndsUptoRow : OpenClaim := { program := "ytahgkfekggkjnaa", sum := "2e67b5eabff748361110d8b7bff747546810425d5027033eac838776b06ae437", func := "creel/creellaw23.FlowEnds", spec := "flowEnds", apart := false, narrowed := true }
def FlowEndsUptoSaid : Prop := flowEndsUptoRow.holds Try.pinned (OpenSpec.upto flowEndsSpec)

/-- 'creellaw23.FlowNests', WHERE WHAT IT READS IS OF BULK AT MOST 1048576: true; the input reads as it did. -/
def flowNestsUptoRow : OpenClaim := { program := "ytahgkfekggkjnaa", sum := "2e67b5eabff748361110d8b7bff747546810425d5027033eac838776b06ae437", func := "creel/creellaw23.FlowNests", spec := "flowNests", apart := false, narrowed := true }
def FlowNestsUptoSaid : Prop := flowNestsUptoRow.holds Try.pinned (OpenSpec.upto flowNestsSpec)

/-- 'creellaw39.BindChases', WHERE WHAT IT READS IS OF BULK AT MOST 1048576: true; the input reads as it did. -/
def bindChasesUptoRow : OpenClaim := { program := "ytahgkfekggkjnaa", sum := "2e67b5eabff748361110d8b7bff747546810425d5027033eac838776b06ae437", func := "creel/creellaw39.BindChases", spec := "bindChases", apart := false, narrowed := true }
def BindChasesUptoSaid : Prop := bindChasesUptoRow.holds Try.pinned (OpenSpec.upto bindChasesSpec)

/-- 'creellaw38.PlanLess', WHERE WHAT IT READS IS OF BULK AT MOST 1048576: true; the input reads as it did. -/
def planLessUptoRow : OpenClaim := { program := "ytahgkfekggkjnaa", sum := "2e67b5eabff748361110d8b7bff747546810425d5027033eac838776b06ae437", func := "creel/creellaw38.PlanLess", spec := "planLess", apart := false, narrowed := true }
def PlanLessUptoSaid : Prop := planLessUptoRow.holds Try.pinned (OpenSpec.upto planLessSpec)

/-- 'creellaw03.UtfNames', WHERE WHAT IT READS IS OF BULK AT MOST 1048576: true; the input reads as it did. -/
def utfNamesUptoRow : OpenClaim := { program := "ytahgkfekggkjnaa", sum := "2e67b5eabff748361110d8b7bff747546810425d5027033eac838776b06ae437", func := "creel/creellaw03.UtfNames", spec := "utfNames", apart := false, narrowed := true }
def UtfNamesUptoSaid : Prop := utfNamesUptoRow.holds Try.pinned (OpenSpec.upto utfNamesSpec)

/-- 'creellaw03.UtfSigns', WHERE WHAT IT READS IS OF BULK AT MOST 1048576: true; the input reads as it did. -/
def utfSignsUptoRow : OpenClaim := { program := "ytahgkfekggkjnaa", sum := "2e67b5eabff748361110d8b7bff747546810425d5027033eac838776b06ae437", func := "creel/creellaw03.UtfSigns", spec := "utfSigns", apart := false, narrowed := true }
def UtfSignsUptoSaid : Prop := utfSignsUptoRow.holds Try.pinned (OpenSpec.upto utfSignsSpec)

/-- 'creellaw23.FlowDepths', WHERE WHAT IT READS IS OF BULK AT MOST 1048576: true; the input reads as it did. -/
def flowDepthsUptoRow : OpenClaim := { program := "ytahgkfekggkjnaa", sum := "2e67b5eabff748361110d8b7bff747546810425d5027033eac838776b06ae437", func := "creel/creellaw23.FlowDepths", spec := "flowDepths", apart := false, narrowed := true }
def FlowDepthsUptoSaid : Prop := flowDepthsUptoRow.holds Try.pinned (OpenSpec.upto flowDepthsSpec)

/-- 'creellaw37.ScopeNear', WHERE WHAT IT READS IS OF BULK AT MOST 1048576: true; the input reads as it did. -/
def scopeNearUptoRow : OpenClaim := { program := "ytahgkfekggkjnaa", sum := "2e67b5eabff748361110d8b7bff747546810425d5027033eac838776b06ae437", func := "creel/creellaw37.ScopeNear", spec := "scopeNear", apart := false, narrowed := true }
def ScopeNearUptoSaid : Prop := scopeNearUptoRow.holds Try.pinned (OpenSpec.upto scopeNearSpec)

/-- 'creellaw38.PlanWants', WHERE WHAT IT READS IS OF BULK AT MOST 1048576: true; the input reads as it did. -/
def planWantsUptoRow : OpenClaim := { program := "ytahgkfekggkjnaa", sum := "2e67b5eabff748361110d8b7bff747546810425d5027033eac838776b06ae437", func := "creel/creellaw38.PlanWants", spec := "planWants", apart := false, narrowed := true }
def PlanWantsUptoSaid : Prop := planWantsUptoRow.holds Try.pinned (OpenSpec.upto planWantsSpec)

/-- 'creellaw37.ScopeFinds', WHERE WHAT IT READS IS OF BULK AT MOST 1048576: true; the input reads as it did. -/
def scopeFindsUptoRow : OpenClaim := { program := "ytahgkfekggkjnaa", sum := "2e67b5eabff748361110d8b7bff747546810425d5027033eac838776b06ae437", func := "creel/creellaw37.ScopeFinds", spec := "scopeFinds", apart := false, narrowed := true }
def ScopeFindsUptoSaid : Prop := scopeFindsUptoRow.holds Try.pinned (OpenSpec.upto scopeFindsSpec)

/-- 'creellaw18.AluTwo', WHERE WHAT IT READS IS OF BULK AT MOST 1048576: true; the input reads as it did. -/
def aluTwoUptoRow : OpenClaim := { program := "ytahgkfekggkjnaa", sum := "2e67b5eabff748361110d8b7bff747546810425d5027033eac838776b06ae437", func := "creel/creellaw18.AluTwo", spec := "aluTwo", apart := false, narrowed := true }
def AluTwoUptoSaid : Prop := aluTwoUptoRow.holds Try.pinned (OpenSpec.upto aluTwoSpec)

/-- 'creellaw18.AluLaws', WHERE WHAT IT READS IS OF BULK AT MOST 1048576: true; the input reads as it did. -/
def aluLawsUptoRow : OpenClaim := { program := "ytahgkfekggkjnaa", sum := "2e67b5eabff748361110d8b7bff747546810425d5027033eac838776b06ae437", func := "creel/creellaw18.AluLaws", spec := "aluLaws", unfollowed := true, recurses := true, apart := false, narrowed := true }
def AluLawsUptoSaid : Prop := aluLawsUptoRow.holds Try.pinned (OpenSpec.upto aluLawsSpec)

end Rows
end Go.Proofs.Ytahgkfekggkjnaa
