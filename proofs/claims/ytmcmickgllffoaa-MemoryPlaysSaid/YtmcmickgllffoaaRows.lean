/-
  No cell of these rows narrows 'for every input' (looked for: loops, veiled, ifaces, maps, wideKeys, modest, calm, conditions, laid).
  DERIVED. THE GIVEN ROWS OF THIS SEAT. 7 by the template 'for every input the law returns true; each argument reads behind the call as it read before'; 0 by the template 'total and deterministic' (their statements: YtmcmickgllffoaaTotals.lean).
  GIVEN WITH THE SEED: the statements are not yours to turn. If you find one false, say at which input.
  Laid BY PROGRAM, IN A SANDBOX (cutbox-rows.mjs): the forced cells as the released guide's own fill.sh prints them over the translation d6c9912fa43675c9… (all of the seat's roots in one cut). By AI agents, Wed Nov 11 2026. No macro, syntax, notation, axiom, sorry.
-/
import Derived.Test.YtmcmickgllffoaaChecked
import GoSem.Claim
import GoSem.ClaimJoined
import GoSem.ClaimMapViews
import Derived.JoinedTies
import Derived.KernelRfl
namespace Go.Proofs.Ytmcmickgllffoaa
/- THE CELL 'sum', in the pinned program and in every row, IS THE sha256 OF THE DUMP (.gsa) THAT YtmcmickgllffoaaProg.lean LOADS. Nothing in Lean hashes anything: it is a label: what it is worth is what the hold of that sum in a sandbox is worth. -/
noncomputable def Try.pinned : Pinned := { name := "ytmcmickgllffoaa", sum := "d6c9912fa43675c981ff691ad95b59828ab764ed16d33d41d1a1301d206ad3bb", checked := Try.checked }
namespace Rows
def none {H : Type} : Left H := { results := [], args := [] }

/-- 'creellaw29.FuncsTypes': WHATEVER THE INPUT: true; the input reads as it did. -/
def funcsTypesSpec : ChangeSpec := { name := "funcsTypes", fn := fun _ => fun
  | [d] => { results := [.lit (.bool true)], args := [d] }
  | _ => none }
def funcsTypesRow : OpenClaim := { program := "ytmcmickgllffoaa", sum := "d6c9912fa43675c981ff691ad95b59828ab764ed16d33d41d1a1301d206ad3bb", func := "creel/creellaw29.FuncsTypes", spec := "funcsTypes", apart := false }
def FuncsTypesSaid : Prop := funcsTypesRow.holds Try.pinned (OpenSpec.ofChange funcsTypesSpec)

/-- ITS FALSE NEIGHBOUR: 'it returns false'. Refute it at one input. -/
def funcsTypesWrong : ChangeSpec := { name := "funcsTypes", fn := fun _ => fun
  | [d] => { results := [.lit (.bool false)], args := [d] }
  | _ => none }
def FuncsTypesWrongFalsely : Prop := funcsTypesRow.holds Try.pinned (OpenSpec.ofChange funcsTypesWrong)

/-- 'creellaw28.JournalPlays': WHATEVER THE INPUT: true; the input reads as it did. -/
def journalPlaysSpec : ChangeSpec := { name := "journalPlays", fn := fun _ => fun
  | [d] => { results := [.lit (.bool true)], args := [d] }
  | _ => none }
def journalPlaysRow : OpenClaim := { program := "ytmcmickgllffoaa", sum := "d6c9912fa43675c981ff691ad95b59828ab764ed16d33d41d1a1301d206ad3bb", func := "creel/creellaw28.JournalPlays", spec := "journalPlays", apart := false }
def JournalPlaysSaid : Prop := journalPlaysRow.holds Try.pinned (OpenSpec.ofChange journalPlaysSpec)

/-- ITS FALSE NEIGHBOUR: 'it returns false'. Refute it at one input. -/
def journalPlaysWrong : ChangeSpec := { name := "journalPlays", fn := fun _ => fun
  | [d] => { results := [.lit (.bool false)], args := [d] }
  | _ => none }
def JournalPlaysWrongFalsely : Prop := journalPlaysRow.holds Try.pinned (OpenSpec.ofChange journalPlaysWrong)

/-- 'creellaw29.FuncsPlays': WHATEVER THE INPUT: true; the input reads as it did. -/
def funcsPlaysSpec : ChangeSpec := { name := "funcsPlays", fn := fun _ => fun
  | [d] => { results := [.lit (.bool true)], args := [d] }
  | _ => none }
def funcsPlaysRow : OpenClaim := { program := "ytmcmickgllffoaa", sum := "d6c9912fa43675c981ff691ad95b59828ab764ed16d33d41d1a1301d206ad3bb", func := "creel/creellaw29.FuncsPlays", spec := "funcsPlays", apart := false }
def FuncsPlaysSaid : Prop := funcsPlaysRow.holds Try.pinned (OpenSpec.ofChange funcsPlaysSpec)

/-- ITS FALSE NEIGHBOUR: 'it returns false'. Refute it at one input. -/
def funcsPlaysWrong : ChangeSpec := { name := "funcsPlays", fn := fun _ => fun
  | [d] => { results := [.lit (.bool false)], args := [d] }
  | _ => none }
def FuncsPlaysWrongFalsely : Prop := funcsPlaysRow.holds Try.pinned (OpenSpec.ofChange funcsPlaysWrong)

/-- 'creellaw20.ConvAccess': WHATEVER THE INPUT: true; the input reads as it did. -/
def convAccessSpec : ChangeSpec := { name := "convAccess", fn := fun _ => fun
  | [d1, d2, d3] => { results := [.lit (.bool true)], args := [d1, d2, d3] }
  | _ => none }
def convAccessRow : OpenClaim := { program := "ytmcmickgllffoaa", sum := "d6c9912fa43675c981ff691ad95b59828ab764ed16d33d41d1a1301d206ad3bb", func := "creel/creellaw20.ConvAccess", spec := "convAccess", apart := false }
def ConvAccessSaid : Prop := convAccessRow.holds Try.pinned (OpenSpec.ofChange convAccessSpec)

/-- ITS FALSE NEIGHBOUR: 'it returns false'. Refute it at one input. -/
def convAccessWrong : ChangeSpec := { name := "convAccess", fn := fun _ => fun
  | [d1, d2, d3] => { results := [.lit (.bool false)], args := [d1, d2, d3] }
  | _ => none }
def ConvAccessWrongFalsely : Prop := convAccessRow.holds Try.pinned (OpenSpec.ofChange convAccessWrong)

/-- 'creellaw20.ConvBack': WHATEVER THE INPUT: true; the input reads as it did. -/
def convBackSpec : ChangeSpec := { name := "convBack", fn := fun _ => fun
  | [d1, d2] => { results := [.lit (.bool true)], args := [d1, d2] }
  | _ => none }
def convBackRow : OpenClaim := { program := "ytmcmickgllffoaa", sum := "d6c9912fa43675c981ff691ad95b59828ab764ed16d33d41d1a1301d206ad3bb", func := "creel/creellaw20.ConvBack", spec := "convBack", apart := false }
def ConvBackSaid : Prop := convBackRow.holds Try.pinned (OpenSpec.ofChange convBackSpec)

/-- ITS FALSE NEIGHBOUR: 'it returns false'. Refute it at one input. -/
def convBackWrong : ChangeSpec := { name := "convBack", fn := fun _ => fun
  | [d1, d2] => { results := [.lit (.bool false)], args := [d1, d2] }
  | _ => none }
def ConvBackWrongFalsely : Prop := convBackRow.holds Try.pinned (OpenSpec.ofChange convBackWrong)

/-- 'creellaw20.ConvDoes': WHATEVER THE INPUT: true; the input reads as it did. -/
def convDoesSpec : ChangeSpec := { name := "convDoes", fn := fun _ => fun
  | [d1, d2, d3] => { results := [.lit (.bool true)], args := [d1, d2, d3] }
  | _ => none }
def convDoesRow : OpenClaim := { program := "ytmcmickgllffoaa", sum := "d6c9912fa43675c981ff691ad95b59828ab764ed16d33d41d1a1301d206ad3bb", func := "creel/creellaw20.ConvDoes", spec := "convDoes", apart := false }
def ConvDoesSaid : Prop := convDoesRow.holds Try.pinned (OpenSpec.ofChange convDoesSpec)

/-- ITS FALSE NEIGHBOUR: 'it returns false'. Refute it at one input. -/
def convDoesWrong : ChangeSpec := { name := "convDoes", fn := fun _ => fun
  | [d1, d2, d3] => { results := [.lit (.bool false)], args := [d1, d2, d3] }
  | _ => none }
def ConvDoesWrongFalsely : Prop := convDoesRow.holds Try.pinned (OpenSpec.ofChange convDoesWrong)

/-- 'creellaw26.MemoryPlays': WHATEVER THE INPUT: true; the input reads as it did. -/
def memoryPlaysSpec : ChangeSpec := { name := "memoryPlays", fn := fun _ => fun
  | [d1, d2, d3] => { results := [.lit (.bool true)], args := [d1, d2, d3] }
  | _ => none }
def memoryPlaysRow : OpenClaim := { program := "ytmcmickgllffoaa", sum := "d6c9912fa43675c981ff691ad95b59828ab764ed16d33d41d1a1301d206ad3bb", func := "creel/creellaw26.MemoryPlays", spec := "memoryPlays", apart := false }
def MemoryPlaysSaid : Prop := memoryPlaysRow.holds Try.pinned (OpenSpec.ofChange memoryPlaysSpec)

/-- ITS FALSE NEIGHBOUR: 'it returns false'. Refute it at one input. -/
def memoryPlaysWrong : ChangeSpec := { name := "memoryPlays", fn := fun _ => fun
  | [d1, d2, d3] => { results := [.lit (.bool false)], args := [d1, d2, d3] }
  | _ => none }
def MemoryPlaysWrongFalsely : Prop := memoryPlaysRow.holds Try.pinned (OpenSpec.ofChange memoryPlaysWrong)

/- THE SECOND FORM. 'bulk': how many values and letters a reading holds, each counted each time it is reached (what is shared counts as often as it is met; a slice's spare places count too). A statement '..UptoSaid' is the law's where the arguments, and the package variables that the reading takes, are together of bulk at most 1048576: NARROWER than '..Said'. Prove '..Said' where nothing that the law and all that it calls make is longer than what came in: it says more and counts as full. Else prove '..UptoSaid'. A law counts once. -/
mutual
def uptoBulk {H : Type} : DataW H → Nat
  | .lit (.string bytes) => bytes.length + 1
  | .lit _ => 1
  | .nil => 1
  | .ptr d => uptoBulk d + 1
  | .slice elems spare => uptoBulkAll elems + uptoBulkAll spare + 1
  | .agg parts => uptoBulkAll parts + 1
  | .iface _ d => uptoBulk d + 1
  | .map entries => uptoBulkEntries entries + 1
  | .held _ => 1
def uptoBulkAll {H : Type} : List (DataW H) → Nat
  | [] => 0
  | d :: r => uptoBulk d + uptoBulkAll r
def uptoBulkEntries {H : Type} : List (Lit × DataW H) → Nat
  | [] => 0
  | x :: r => uptoBulkEntry x + uptoBulkEntries r
def uptoBulkEntry {H : Type} : Lit × DataW H → Nat
  | (.string bytes, d) => bytes.length + uptoBulk d + 1
  | (_, d) => uptoBulk d + 1
 end
def uptoSmall : (H : Type) → List (DataW H) → Bool := fun _ ds => decide (uptoBulkAll ds ≤ 1048576)
def OpenSpec.upto (s : _root_.Go.ChangeSpec) : _root_.Go.OpenSpec := { _root_.Go.OpenSpec.ofChange s with cond := some uptoSmall }

/-- 'creellaw29.FuncsTypes', WHERE WHAT IT READS IS OF BULK AT MOST 1048576: true; the input reads as it did. -/
def funcsTypesUptoRow : OpenClaim := { program := "ytmcmickgllffoaa", sum := "d6c9912fa43675c981ff691ad95b59828ab764ed16d33d41d1a1301d206ad3bb", func := "creel/creellaw29.FuncsTypes", spec := "funcsTypes", apart := false, narrowed := true }
def FuncsTypesUptoSaid : Prop := funcsTypesUptoRow.holds Try.pinned (OpenSpec.upto funcsTypesSpec)

/-- 'creellaw28.JournalPlays', WHERE WHAT IT READS IS OF BULK AT MOST 1048576: true; the input reads as it did. -/
def journalPlaysUptoRow : OpenClaim := { program := "ytmcmickgllffoaa", sum := "d6c9912fa43675c981ff691ad95b59828ab764ed16d33d41d1a1301d206ad3bb", func := "creel/creellaw28.JournalPlays", spec := "journalPlays", apart := false, narrowed := true }
def JournalPlaysUptoSaid : Prop := journalPlaysUptoRow.holds Try.pinned (OpenSpec.upto journalPlaysSpec)

/-- 'creellaw29.FuncsPlays', WHERE WHAT IT READS IS OF BULK AT MOST 1048576: true; the input reads as it did. -/
def funcsPlaysUptoRow : OpenClaim := { program := "ytmcmickgllffoaa", sum := "d6c9912fa43675c981ff691ad95b59828ab764ed16d33d41d1a1301d206ad3bb", func := "creel/creellaw29.FuncsPlays", spec := "funcsPlays", apart := false, narrowed := true }
def FuncsPlaysUptoSaid : Prop := funcsPlaysUptoRow.holds Try.pinned (OpenSpec.upto funcsPlaysSpec)

/-- 'creellaw20.ConvAccess', WHERE WHAT IT READS IS OF BULK AT MOST 1048576: true; the input reads as it did. -/
def convAccessUptoRow : OpenClaim := { program := "ytmcmickgllffoaa", sum := "d6c9912fa43675c981ff691ad95b59828ab764ed16d33d41d1a1301d206ad3bb", func := "creel/creellaw20.ConvAccess", spec := "convAccess", apart := false, narrowed := true }
def ConvAccessUptoSaid : Prop := convAccessUptoRow.holds Try.pinned (OpenSpec.upto convAccessSpec)

/-- 'creellaw20.ConvBack', WHERE WHAT IT READS IS OF BULK AT MOST 1048576: true; the input reads as it did. -/
def convBackUptoRow : OpenClaim := { program := "ytmcmickgllffoaa", sum := "d6c9912fa43675c981ff691ad95b59828ab764ed16d33d41d1a1301d206ad3bb", func := "creel/creellaw20.ConvBack", spec := "convBack", apart := false, narrowed := true }
def ConvBackUptoSaid : Prop := convBackUptoRow.holds Try.pinned (OpenSpec.upto convBackSpec)

/-- 'creellaw20.ConvDoes', WHERE WHAT IT READS IS OF BULK AT MOST 1048576: true; the input reads as it did. -/
def convDoesUptoRow : OpenClaim := { program := "ytmcmickgllffoaa", sum := "d6c9912fa43675c981ff691ad95b59828ab764ed16d33d41d1a1301d206ad3bb", func := "creel/creellaw20.ConvDoes", spec := "convDoes", apart := false, narrowed := true }
def ConvDoesUptoSaid : Prop := convDoesUptoRow.holds Try.pinned (OpenSpec.upto convDoesSpec)

/-- 'creellaw26.MemoryPlays', WHERE WHAT IT READS IS OF BULK AT MOST 1048576: true; the input reads as it did. -/
def memoryPlaysUptoRow : OpenClaim := { program := "ytmcmickgllffoaa", sum := "d6c9912fa43675c981ff691ad95b59828ab764ed16d33d41d1a1301d206ad3bb", func := "creel/creellaw26.MemoryPlays", spec := "memoryPlays", apart := false, narrowed := true }
def MemoryPlaysUptoSaid : Prop := memoryPlaysUptoRow.holds Try.pinned (OpenSpec.upto memoryPlaysSpec)

end Rows
end Go.Proofs.Ytmcmickgllffoaa
