/-
  No cell of these rows narrows 'for every input' (looked for: loops, veiled, ifaces, maps, wideKeys, modest, calm, conditions, laid).
  DERIVED. THE GIVEN ROWS OF THIS SEAT. 6 by the template 'for every input the law returns true; each argument reads behind the call as it read before'; 0 by the template 'total and deterministic' (their statements: YtbaomlmannpnaaaTotals.lean).
  GIVEN WITH THE SEED: the statements are not yours to turn. If you find one false, say at which input.
  Laid BY PROGRAM, IN A SANDBOX (cutbox-rows.mjs): the forced cells as the released guide's own fill.sh prints them over the translation 70515807dfab1750… (all of the seat's roots in one cut). By AI agents, Wed Nov 11 2026. No macro, syntax, notation, axiom, sorry.
-/
import Derived.Test.YtbaomlmannpnaaaChecked
import GoSem.Claim
import GoSem.ClaimJoined
import GoSem.ClaimMapViews
import Derived.JoinedTies
import Derived.KernelRfl
namespace Go.Proofs.Ytbaomlmannpnaaa
/- THE CELL 'sum', in the pinned program and in every row, IS THE sha256 OF THE DUMP (.gsa) THAT YtbaomlmannpnaaaProg.lean LOADS. Nothing in Lean hashes anything: it is a label: what it is worth is what the hold of that sum in a sandbox is worth. -/
noncomputable def Try.pinned : Pinned := { name := "ytbaomlmannpnaaa", sum := "70515807dfab1750f58a84080c99bfc5bc1d2d00a88f5d6692194d508d747a28", checked := Try.checked }
namespace Rows
def none {H : Type} : Left H := { results := [], args := [] }

/-- 'creellaw01.AbortEach': WHATEVER THE INPUT: true; the input reads as it did. -/
def abortEachSpec : ChangeSpec := { name := "abortEach", fn := fun _ => fun
  | [d1, d2] => { results := [.lit (.bool true)], args := [d1, d2] }
  | _ => none }
def abortEachRow : OpenClaim := { program := "ytbaomlmannpnaaa", sum := "70515807dfab1750f58a84080c99bfc5bc1d2d00a88f5d6692194d508d747a28", func := "creel/creellaw01.AbortEach", spec := "abortEach", unfollowed := true, recurses := true, apart := false }
def AbortEachSaid : Prop := abortEachRow.holds Try.pinned (OpenSpec.ofChange abortEachSpec)

/-- ITS FALSE NEIGHBOUR: 'it returns false'. Refute it at one input. -/
def abortEachWrong : ChangeSpec := { name := "abortEach", fn := fun _ => fun
  | [d1, d2] => { results := [.lit (.bool false)], args := [d1, d2] }
  | _ => none }
def AbortEachWrongFalsely : Prop := abortEachRow.holds Try.pinned (OpenSpec.ofChange abortEachWrong)

/-- 'creellaw01.AbortSteps': WHATEVER THE INPUT: true; the input reads as it did. -/
def abortStepsSpec : ChangeSpec := { name := "abortSteps", fn := fun _ => fun
  | [d] => { results := [.lit (.bool true)], args := [d] }
  | _ => none }
def abortStepsRow : OpenClaim := { program := "ytbaomlmannpnaaa", sum := "70515807dfab1750f58a84080c99bfc5bc1d2d00a88f5d6692194d508d747a28", func := "creel/creellaw01.AbortSteps", spec := "abortSteps", unfollowed := true, recurses := true, apart := false }
def AbortStepsSaid : Prop := abortStepsRow.holds Try.pinned (OpenSpec.ofChange abortStepsSpec)

/-- ITS FALSE NEIGHBOUR: 'it returns false'. Refute it at one input. -/
def abortStepsWrong : ChangeSpec := { name := "abortSteps", fn := fun _ => fun
  | [d] => { results := [.lit (.bool false)], args := [d] }
  | _ => none }
def AbortStepsWrongFalsely : Prop := abortStepsRow.holds Try.pinned (OpenSpec.ofChange abortStepsWrong)

/-- 'creellaw01.AbortFinally': WHATEVER THE INPUT: true; the input reads as it did. -/
def abortFinallySpec : ChangeSpec := { name := "abortFinally", fn := fun _ => fun
  | [d1, d2, d3] => { results := [.lit (.bool true)], args := [d1, d2, d3] }
  | _ => none }
def abortFinallyRow : OpenClaim := { program := "ytbaomlmannpnaaa", sum := "70515807dfab1750f58a84080c99bfc5bc1d2d00a88f5d6692194d508d747a28", func := "creel/creellaw01.AbortFinally", spec := "abortFinally", unfollowed := true, recurses := true, apart := false }
def AbortFinallySaid : Prop := abortFinallyRow.holds Try.pinned (OpenSpec.ofChange abortFinallySpec)

/-- ITS FALSE NEIGHBOUR: 'it returns false'. Refute it at one input. -/
def abortFinallyWrong : ChangeSpec := { name := "abortFinally", fn := fun _ => fun
  | [d1, d2, d3] => { results := [.lit (.bool false)], args := [d1, d2, d3] }
  | _ => none }
def AbortFinallyWrongFalsely : Prop := abortFinallyRow.holds Try.pinned (OpenSpec.ofChange abortFinallyWrong)

/-- 'creellaw02.LebWrites': WHATEVER THE INPUT: true; the input reads as it did. -/
def lebWritesSpec : ChangeSpec := { name := "lebWrites", fn := fun _ => fun
  | [d1, d2] => { results := [.lit (.bool true)], args := [d1, d2] }
  | _ => none }
def lebWritesRow : OpenClaim := { program := "ytbaomlmannpnaaa", sum := "70515807dfab1750f58a84080c99bfc5bc1d2d00a88f5d6692194d508d747a28", func := "creel/creellaw02.LebWrites", spec := "lebWrites", apart := false }
def LebWritesSaid : Prop := lebWritesRow.holds Try.pinned (OpenSpec.ofChange lebWritesSpec)

/-- ITS FALSE NEIGHBOUR: 'it returns false'. Refute it at one input. -/
def lebWritesWrong : ChangeSpec := { name := "lebWrites", fn := fun _ => fun
  | [d1, d2] => { results := [.lit (.bool false)], args := [d1, d2] }
  | _ => none }
def LebWritesWrongFalsely : Prop := lebWritesRow.holds Try.pinned (OpenSpec.ofChange lebWritesWrong)

/-- 'creellaw02.LebReads': WHATEVER THE INPUT: true; the input reads as it did. -/
def lebReadsSpec : ChangeSpec := { name := "lebReads", fn := fun _ => fun
  | [d1, d2, d3] => { results := [.lit (.bool true)], args := [d1, d2, d3] }
  | _ => none }
def lebReadsRow : OpenClaim := { program := "ytbaomlmannpnaaa", sum := "70515807dfab1750f58a84080c99bfc5bc1d2d00a88f5d6692194d508d747a28", func := "creel/creellaw02.LebReads", spec := "lebReads", apart := false }
def LebReadsSaid : Prop := lebReadsRow.holds Try.pinned (OpenSpec.ofChange lebReadsSpec)

/-- ITS FALSE NEIGHBOUR: 'it returns false'. Refute it at one input. -/
def lebReadsWrong : ChangeSpec := { name := "lebReads", fn := fun _ => fun
  | [d1, d2, d3] => { results := [.lit (.bool false)], args := [d1, d2, d3] }
  | _ => none }
def LebReadsWrongFalsely : Prop := lebReadsRow.holds Try.pinned (OpenSpec.ofChange lebReadsWrong)

/-- 'creellaw02.LebBack': WHATEVER THE INPUT: true; the input reads as it did. -/
def lebBackSpec : ChangeSpec := { name := "lebBack", fn := fun _ => fun
  | [d1, d2, d3] => { results := [.lit (.bool true)], args := [d1, d2, d3] }
  | _ => none }
def lebBackRow : OpenClaim := { program := "ytbaomlmannpnaaa", sum := "70515807dfab1750f58a84080c99bfc5bc1d2d00a88f5d6692194d508d747a28", func := "creel/creellaw02.LebBack", spec := "lebBack", apart := false }
def LebBackSaid : Prop := lebBackRow.holds Try.pinned (OpenSpec.ofChange lebBackSpec)

/-- ITS FALSE NEIGHBOUR: 'it returns false'. Refute it at one input. -/
def lebBackWrong : ChangeSpec := { name := "lebBack", fn := fun _ => fun
  | [d1, d2, d3] => { results := [.lit (.bool false)], args := [d1, d2, d3] }
  | _ => none }
def LebBackWrongFalsely : Prop := lebBackRow.holds Try.pinned (OpenSpec.ofChange lebBackWrong)

/- THE SECOND FORM. 'bulk': how many values and letters a reading holds, each counted each time it is reached (what is shared counts as often as it is met; a slice's spare places count too). A statement '..UptoSaid' is the law's where the arguments, and the package variables that the reading takes, are together of bulk at most 1048576: NARROWER than '..Said'. Prove '..Said' where nothing that the law and all that it calls make is longer than what came in: it says more and counts as full. Else prove '..UptoSaid'. A law counts once. -/
mutual
def uptoBulk {H : Type} : DataW H → Nat
  | .lit (.string bytes) => bytes.length + 1
  | .lit _ => 1
  | .nil => 1
  | .ptr d => uptoBulk d + 1
  | .slice elems spare => uptoBulkAll elems + uptoBulkAll spare + 1
  | .agg parts => uptoBulkAll parts + 1
  | .iface _ d => uptoBulk d + 1
  | .map entries => uptoBulkEntries entries + 1
  | .held _ => 1
def uptoBulkAll {H : Type} : List (DataW H) → Nat
  | [] => 0
  | d :: r => uptoBulk d + uptoBulkAll r
def uptoBulkEntries {H : Type} : List (Lit × DataW H) → Nat
  | [] => 0
  | x :: r => uptoBulkEntry x + uptoBulkEntries r
def uptoBulkEntry {H : Type} : Lit × DataW H → Nat
  | (.string bytes, d) => bytes.length + uptoBulk d + 1
  | (_, d) => uptoBulk d + 1
 end
def uptoSmall : (H : Type) → List (DataW H) → Bool := fun _ ds => decide (uptoBulkAll ds ≤ 1048576)
def OpenSpec.upto (s : _root_.Go.ChangeSpec) : _root_.Go.OpenSpec := { _root_.Go.OpenSpec.ofChange s with cond := some uptoSmall }

/-- 'creellaw01.AbortEach', WHERE WHAT IT READS IS OF BULK AT MOST 1048576: true; the input reads as it did. -/
def abortEachUptoRow : OpenClaim := { program := "ytbaomlmannpnaaa", sum := "70515807dfab1750f58a84080c99bfc5bc1d2d00a88f5d6692194d508d747a28", func := "creel/creellaw01.AbortEach", spec := "abortEach", unfollowed := true, recurses := true, apart := false, narrowed := true }
def AbortEachUptoSaid : Prop := abortEachUptoRow.holds Try.pinned (OpenSpec.upto abortEachSpec)

/-- 'creellaw01.AbortSteps', WHERE WHAT IT READS IS OF BULK AT MOST 1048576: true; the input reads as it did. -/
def abortStepsUptoRow : OpenClaim := { program := "ytbaomlmannpnaaa", sum := "70515807dfab1750f58a84080c99bfc5bc1d2d00a88f5d6692194d508d747a28", func := "creel/creellaw01.AbortSteps", spec := "abortSteps", unfollowed := true, recurses := true, apart := false, narrowed := true }
def AbortStepsUptoSaid : Prop := abortStepsUptoRow.holds Try.pinned (OpenSpec.upto abortStepsSpec)

/-- 'creellaw01.AbortFinally', WHERE WHAT IT READS IS OF BULK AT MOST 1048576: true; the input reads as it did. -/
def abortFinallyUptoRow : OpenClaim := { program := "ytbaomlmannpnaaa", sum := "70515807dfab1750f58a84080c99bfc5bc1d2d00a88f5d6692194d508d747a28", func := "creel/creellaw01.AbortFinally", spec := "abortFinally", unfollowed := true, recurses := true, apart := false, narrowed := true }
def AbortFinallyUptoSaid : Prop := abortFinallyUptoRow.holds Try.pinned (OpenSpec.upto abortFinallySpec)

/-- 'creellaw02.LebWrites', WHERE WHAT IT READS IS OF BULK AT MOST 1048576: true; the input reads as it did. -/
def lebWritesUptoRow : OpenClaim := { program := "ytbaomlmannpnaaa", sum := "70515807dfab1750f58a84080c99bfc5bc1d2d00a88f5d6692194d508d747a28", func := "creel/creellaw02.LebWrites", spec := "lebWrites", apart := false, narrowed := true }
def LebWritesUptoSaid : Prop := lebWritesUptoRow.holds Try.pinned (OpenSpec.upto lebWritesSpec)

/-- 'creellaw02.LebReads', WHERE WHAT IT READS IS OF BULK AT MOST 1048576: true; the input reads as it did. -/
def lebReadsUptoRow : OpenClaim := { program := "ytbaomlmannpnaaa", sum := "70515807dfab1750f58a84080c99bfc5bc1d2d00a88f5d6692194d508d747a28", func := "creel/creellaw02.LebReads", spec := "lebReads", apart := false, narrowed := true }
def LebReadsUptoSaid : Prop := lebReadsUptoRow.holds Try.pinned (OpenSpec.upto lebReadsSpec)

/-- 'creellaw02.LebBack', WHERE WHAT IT READS IS OF BULK AT MOST 1048576: true; the input reads as it did. -/
def lebBackUptoRow : OpenClaim := { program := "ytbaomlmannpnaaa", sum := "70515807dfab1750f58a84080c99bfc5bc1d2d00a88f5d6692194d508d747a28", func := "creel/creellaw02.LebBack", spec := "lebBack", apart := false, narrowed := true }
def LebBackUptoSaid : Prop := lebBackUptoRow.holds Try.pinned (OpenSpec.upto lebBackSpec)

end Rows
end Go.Proofs.Ytbaomlmannpnaaa
