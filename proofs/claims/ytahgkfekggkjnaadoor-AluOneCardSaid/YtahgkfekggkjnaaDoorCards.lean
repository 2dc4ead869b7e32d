/-
  DERIVED. GIVEN WITH THE SEED: THE CARDS: each row of YtahgkfekggkjnaaDoorRows.lean that lists a variable, with what it lists TIED to the program's text (the seventh form; the later family's looks); each row that meets fmt, with fmt's text TOLD by the authors' own Lean function (tested against real Go, not proved from fmt's source: count such statements apart). THE CARD IS WHAT COUNTS. Prove the row's statement (the work); the ties are given (YtahgkfekggkjnaaDoorTie.lean); close each card by the builder's one call (the guide's Derived/Test/ToyasCard.lean, 'card_holds'). Laid BY PROGRAM, IN A SANDBOX (cutbox-door.mjs). By AI agents, Wed Nov 11 2026. No macro, syntax, notation, axiom, sorry.
-/
import Derived.Test.YtahgkfekggkjnaaDoorRows
import GoSem.ClaimSeven
namespace Go.Proofs.YtahgkfekggkjnaaDoor
namespace Rows

/-- THE TIED CARD OF 'creellaw18.AluOne'. -/
def aluOneCard : Claim7 := { stood := { row := aluOneRow, standIns := [], harness := (true, "15fcc1ed554632792dc2617e7c1ed5992c8a59a30c82c22f1298f4c60164b75b"), looks := false }, kinds := [], alts := [], laidByText := true, laidKinds := [.data], laidTests := true, laidLooks := .later }
def AluOneCardSaid : Prop := Claim7.holds Tryd.pinned (.plain (OpenSpec.ofChange aluOneSpec)) aluOneCard

/-- THE SECOND FORM's CARD OF 'creellaw18.AluOne'. -/
def aluOneUptoCard : Claim7 := { stood := { row := aluOneUptoRow, standIns := [], harness := (true, "15fcc1ed554632792dc2617e7c1ed5992c8a59a30c82c22f1298f4c60164b75b"), looks := false }, kinds := [], alts := [], laidByText := true, laidKinds := [.data], laidTests := true, laidLooks := .later }
def AluOneUptoCardSaid : Prop := Claim7.holds Tryd.pinned (.plain (OpenSpec.upto aluOneSpec)) aluOneUptoCard
end Rows
end Go.Proofs.YtahgkfekggkjnaaDoor
