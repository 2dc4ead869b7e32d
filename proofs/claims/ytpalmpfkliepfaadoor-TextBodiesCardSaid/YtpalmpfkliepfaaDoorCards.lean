/-
  DERIVED. GIVEN WITH THE SEED: THE CARDS: each row of YtpalmpfkliepfaaDoorRows.lean that lists a variable, with what it lists TIED to the program's text (the seventh form; the later family's looks); each row that meets fmt, with fmt's text TOLD by the authors' own Lean function (tested against real Go, not proved from fmt's source: count such statements apart). THE CARD IS WHAT COUNTS. Prove the row's statement (the work); the ties are given (YtpalmpfkliepfaaDoorTie.lean); close each card by the builder's one call (the guide's Derived/Test/ToyasCard.lean, 'card_holds'). Laid BY PROGRAM, IN A SANDBOX (cutbox-door.mjs). By AI agents, Wed Nov 11 2026. No macro, syntax, notation, axiom, sorry.
-/
import Derived.Test.YtpalmpfkliepfaaDoorRows
import GoSem.ClaimSeven
namespace Go.Proofs.YtpalmpfkliepfaaDoor
namespace Rows

/-- THE TIED CARD OF 'creellaw46.TextLines'. -/
def textLinesCard : Claim7 := { stood := { row := textLinesRow, standIns := [], harness := (true, "1452cfc0cc647c3d0a7f82359f3ea450cdc05db002e7940a6a6c43ff579af210"), looks := false }, kinds := [], alts := [], laidByText := true, laidKinds := [.data, .pinned], laidTests := true, laidLooks := .later }
def TextLinesCardSaid : Prop := Claim7.holds Tryd.pinned (.plain (OpenSpec.ofChange textLinesSpec)) textLinesCard

/-- THE TIED CARD OF 'creellaw46.TextParses'. -/
def textParsesCard : Claim7 := { stood := { row := textParsesRow, standIns := [], harness := (true, "1452cfc0cc647c3d0a7f82359f3ea450cdc05db002e7940a6a6c43ff579af210"), looks := false }, kinds := [], alts := [], laidByText := true, laidKinds := [.data, .pinned], laidTests := true, laidLooks := .later }
def TextParsesCardSaid : Prop := Claim7.holds Tryd.pinned (.plain (OpenSpec.ofChange textParsesSpec)) textParsesCard

/-- THE TIED CARD OF 'creellaw46.TextBodies'. -/
def textBodiesCard : Claim7 := { stood := { row := textBodiesRow, standIns := [], harness := (true, "1452cfc0cc647c3d0a7f82359f3ea450cdc05db002e7940a6a6c43ff579af210"), looks := false }, kinds := [], alts := [], laidByText := true, laidKinds := [.data, .pinned], laidTests := true, laidLooks := .later }
def TextBodiesCardSaid : Prop := Claim7.holds Tryd.pinned (.plain (OpenSpec.ofChange textBodiesSpec)) textBodiesCard

/-- THE SECOND FORM's CARD OF 'creellaw46.TextLines'. -/
def textLinesUptoCard : Claim7 := { stood := { row := textLinesUptoRow, standIns := [], harness := (true, "1452cfc0cc647c3d0a7f82359f3ea450cdc05db002e7940a6a6c43ff579af210"), looks := false }, kinds := [], alts := [], laidByText := true, laidKinds := [.data, .pinned], laidTests := true, laidLooks := .later }
def TextLinesUptoCardSaid : Prop := Claim7.holds Tryd.pinned (.plain (OpenSpec.upto textLinesSpec)) textLinesUptoCard

/-- THE SECOND FORM's CARD OF 'creellaw46.TextParses'. -/
def textParsesUptoCard : Claim7 := { stood := { row := textParsesUptoRow, standIns := [], harness := (true, "1452cfc0cc647c3d0a7f82359f3ea450cdc05db002e7940a6a6c43ff579af210"), looks := false }, kinds := [], alts := [], laidByText := true, laidKinds := [.data, .pinned], laidTests := true, laidLooks := .later }
def TextParsesUptoCardSaid : Prop := Claim7.holds Tryd.pinned (.plain (OpenSpec.upto textParsesSpec)) textParsesUptoCard

/-- THE SECOND FORM's CARD OF 'creellaw46.TextBodies'. -/
def textBodiesUptoCard : Claim7 := { stood := { row := textBodiesUptoRow, standIns := [], harness := (true, "1452cfc0cc647c3d0a7f82359f3ea450cdc05db002e7940a6a6c43ff579af210"), looks := false }, kinds := [], alts := [], laidByText := true, laidKinds := [.data, .pinned], laidTests := true, laidLooks := .later }
def TextBodiesUptoCardSaid : Prop := Claim7.holds Tryd.pinned (.plain (OpenSpec.upto textBodiesSpec)) textBodiesUptoCard
end Rows
end Go.Proofs.YtpalmpfkliepfaaDoor
