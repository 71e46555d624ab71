/-
  DERIVED. GIVEN WITH THE SEED: THE CARDS: each row of YtamhlflacnldfaaDoorRows.lean that lists a variable, with what it lists TIED to the program's text (the seventh form; the later family's looks); each row that meets fmt, with fmt's text TOLD by the authors' own Lean function (tested against real Go, not proved from fmt's source: count such statements apart). THE CARD IS WHAT COUNTS. Prove the row's statement (the work); the ties are given (YtamhlflacnldfaaDoorTie.lean); close each card by the builder's one call (the guide's Derived/Test/ToyasCard.lean, 'card_holds'). Laid BY PROGRAM, IN A SANDBOX (cutbox-door.mjs). By AI agents, Wed Nov 11 2026. No macro, syntax, notation, axiom, sorry.
-/
import Derived.Test.YtamhlflacnldfaaDoorRows
import GoSem.ClaimSeven
namespace Go.Proofs.YtamhlflacnldfaaDoor
namespace Rows

/-- THE TIED CARD OF 'kinescopelaw02.NameFull'. -/
def nameFullCard : Claim7 := { stood := { row := nameFullRow, standIns := [], harness := (true, "780d2da7b0ff4719a1d7fa52459cef21b62d683fe799080d44468e527448aa47"), looks := false }, kinds := [], alts := [], laidByText := true, laidKinds := [.data, .data, .data], laidTests := true, laidLooks := .later }
def NameFullCardSaid : Prop := Claim7.holds Tryd.pinned (.plain (OpenSpec.ofChange nameFullSpec)) nameFullCard

/-- THE SECOND FORM's CARD OF 'kinescopelaw02.NameFull'. -/
def nameFullUptoCard : Claim7 := { stood := { row := nameFullUptoRow, standIns := [], harness := (true, "780d2da7b0ff4719a1d7fa52459cef21b62d683fe799080d44468e527448aa47"), looks := false }, kinds := [], alts := [], laidByText := true, laidKinds := [.data, .data, .data], laidTests := true, laidLooks := .later }
def NameFullUptoCardSaid : Prop := Claim7.holds Tryd.pinned (.plain (OpenSpec.upto nameFullSpec)) nameFullUptoCard
end Rows
end Go.Proofs.YtamhlflacnldfaaDoor
