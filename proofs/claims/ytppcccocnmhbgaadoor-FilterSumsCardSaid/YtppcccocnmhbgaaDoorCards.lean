/-
  DERIVED. GIVEN WITH THE SEED: THE CARDS: each row of YtppcccocnmhbgaaDoorRows.lean that lists a variable, with what it lists TIED to the program's text (the seventh form; the later family's looks); each row that meets fmt, with fmt's text TOLD by the authors' own Lean function (tested against real Go, not proved from fmt's source: count such statements apart). THE CARD IS WHAT COUNTS. Prove the row's statement (the work); the ties are given (YtppcccocnmhbgaaDoorTie.lean); close each card by the builder's one call (the guide's Derived/Test/ToyasCard.lean, 'card_holds'). Laid BY PROGRAM, IN A SANDBOX (cutbox-door.mjs). By AI agents, Wed Nov 11 2026. No macro, syntax, notation, axiom, sorry.
-/
import Derived.Test.YtppcccocnmhbgaaDoorRows
import GoSem.ClaimSeven
namespace Go.Proofs.YtppcccocnmhbgaaDoor
namespace Rows

/-- THE TIED CARD OF 'sporranlaw12.FilterSums'. -/
def filterSumsCard : Claim7 := { stood := { row := filterSumsRow, standIns := [], harness := (true, "125da39a8ff05783131d3fc7b88ba3c9fb84d6d2be29fca4aedc0b6a376515e5"), looks := false }, kinds := [], alts := [], laidByText := true, laidKinds := [.data, .data], laidTests := true, laidLooks := .later }
def FilterSumsCardSaid : Prop := Claim7.holds Tryd.pinned (.plain (OpenSpec.ofChange filterSumsSpec)) filterSumsCard

/-- THE SECOND FORM's CARD OF 'sporranlaw12.FilterSums'. -/
def filterSumsUptoCard : Claim7 := { stood := { row := filterSumsUptoRow, standIns := [], harness := (true, "125da39a8ff05783131d3fc7b88ba3c9fb84d6d2be29fca4aedc0b6a376515e5"), looks := false }, kinds := [], alts := [], laidByText := true, laidKinds := [.data, .data], laidTests := true, laidLooks := .later }
def FilterSumsUptoCardSaid : Prop := Claim7.holds Tryd.pinned (.plain (OpenSpec.upto filterSumsSpec)) filterSumsUptoCard
end Rows
end Go.Proofs.YtppcccocnmhbgaaDoor
