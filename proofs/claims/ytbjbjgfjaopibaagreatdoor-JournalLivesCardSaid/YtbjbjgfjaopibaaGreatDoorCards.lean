/-
  DERIVED. GIVEN WITH THE SEED: THE CARDS: each row of YtbjbjgfjaopibaaGreatDoorRows.lean that lists a variable, with what it lists TIED to the program's text (the seventh form; the later family's looks); each row that meets fmt, with fmt's text TOLD by the authors' own Lean function (tested against real Go, not proved from fmt's source: count such statements apart). THE CARD IS WHAT COUNTS. Prove the row's statement (the work); the ties are given (YtbjbjgfjaopibaaGreatDoorTie.lean); close each card by the builder's one call (the guide's Derived/Test/ToyasCard.lean, 'card_holds'). Laid BY PROGRAM, IN A SANDBOX (cutbox-door.mjs). By AI agents, Wed Nov 11 2026. No macro, syntax, notation, axiom, sorry.
-/
import Derived.Test.YtbjbjgfjaopibaaGreatDoorRows
import GoSem.ClaimSeven
namespace Go.Proofs.YtbjbjgfjaopibaaGreatDoor
namespace Rows

/-- THE TIED CARD OF 'sporranlaw16.JournalLives'. -/
def journalLivesCard : Claim7 := { stood := { row := journalLivesRow, standIns := [], harness := (true, "c6a8fd4c4b2816f44308b139174d3b6f7feeda643f5e58b5248cb3e25ef415e8"), looks := false }, kinds := [], alts := [], laidByText := true, laidKinds := [.data, .data], laidTests := true, laidLooks := .later }
def JournalLivesCardSaid : Prop := Claim7.holds Tryz.pinned (.plain (OpenSpec.ofChange journalLivesSpec)) journalLivesCard

/-- THE SECOND FORM's CARD OF 'sporranlaw16.JournalLives'. -/
def journalLivesUptoCard : Claim7 := { stood := { row := journalLivesUptoRow, standIns := [], harness := (true, "c6a8fd4c4b2816f44308b139174d3b6f7feeda643f5e58b5248cb3e25ef415e8"), looks := false }, kinds := [], alts := [], laidByText := true, laidKinds := [.data, .data], laidTests := true, laidLooks := .later }
def JournalLivesUptoCardSaid : Prop := Claim7.holds Tryz.pinned (.plain (OpenSpec.upto journalLivesSpec)) journalLivesUptoCard
end Rows
end Go.Proofs.YtbjbjgfjaopibaaGreatDoor
