/-
  DERIVED. GIVEN WITH THE SEED: THE CARDS: each row of YtgedpgdefafofaaDoorRows.lean that lists a variable, with what it lists TIED to the program's text (the seventh form; the later family's looks); each row that meets fmt, with fmt's text TOLD by the authors' own Lean function (tested against real Go, not proved from fmt's source: count such statements apart). THE CARD IS WHAT COUNTS. Prove the row's statement (the work); the ties are given (YtgedpgdefafofaaDoorTie.lean); close each card by the builder's one call (the guide's Derived/Test/ToyasCard.lean, 'card_holds'). Laid BY PROGRAM, IN A SANDBOX (cutbox-door.mjs). By AI agents, Wed Nov 11 2026. No macro, syntax, notation, axiom, sorry.
-/
import Derived.Test.YtgedpgdefafofaaDoorRows
import GoSem.ClaimSeven
namespace Go.Proofs.YtgedpgdefafofaaDoor
namespace Rows

/-- THE TIED CARD OF 'sporranlaw18.VotesLies'. -/
def votesLiesCard : Claim7 := { stood := { row := votesLiesRow, standIns := [], harness := (true, "0838c327113d2af8b7bba31858c9511225c884679b15ea48fde4da0ddfb44db8"), looks := false }, kinds := [], alts := [], laidByText := true, laidKinds := [.data, .data], laidTests := true, laidLooks := .later }
def VotesLiesCardSaid : Prop := Claim7.holds Tryd.pinned (.plain (OpenSpec.ofChange votesLiesSpec)) votesLiesCard

/-- THE TIED CARD OF 'sporranlaw18.VotesHonest'. -/
def votesHonestCard : Claim7 := { stood := { row := votesHonestRow, standIns := [], harness := (true, "0838c327113d2af8b7bba31858c9511225c884679b15ea48fde4da0ddfb44db8"), looks := false }, kinds := [], alts := [], laidByText := true, laidKinds := [.data, .data], laidTests := true, laidLooks := .later }
def VotesHonestCardSaid : Prop := Claim7.holds Tryd.pinned (.plain (OpenSpec.ofChange votesHonestSpec)) votesHonestCard

/-- THE TIED CARD OF 'sporranlaw18.VotesNobody'. -/
def votesNobodyCard : Claim7 := { stood := { row := votesNobodyRow, standIns := [], harness := (true, "0838c327113d2af8b7bba31858c9511225c884679b15ea48fde4da0ddfb44db8"), looks := false }, kinds := [], alts := [], laidByText := true, laidKinds := [.data, .data], laidTests := true, laidLooks := .later }
def VotesNobodyCardSaid : Prop := Claim7.holds Tryd.pinned (.plain (OpenSpec.ofChange votesNobodySpec)) votesNobodyCard

/-- THE SECOND FORM's CARD OF 'sporranlaw18.VotesLies'. -/
def votesLiesUptoCard : Claim7 := { stood := { row := votesLiesUptoRow, standIns := [], harness := (true, "0838c327113d2af8b7bba31858c9511225c884679b15ea48fde4da0ddfb44db8"), looks := false }, kinds := [], alts := [], laidByText := true, laidKinds := [.data, .data], laidTests := true, laidLooks := .later }
def VotesLiesUptoCardSaid : Prop := Claim7.holds Tryd.pinned (.plain (OpenSpec.upto votesLiesSpec)) votesLiesUptoCard

/-- THE SECOND FORM's CARD OF 'sporranlaw18.VotesHonest'. -/
def votesHonestUptoCard : Claim7 := { stood := { row := votesHonestUptoRow, standIns := [], harness := (true, "0838c327113d2af8b7bba31858c9511225c884679b15ea48fde4da0ddfb44db8"), looks := false }, kinds := [], alts := [], laidByText := true, laidKinds := [.data, .data], laidTests := true, laidLooks := .later }
def VotesHonestUptoCardSaid : Prop := Claim7.holds Tryd.pinned (.plain (OpenSpec.upto votesHonestSpec)) votesHonestUptoCard

/-- THE SECOND FORM's CARD OF 'sporranlaw18.VotesNobody'. -/
def votesNobodyUptoCard : Claim7 := { stood := { row := votesNobodyUptoRow, standIns := [], harness := (true, "0838c327113d2af8b7bba31858c9511225c884679b15ea48fde4da0ddfb44db8"), looks := false }, kinds := [], alts := [], laidByText := true, laidKinds := [.data, .data], laidTests := true, laidLooks := .later }
def VotesNobodyUptoCardSaid : Prop := Claim7.holds Tryd.pinned (.plain (OpenSpec.upto votesNobodySpec)) votesNobodyUptoCard
end Rows
end Go.Proofs.YtgedpgdefafofaaDoor
