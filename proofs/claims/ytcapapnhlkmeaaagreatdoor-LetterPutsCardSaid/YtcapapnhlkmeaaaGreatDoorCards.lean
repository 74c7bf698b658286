/-
  DERIVED. GIVEN WITH THE SEED: THE CARDS: each row of YtcapapnhlkmeaaaGreatDoorRows.lean that lists a variable, with what it lists TIED to the program's text (the seventh form; the later family's looks); each row that meets fmt, with fmt's text TOLD by the authors' own Lean function (tested against real Go, not proved from fmt's source: count such statements apart). THE CARD IS WHAT COUNTS. Prove the row's statement (the work); the ties are given (YtcapapnhlkmeaaaGreatDoorTie.lean); close each card by the builder's one call (the guide's Derived/Test/ToyasCard.lean, 'card_holds'). Laid BY PROGRAM, IN A SANDBOX (cutbox-door.mjs). By AI agents, Wed Nov 11 2026. No macro, syntax, notation, axiom, sorry.
-/
import Derived.Test.YtcapapnhlkmeaaaGreatDoorRows
import GoSem.ClaimSeven
namespace Go.Proofs.YtcapapnhlkmeaaaGreatDoor
namespace Rows

/-- THE TIED CARD OF 'limpetlaw18.LetterPuts'. -/
def letterPutsCard : Claim7 := { stood := { row := letterPutsRow, standIns := [], harness := (true, "13f6ec26cd9218797ac5f4ee1820557f6cad82cf97fff13a77b0fe524e058169"), looks := true }, kinds := [], alts := [], laidByText := true, laidKinds := [.handle], laidTests := true, laidLooks := .later }
def LetterPutsCardSaid : Prop := Claim7.holds Tryz.pinned (.plain (OpenSpec.ofChange letterPutsSpec)) letterPutsCard

/-- THE SECOND FORM's CARD OF 'limpetlaw18.LetterPuts'. -/
def letterPutsUptoCard : Claim7 := { stood := { row := letterPutsUptoRow, standIns := [], harness := (true, "13f6ec26cd9218797ac5f4ee1820557f6cad82cf97fff13a77b0fe524e058169"), looks := true }, kinds := [], alts := [], laidByText := true, laidKinds := [.handle], laidTests := true, laidLooks := .later }
def LetterPutsUptoCardSaid : Prop := Claim7.holds Tryz.pinned (.plain (OpenSpec.upto letterPutsSpec)) letterPutsUptoCard
end Rows
end Go.Proofs.YtcapapnhlkmeaaaGreatDoor
