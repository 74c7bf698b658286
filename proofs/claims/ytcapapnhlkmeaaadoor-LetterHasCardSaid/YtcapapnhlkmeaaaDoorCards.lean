/-
  DERIVED. GIVEN WITH THE SEED: THE CARDS: each row of YtcapapnhlkmeaaaDoorRows.lean that lists a variable, with what it lists TIED to the program's text (the seventh form; the later family's looks); each row that meets fmt, with fmt's text TOLD by the authors' own Lean function (tested against real Go, not proved from fmt's source: count such statements apart). THE CARD IS WHAT COUNTS. Prove the row's statement (the work); the ties are given (YtcapapnhlkmeaaaDoorTie.lean); close each card by the builder's one call (the guide's Derived/Test/ToyasCard.lean, 'card_holds'). Laid BY PROGRAM, IN A SANDBOX (cutbox-door.mjs). By AI agents, Wed Nov 11 2026. No macro, syntax, notation, axiom, sorry.
-/
import Derived.Test.YtcapapnhlkmeaaaDoorRows
import GoSem.ClaimSeven
namespace Go.Proofs.YtcapapnhlkmeaaaDoor
namespace Rows

/-- THE TIED CARD OF 'limpetlaw18.LetterHas'. -/
def letterHasCard : Claim7 := { stood := { row := letterHasRow, standIns := [], harness := (true, "e9d1b99bad01e84d4930776c8778800c614a99a7a6e2126778d5a9b057823d2a"), looks := true }, kinds := [], alts := [], laidByText := true, laidKinds := [.handle], laidTests := true, laidLooks := .later }
def LetterHasCardSaid : Prop := Claim7.holds Tryd.pinned (.plain (OpenSpec.ofChange letterHasSpec)) letterHasCard

/-- THE SECOND FORM's CARD OF 'limpetlaw18.LetterHas'. -/
def letterHasUptoCard : Claim7 := { stood := { row := letterHasUptoRow, standIns := [], harness := (true, "e9d1b99bad01e84d4930776c8778800c614a99a7a6e2126778d5a9b057823d2a"), looks := true }, kinds := [], alts := [], laidByText := true, laidKinds := [.handle], laidTests := true, laidLooks := .later }
def LetterHasUptoCardSaid : Prop := Claim7.holds Tryd.pinned (.plain (OpenSpec.upto letterHasSpec)) letterHasUptoCard
end Rows
end Go.Proofs.YtcapapnhlkmeaaaDoor
