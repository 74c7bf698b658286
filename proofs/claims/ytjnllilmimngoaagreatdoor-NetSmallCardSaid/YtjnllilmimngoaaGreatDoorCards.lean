/-
  DERIVED. GIVEN WITH THE SEED: THE CARDS: each row of YtjnllilmimngoaaGreatDoorRows.lean that lists a variable, with what it lists TIED to the program's text (the seventh form; the later family's looks); each row that meets fmt, with fmt's text TOLD by the authors' own Lean function (tested against real Go, not proved from fmt's source: count such statements apart). THE CARD IS WHAT COUNTS. Prove the row's statement (the work); the ties are given (YtjnllilmimngoaaGreatDoorTie.lean); close each card by the builder's one call (the guide's Derived/Test/ToyasCard.lean, 'card_holds'). Laid BY PROGRAM, IN A SANDBOX (cutbox-door.mjs). By AI agents, Wed Nov 11 2026. No macro, syntax, notation, axiom, sorry.
-/
import Derived.Test.YtjnllilmimngoaaGreatDoorRows
import GoSem.ClaimSeven
namespace Go.Proofs.YtjnllilmimngoaaGreatDoor
namespace Rows

/-- THE TIED CARD OF 'limpetlaw29.NetSmall'. -/
def netSmallCard : Claim7 := { stood := { row := netSmallRow, standIns := [], harness := (true, "f4e8983a655beca61bc187e9923302f54ceddf41e930fca0e3f7ee951622df79"), looks := true }, kinds := [], alts := [], laidByText := true, laidKinds := [.handle], laidTests := true, laidLooks := .later }
def NetSmallCardSaid : Prop := Claim7.holds Tryz.pinned (.plain (OpenSpec.ofChange netSmallSpec)) netSmallCard

/-- THE SECOND FORM's CARD OF 'limpetlaw29.NetSmall'. -/
def netSmallUptoCard : Claim7 := { stood := { row := netSmallUptoRow, standIns := [], harness := (true, "f4e8983a655beca61bc187e9923302f54ceddf41e930fca0e3f7ee951622df79"), looks := true }, kinds := [], alts := [], laidByText := true, laidKinds := [.handle], laidTests := true, laidLooks := .later }
def NetSmallUptoCardSaid : Prop := Claim7.holds Tryz.pinned (.plain (OpenSpec.upto netSmallSpec)) netSmallUptoCard
end Rows
end Go.Proofs.YtjnllilmimngoaaGreatDoor
