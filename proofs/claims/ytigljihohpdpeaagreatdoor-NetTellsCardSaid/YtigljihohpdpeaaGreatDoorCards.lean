/-
  DERIVED. GIVEN WITH THE SEED: THE CARDS: each row of YtigljihohpdpeaaGreatDoorRows.lean that lists a variable, with what it lists TIED to the program's text (the seventh form; the later family's looks); each row that meets fmt, with fmt's text TOLD by the authors' own Lean function (tested against real Go, not proved from fmt's source: count such statements apart). THE CARD IS WHAT COUNTS. Prove the row's statement (the work); the ties are given (YtigljihohpdpeaaGreatDoorTie.lean); close each card by the builder's one call (the guide's Derived/Test/ToyasCard.lean, 'card_holds'). Laid BY PROGRAM, IN A SANDBOX (cutbox-door.mjs). By AI agents, Wed Nov 11 2026. No macro, syntax, notation, axiom, sorry.
-/
import Derived.Test.YtigljihohpdpeaaGreatDoorRows
import GoSem.ClaimSeven
namespace Go.Proofs.YtigljihohpdpeaaGreatDoor
namespace Rows

/-- THE TIED CARD OF 'limpetlaw29.NetTells'. -/
def netTellsCard : Claim7 := { stood := { row := netTellsRow, standIns := [], harness := (true, "502193931636fc86143ca92b88e6d91b75c6dd4baf85560012759b5534ff961c"), looks := true }, kinds := [], alts := [], laidByText := true, laidKinds := [.handle], laidTests := true, laidLooks := .later }
def NetTellsCardSaid : Prop := Claim7.holds Tryz.pinned (.plain (OpenSpec.ofChange netTellsSpec)) netTellsCard

/-- THE SECOND FORM's CARD OF 'limpetlaw29.NetTells'. -/
def netTellsUptoCard : Claim7 := { stood := { row := netTellsUptoRow, standIns := [], harness := (true, "502193931636fc86143ca92b88e6d91b75c6dd4baf85560012759b5534ff961c"), looks := true }, kinds := [], alts := [], laidByText := true, laidKinds := [.handle], laidTests := true, laidLooks := .later }
def NetTellsUptoCardSaid : Prop := Claim7.holds Tryz.pinned (.plain (OpenSpec.upto netTellsSpec)) netTellsUptoCard
end Rows
end Go.Proofs.YtigljihohpdpeaaGreatDoor
