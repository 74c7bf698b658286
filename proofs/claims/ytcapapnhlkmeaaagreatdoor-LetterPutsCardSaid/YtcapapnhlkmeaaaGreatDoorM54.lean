/-
  LetterPuts: a letter of at most 4000 bytes is put by the two writers alike, twice over, and kept: the law, for every input, and its card.
  Conditions: none.
-/
import Derived.Test.YtcapapnhlkmeaaaGreatDoorM53
import Derived.Test.YtcapapnhlkmeaaaGreatDoorCards
import Derived.Test.YtcapapnhlkmeaaaGreatDoorTie
import Derived.SevenTiedAt
namespace Go.Proofs.YtcapapnhlkmeaaaGreatDoor
open Go

theorem letterPuts_holds : Rows.LetterPutsSaid := letterPutsF.holds letterPuts_any

theorem letterPutsCard_holds : Rows.LetterPutsCardSaid :=
  Claim7.holds_tied_plain_at .later [] [.handle] true (true, "13f6ec26cd9218797ac5f4ee1820557f6cad82cf97fff13a77b0fe524e058169") true
    letterPuts_holds (fun _ h => by cases h) (by kernel_rfl) (fun _ h => by cases h) letterPuts_row_tie rfl ⟨rfl, rfl⟩ (by kernel_rfl) rfl
    (fun f fn hf hfn => by
      obtain rfl : f = 3 := Option.some.inj ((show Tryz.prog.funcNamed "limpet/limpetlaw18.LetterPuts" = some 3 by kernel_rfl).symm.trans hf) |>.symm
      obtain rfl : fn = Tryz.f3 := (Option.some.inj (Tryz.func3.symm.trans hfn)).symm
      exact ⟨by kernel_rfl, fun j t ht => by
        rw [Tryz.params3] at ht
        have h3 : t = 34 := by
          rcases j with _ | j
          · simpa using ht.symm
          · simp at ht
        subst h3
        exact (show Tryz.prog.wantsStandIn 34 = false by kernel_rfl)⟩)
    (by kernel_rfl)
#print axioms letterPutsCard_holds
end Go.Proofs.YtcapapnhlkmeaaaGreatDoor
