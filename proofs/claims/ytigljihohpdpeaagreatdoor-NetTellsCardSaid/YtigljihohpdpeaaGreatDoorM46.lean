/-
  NetTells: what a net tells was sent, as often as it was sent and copied at most; it is right, and nobody that is cut off sends it or is sent it; its counts agree: the law, for every row of deeds, and its card.
  Conditions: none.
-/
import Derived.Test.YtigljihohpdpeaaGreatDoorM45
import Derived.Test.YtigljihohpdpeaaGreatDoorCards
import Derived.Test.YtigljihohpdpeaaGreatDoorTie
import Derived.SevenTiedAt
namespace Go.Proofs.YtigljihohpdpeaaGreatDoor
open Go

theorem netTells_holds : Rows.NetTellsSaid := netTellsF.holds

theorem netTellsCard_holds : Rows.NetTellsCardSaid :=
  Claim7.holds_tied_plain_at .later [] [.handle] true (true, "502193931636fc86143ca92b88e6d91b75c6dd4baf85560012759b5534ff961c") true
    netTells_holds (fun _ h => by cases h) (by kernel_rfl) (fun _ h => by cases h) netTells_row_tie rfl ⟨rfl, rfl⟩ (by kernel_rfl) rfl
    (fun f fn hf hfn => by
      obtain rfl : f = 3 := Option.some.inj ((show Tryz.prog.funcNamed "limpet/limpetlaw29.NetTells" = some 3 by kernel_rfl).symm.trans hf) |>.symm
      obtain rfl : fn = Tryz.f3 := (Option.some.inj (Tryz.func3.symm.trans hfn)).symm
      exact ⟨by kernel_rfl, fun j t ht => by
        rw [Tryz.params3] at ht
        have h3 : t = 22 := by
          rcases j with _ | j
          · simpa using ht.symm
          · simp at ht
        subst h3
        exact (show Tryz.prog.wantsStandIn 22 = false by kernel_rfl)⟩)
    (by kernel_rfl)
#print axioms netTellsCard_holds
end Go.Proofs.YtigljihohpdpeaaGreatDoor
