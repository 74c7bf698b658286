/-
  NetSmall: up to three letters, taken, copied, dropped at each place about the ends, with each replica cut off; letters that are not right; as many as may be, and more; no net: the law, and its card.
  Conditions: none.
-/
import Derived.Test.YtjnllilmimngoaaGreatDoorM45
import Derived.Test.YtjnllilmimngoaaGreatDoorCards
import Derived.Test.YtjnllilmimngoaaGreatDoorTie
import Derived.SevenTiedAt
namespace Go.Proofs.YtjnllilmimngoaaGreatDoor
open Go

theorem netSmall_holds : Rows.NetSmallSaid := netSmallF.holds

theorem netSmallCard_holds : Rows.NetSmallCardSaid :=
  Claim7.holds_tied_plain_at .later [] [.handle] true (true, "f4e8983a655beca61bc187e9923302f54ceddf41e930fca0e3f7ee951622df79") true
    netSmall_holds (fun _ h => by cases h) (by kernel_rfl) (fun _ h => by cases h) netSmall_row_tie rfl ⟨rfl, rfl⟩ (by kernel_rfl) rfl
    (fun f fn hf hfn => by
      obtain rfl : f = 3 := Option.some.inj ((show Tryz.prog.funcNamed "limpet/limpetlaw29.NetSmall" = some 3 by kernel_rfl).symm.trans hf) |>.symm
      obtain rfl : fn = Tryz.f3 := (Option.some.inj (Tryz.func3.symm.trans hfn)).symm
      exact ⟨by kernel_rfl, fun j t ht => by
        rw [Tryz.params3] at ht
        simp at ht⟩)
    (by kernel_rfl)
#print axioms netSmallCard_holds
end Go.Proofs.YtjnllilmimngoaaGreatDoor
