/-
  LetterHas: a right letter is of one of the eight kinds, and a letter with a part more than its kind has is not right: the law, for every input, and its card.
  Conditions: none.
-/
import Derived.Test.YtcapapnhlkmeaaaDoorM46
import Derived.Test.YtcapapnhlkmeaaaDoorM44
import Derived.Test.YtcapapnhlkmeaaaDoorCards
import Derived.Test.YtcapapnhlkmeaaaDoorTie
import Derived.SevenTiedAt
namespace Go.Proofs.YtcapapnhlkmeaaaDoor
open Go

theorem letterHas_holds : Rows.LetterHasSaid := letterHasF.holds letterHas_any

theorem letterHasCard_holds : Rows.LetterHasCardSaid :=
  Claim7.holds_tied_plain_at .later [] [.handle] true (true, "e9d1b99bad01e84d4930776c8778800c614a99a7a6e2126778d5a9b057823d2a") true
    letterHas_holds (fun _ h => by cases h) (by kernel_rfl) (fun _ h => by cases h) letterHas_row_tie rfl ⟨rfl, rfl⟩ (by kernel_rfl) rfl
    (fun f fn hf hfn => by
      obtain rfl : f = 3 := Option.some.inj ((show Tryd.prog.funcNamed "limpet/limpetlaw18.LetterHas" = some 3 by kernel_rfl).symm.trans hf) |>.symm
      obtain rfl : fn = Tryd.f3 := (Option.some.inj (Tryd.func3.symm.trans hfn)).symm
      exact ⟨by kernel_rfl, fun j t ht => by
        rw [Tryd.params3] at ht
        have h3 : t = 34 ∨ t = 3 := by
          rcases j with _ | _ | j
          · exact .inl (by simpa using ht.symm)
          · exact .inr (by simpa using ht.symm)
          · simp at ht
        rcases h3 with rfl | rfl
        · exact (show Tryd.prog.wantsStandIn 34 = false by kernel_rfl)
        · exact (show Tryd.prog.wantsStandIn 3 = false by kernel_rfl)⟩)
    (by kernel_rfl)
#print axioms letterHasCard_holds
end Go.Proofs.YtcapapnhlkmeaaaDoor
