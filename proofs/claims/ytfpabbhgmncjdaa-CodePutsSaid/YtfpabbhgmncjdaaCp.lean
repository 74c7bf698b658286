/-
  CodePuts: the walk, given what puts does.
-/
import Derived.Test.YtfpabbhgmncjdaaOp
import Derived.Test.YtfpabbhgmncjdaaAw
namespace Go.Proofs.Ytfpabbhgmncjdaa
open Go.RowKit

set_option maxHeartbeats 400000 in
theorem codePuts_of (hp : ∀ (A : Option Addr) (c : Nat) (ps : List Pt) (w : World), PtsIn w A ps → ps.length + lens ps ≤ 3000 →
      Calls Try.prog 6 #[.slice A ps.length c] w fun e w' => (∃ x, e = .returned (.tuple #[x, .bool true])) ∧ Ext w w')
    (A : Option Addr) (c : Nat) (ps : List Pt) (w : World) (hA : PtsIn w A ps) (hl : ps.length ≤ 140737488355328) :
    Calls Try.prog 3 #[.slice A ps.length c] w fun e w' => e = .returned (.bool true) ∧ Ext w w' := by
  go_enter Try.func3, Try.ntmps3
  go_wp2_with fail
  refine (size_any A c ps w hA (by omega)).mono ?_
  rintro e w1 ⟨⟨n, rfl, hn⟩, hE1⟩
  by_cases h3 : n ≤ 3000
  · go_wp2_with fail
    refine (hp A c ps w1 (hA.ext hE1) (hn h3)).mono ?_
    rintro e w2 ⟨⟨x, rfl⟩, hE2⟩
    go_wp2_with fail
    refine (awake_any w2).mono ?_
    rintro e w3 ⟨rfl, hE3⟩
    go_wp2_with fail
    go_ret
    exact ⟨rfl, (hE1.trans hE2).trans hE3⟩
  · go_wp2_with fail
    refine (awake_any w1).mono ?_
    rintro e w3 ⟨rfl, hE3⟩
    go_wp2_with fail
    go_ret
    exact ⟨rfl, hE1.trans hE3⟩
end Go.Proofs.Ytfpabbhgmncjdaa
