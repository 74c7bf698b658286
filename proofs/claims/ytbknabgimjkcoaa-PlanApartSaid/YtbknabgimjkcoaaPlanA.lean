import Derived.Test.YtbknabgimjkcoaaRows
import Derived.WalkKit
import Derived.WalkSpells
import Derived.WalkLawsBesides
import Derived.Handy
namespace Go.Proofs.Ytbknabgimjkcoaa
open Go.RowKit

def withinB (l : List (Int × Int × Int)) : Bool := l.all fun t => decide (t.2.1 ≤ t.1) && decide (t.1 ≤ t.2.2)

set_option maxHeartbeats 400000 in
theorem within1 (x lo hi : Int) (b cap : Nat) (w : World) (_hb : b < w.heap.size)
    (h0 : w.cell? ⟨b, 0, none⟩ = some (.int .i64 x)) (h1 : w.cell? ⟨b, 1, none⟩ = some (.int .i64 lo)) (h2 : w.cell? ⟨b, 2, none⟩ = some (.int .i64 hi)) :
    Calls Try.prog 29 #[.slice (some ⟨b, 0, none⟩) 1 cap] w fun e w' => e = .returned (.bool (withinB [(x, lo, hi)])) ∧ Below w.heap.size w w' := by
  go_enter Try.func29, Try.ntmps29
  go_wp2
  go_rounds 2
  all_goals go_ret
  all_goals (refine ⟨by simp [withinB]; try omega, by go_grown⟩)

set_option maxHeartbeats 800000 in
theorem within3 (x lo hi x' lo' hi' x'' lo'' hi'' : Int) (b cap : Nat) (w : World) (_hb : b < w.heap.size)
    (h0 : w.cell? ⟨b, 0, none⟩ = some (.int .i64 x)) (h1 : w.cell? ⟨b, 1, none⟩ = some (.int .i64 lo)) (h2 : w.cell? ⟨b, 2, none⟩ = some (.int .i64 hi))
    (h3 : w.cell? ⟨b, 3, none⟩ = some (.int .i64 x')) (h4 : w.cell? ⟨b, 4, none⟩ = some (.int .i64 lo')) (h5 : w.cell? ⟨b, 5, none⟩ = some (.int .i64 hi'))
    (h6 : w.cell? ⟨b, 6, none⟩ = some (.int .i64 x'')) (h7 : w.cell? ⟨b, 7, none⟩ = some (.int .i64 lo'')) (h8 : w.cell? ⟨b, 8, none⟩ = some (.int .i64 hi'')) :
    Calls Try.prog 29 #[.slice (some ⟨b, 0, none⟩) 3 cap] w fun e w' => e = .returned (.bool (withinB [(x, lo, hi), (x', lo', hi'), (x'', lo'', hi'')])) ∧ Below w.heap.size w w' := by
  go_enter Try.func29, Try.ntmps29
  go_wp2
  go_rounds 4
  all_goals go_ret
  all_goals (refine ⟨by simp [withinB]; try omega, by go_grown⟩)

end Go.Proofs.Ytbknabgimjkcoaa
