/-
  errors.Is of what row tells.
-/
import Derived.Test.YtcapapnhlkmeaaaDoorM15
import Derived.Test.YtcapapnhlkmeaaaDoorErX
namespace Go.Proofs.YtcapapnhlkmeaaaDoor
open Go.RowKit Go.Extern.Stop Go.Stop Go.Extern

namespace Er
theorem comparableE2 (w : World) : ((Extern.ReflectliteType.method fun t => do Rtype.noPackHeld "Comparable" t; (fun a => Value.bool a.comparable) <$> typeInfo t) #[.agg #[.pointer (some ⟨1, 57, none⟩)]]).run Tryd.prog w = .ok (.bool true) w := by kernel_rfl
theorem methodComparableR (v : Value) (w : World) : (Go.method 272 108 v "Comparable").run Tryd.prog w = .ok (90, v) w := by kernel_rfl
end Er

set_option maxRecDepth 100000 in
theorem Is_broken12 (j : Nat) (w : World) : Calls Tryd.prog 12 #[brokenV j 12, numE 12] w fun e w' => e = .returned (.bool true) ∧ Ext w w' := by
  have h1 := Er.xTypeOf
  have h2 := Er.xComparable
  have h3 := Er.typeOfE
  have h4 := Er.comparableE2
  have h5 := Er.methodComparableR
  have hI := fun w => is_broken12 j w
  have HI := Lib.hid hI
  clear hI
  unfold brokenV numE at HI ⊢
  go_enter Tryd.func12, Tryd.ntmps12
  go_wp2_with (go_at_call 21; refine (HI.out _).mono ?_; rintro e w1 ⟨rfl, hE1⟩)
  go_ret
  exact ⟨rfl, hE1⟩
set_option maxRecDepth 100000 in
theorem Is_broken4 (j : Nat) (w : World) : Calls Tryd.prog 12 #[brokenV j 4, numE 12] w fun e w' => e = .returned (.bool false) ∧ Ext w w' := by
  have h1 := Er.xTypeOf
  have h2 := Er.xComparable
  have h3 := Er.typeOfE
  have h4 := Er.comparableE2
  have h5 := Er.methodComparableR
  have hI := fun w => is_broken4 j w
  have HI := Lib.hid hI
  clear hI
  unfold brokenV numE at HI ⊢
  go_enter Tryd.func12, Tryd.ntmps12
  go_wp2_with (go_at_call 21; refine (HI.out _).mono ?_; rintro e w1 ⟨rfl, hE1⟩)
  go_ret
  exact ⟨rfl, hE1⟩
end Go.Proofs.YtcapapnhlkmeaaaDoor
