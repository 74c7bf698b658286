/-
  errors.Is at the letters' own errors.
  Errors that are joined: errors.Is finds the number.
-/
import Derived.Test.YtigljihohpdpeaaGreatDoorApp
import Derived.Test.YtigljihohpdpeaaGreatDoorRows
import Derived.WalkKit
import Derived.WalkSpells
import Derived.WalkLawsBesides
import Derived.LaidEql
import Derived.Stop.Asserts
import Derived.RowKitTokens
namespace Go.Proofs.YtigljihohpdpeaaGreatDoor
open Go.RowKit Go.Extern.Stop Go.Stop Go.Extern

namespace Er
theorem typeOfN (v : Value) (w : World) : (Extern.ReflectliteType.typeOf #[.iface 76 v]).run Tryz.prog w = .ok (.iface 115 (.agg #[.pointer (some ⟨1, 76, none⟩)])) w := by kernel_rfl
theorem comparableN (w : World) : ((Extern.ReflectliteType.method fun t => do Rtype.noPackHeld "Comparable" t; pure (.bool (← typeInfo t).comparable)) #[.agg #[.pointer (some ⟨1, 76, none⟩)]]).run Tryz.prog w = .ok (.bool true) w := by kernel_rfl
theorem methodComparable (v : Value) (w : World) : (Go.method 303 115 v "Comparable").run Tryz.prog w = .ok (108, v) w := by kernel_rfl
theorem noIsP (v : Value) (xT : TypeId) (w : World) : (Instr.typeAssert (.iface 146 v) xT 117 true).run Tryz.prog w = .ok (.tuple #[.nilIface, .bool false]) w := run_typeAssert_lacksB Tryz.underlying117 (by kernel_rfl) (by kernel_rfl) v xT w
theorem hasUnwrapP (v : Value) (xT : TypeId) (w : World) : (Instr.typeAssert (.iface 146 v) xT 120 true).run Tryz.prog w = .ok (.tuple #[.iface 146 v, .bool true]) w := run_typeAssert_hasB Tryz.underlying120 (by kernel_rfl) v xT w
theorem methodUnwrapP (v : Value) (w : World) : (Go.method 303 146 v "Unwrap").run Tryz.prog w = .ok (123, v) w := by kernel_rfl
theorem eqN (w : World) : (binOp .eql 69 (.iface 76 (.int .i64 2)) (.iface 76 (.int .i64 2))).run Tryz.prog w = .ok (.bool true) w := by kernel_rfl
end Er

def partV (s : ByteArray) : Value := .iface 146 (.agg #[.string s, .int .i64 2])
def argV : Value := .iface 76 (.int .i64 2)

theorem unwrapP (s : ByteArray) (w : World) : Calls Tryz.prog 123 #[.agg #[.string s, .int .i64 2]] w fun e w' => e = .returned (.iface 76 (.int .i64 2)) ∧ Ext w w' := by
  go_enter Tryz.func123, Tryz.ntmps123
  go_wp2
  go_ret
  exact ⟨rfl, (Ext.refl w).alloc _⟩
set_option maxRecDepth 100000 in
theorem is_part (s : ByteArray) (w : World) :
    Calls Tryz.prog 42 #[partV s, argV, .bool true] w fun e w' => e = .returned (.bool true) ∧ Ext w w' := by
  have nP := Er.noIsP
  have uP := Er.hasUnwrapP
  have mP := Er.methodUnwrapP
  have heq := Er.eqN
  have hty := run_eql_iface_types (P := Tryz.prog) 146 76 (.agg #[.string s, .int .i64 2]) (.int .i64 2) Tryz.underlying69 (by decide) w
  unfold partV argV
  go_enter Tryz.func42, Tryz.ntmps42
  go_wp2
  refine wp_loop_rounds 2 ?_
  rw [rounds_succ]
  go_wp2_with (go_at_call 123; refine (unwrapP s _).mono ?_; rintro e w1 ⟨rfl, hE1⟩)
  rw [rounds_succ]
  go_wp2
  go_ret
  exact ⟨rfl, hE1⟩
end Go.Proofs.YtigljihohpdpeaaGreatDoor
namespace Go.Proofs.YtigljihohpdpeaaGreatDoor
open Go.RowKit Go.Extern.Stop Go.Stop Go.Extern

namespace Er
theorem noIsJ (v : Value) (xT : TypeId) (w : World) : (Instr.typeAssert (.iface 142 v) xT 117 true).run Tryz.prog w = .ok (.tuple #[.nilIface, .bool false]) w := run_typeAssert_lacksB Tryz.underlying117 (by kernel_rfl) (by kernel_rfl) v xT w
theorem noUnwrapJ (v : Value) (xT : TypeId) (w : World) : (Instr.typeAssert (.iface 142 v) xT 120 true).run Tryz.prog w = .ok (.tuple #[.nilIface, .bool false]) w := run_typeAssert_lacksB Tryz.underlying120 (by kernel_rfl) (by kernel_rfl) v xT w
theorem hasUnwrapsJ (v : Value) (xT : TypeId) (w : World) : (Instr.typeAssert (.iface 142 v) xT 122 true).run Tryz.prog w = .ok (.tuple #[.iface 142 v, .bool true]) w := run_typeAssert_hasB Tryz.underlying122 (by kernel_rfl) v xT w
theorem methodUnwrapJ (v : Value) (w : World) : (Go.method 303 142 v "Unwrap").run Tryz.prog w = .ok (121, v) w := by kernel_rfl
end Er

def Bad : Nat → World → Value → Prop
  | 0, _, v => ∃ s, v = partV s
  | d + 1, w, v => Bad d w v ∨ ∃ j a n c v0, v = .iface 142 (.pointer (some ⟨j, 0, none⟩)) ∧ w.cell? ⟨j, 0, none⟩ = some (.slice (some ⟨a, 0, none⟩) n c) ∧ 1 ≤ n ∧ w.cell? ⟨a, 0, none⟩ = some v0 ∧ Bad d w v0
theorem Bad.up {d : Nat} {w : World} {v : Value} (h : Bad d w v) : ∀ k, Bad (d + k) w v
  | 0 => h
  | k + 1 => .inl (h.up k)
theorem Bad.le {d k : Nat} {w : World} {v : Value} (h : Bad d w v) (hk : d ≤ k) : Bad k w v := by
  have := h.up (k - d)
  rwa [show d + (k - d) = k by omega] at this
theorem Bad.ext {d : Nat} {w w' : World} {v : Value} (h : Bad d w v) (he : Ext w w') : Bad d w' v := by
  induction d generalizing v with
  | zero => exact h
  | succ d ih =>
    rcases h with h | ⟨j, a, n, c, v0, h1, h2, h3, h4, h5⟩
    · exact .inl (ih h)
    · exact .inr ⟨j, a, n, c, v0, h1, he.cell h2, h3, he.cell h4, ih h5⟩

theorem unwrapJ (j a n c : Nat) (w : World) (h : w.cell? ⟨j, 0, none⟩ = some (.slice (some ⟨a, 0, none⟩) n c)) : Calls Tryz.prog 121 #[.pointer (some ⟨j, 0, none⟩)] w fun e w' => e = .returned (.slice (some ⟨a, 0, none⟩) n c) ∧ Ext w w' := by
  go_enter Tryz.func121, Tryz.ntmps121
  go_wp2
  go_ret
  exact ⟨rfl, Ext.refl w⟩

set_option maxRecDepth 100000 in
set_option maxHeartbeats 1000000 in
theorem is_bad (d : Nat) : ∀ (v : Value) (w : World), Bad d w v → Calls Tryz.prog 42 #[v, argV, .bool true] w fun e w' => e = .returned (.bool true) ∧ Ext w w' := by
  induction d with
  | zero => rintro v w ⟨s, rfl⟩; exact is_part s w
  | succ d ih =>
    rintro v w (h | ⟨j, a, n, c, v0, rfl, h2, h3, h4, h5⟩)
    · exact ih v w h
    have nP := Er.noIsJ
    have uP := Er.noUnwrapJ
    have uP' := Er.hasUnwrapsJ
    have mP := Er.methodUnwrapJ
    have hty := run_eql_iface_types (P := Tryz.prog) 142 76 (.pointer (some ⟨j, 0, none⟩)) (.int .i64 2) Tryz.underlying69 (by decide)
    have hih := fun w' (he : Ext w w') => ih v0 w' (h5.ext he)
    clear ih h5
    unfold argV at hih ⊢
    go_enter Tryz.func42, Tryz.ntmps42
    go_wp2
    refine wp_loop_rounds 1 ?_
    rw [rounds_succ]
    go_wp2_with (go_at_call 121; refine (unwrapJ j a n c _ h2).mono ?_; rintro e w1 ⟨rfl, hE1⟩)
    refine wp_loop_rounds 1 ?_
    rw [rounds_succ]
    have h4' := hE1.cell h4
    go_wp2_with (go_at_call 42; refine (hih _ hE1).mono ?_; rintro e w2 ⟨rfl, hE2⟩)
    go_ret
    exact ⟨rfl, hE1.trans hE2⟩
end Go.Proofs.YtigljihohpdpeaaGreatDoor
