/-
  errors.Is at the letters' own errors.
-/
import Derived.Test.YtcapapnhlkmeaaaDoorApp
import Derived.Test.YtcapapnhlkmeaaaDoorRows
import Derived.WalkKit
import Derived.WalkSpells
import Derived.WalkLawsBesides
import Derived.LaidEql
import Derived.Stop.Asserts
import Derived.RowKitTokens
namespace Go.Proofs.YtcapapnhlkmeaaaDoor
open Go.RowKit Go.Extern.Stop Go.Stop Go.Extern

namespace Er
theorem typeOfN (v : Value) (w : World) : (Extern.ReflectliteType.typeOf #[.iface 50 v]).run Tryd.prog w = .ok (.iface 108 (.agg #[.pointer (some ⟨1, 50, none⟩)])) w := by kernel_rfl
theorem comparableN (w : World) : ((Extern.ReflectliteType.method fun t => do Rtype.noPackHeld "Comparable" t; pure (.bool (← typeInfo t).comparable)) #[.agg #[.pointer (some ⟨1, 50, none⟩)]]).run Tryd.prog w = .ok (.bool true) w := by kernel_rfl
theorem methodComparable (v : Value) (w : World) : (Go.method 272 108 v "Comparable").run Tryd.prog w = .ok (90, v) w := by kernel_rfl
theorem noIsP (v : Value) (xT : TypeId) (w : World) : (Instr.typeAssert (.iface 60 v) xT 110 true).run Tryd.prog w = .ok (.tuple #[.nilIface, .bool false]) w := run_typeAssert_lacksB Tryd.underlying110 (by kernel_rfl) (by kernel_rfl) v xT w
theorem hasUnwrapP (v : Value) (xT : TypeId) (w : World) : (Instr.typeAssert (.iface 60 v) xT 113 true).run Tryd.prog w = .ok (.tuple #[.iface 60 v, .bool true]) w := run_typeAssert_hasB Tryd.underlying113 (by kernel_rfl) v xT w
theorem methodUnwrapP (v : Value) (w : World) : (Go.method 272 60 v "Unwrap").run Tryd.prog w = .ok (82, v) w := by kernel_rfl
theorem eqN (w : World) : (binOp .eql 48 (.iface 50 (.int .i64 2)) (.iface 50 (.int .i64 2))).run Tryd.prog w = .ok (.bool true) w := by kernel_rfl
end Er

def partV (s : ByteArray) : Value := .iface 60 (.agg #[.string s, .int .i64 2])
def argV : Value := .iface 50 (.int .i64 2)

theorem unwrapP (s : ByteArray) (w : World) : Calls Tryd.prog 82 #[.agg #[.string s, .int .i64 2]] w fun e w' => e = .returned (.iface 50 (.int .i64 2)) ∧ Ext w w' := by
  go_enter Tryd.func82, Tryd.ntmps82
  go_wp2
  go_ret
  exact ⟨rfl, (Ext.refl w).alloc _⟩
set_option maxRecDepth 100000 in
theorem is_part (s : ByteArray) (w : World) :
    Calls Tryd.prog 21 #[partV s, argV, .bool true] w fun e w' => e = .returned (.bool true) ∧ Ext w w' := by
  have nP := Er.noIsP
  have uP := Er.hasUnwrapP
  have mP := Er.methodUnwrapP
  have heq := Er.eqN
  have hty := run_eql_iface_types (P := Tryd.prog) 60 50 (.agg #[.string s, .int .i64 2]) (.int .i64 2) Tryd.underlying48 (by decide) w
  unfold partV argV
  go_enter Tryd.func21, Tryd.ntmps21
  go_wp2
  refine wp_loop_rounds 2 ?_
  rw [rounds_succ]
  go_wp2_with (go_at_call 82; refine (unwrapP s _).mono ?_; rintro e w1 ⟨rfl, hE1⟩)
  rw [rounds_succ]
  go_wp2
  go_ret
  exact ⟨rfl, hE1⟩
end Go.Proofs.YtcapapnhlkmeaaaDoor
