/-
  errors.Is and errors.As at the entries' own errors.
-/
import Derived.Test.YtcapapnhlkmeaaaDoorM14
namespace Go.Proofs.YtcapapnhlkmeaaaDoor
open Go.RowKit Go.Extern.Stop Go.Stop Go.Extern

namespace Er
theorem typeOfE (v : Value) (w : World) : (Extern.ReflectliteType.typeOf #[.iface 57 v]).run Tryd.prog w = .ok (.iface 108 (.agg #[.pointer (some ⟨1, 57, none⟩)])) w := by kernel_rfl
theorem comparableE (w : World) : ((Extern.ReflectliteType.method fun t => do Rtype.noPackHeld "Comparable" t; pure (.bool (← typeInfo t).comparable)) #[.agg #[.pointer (some ⟨1, 57, none⟩)]]).run Tryd.prog w = .ok (.bool true) w := by kernel_rfl
theorem noIsB (v : Value) (xT : TypeId) (w : World) : (Instr.typeAssert (.iface 86 v) xT 110 true).run Tryd.prog w = .ok (.tuple #[.nilIface, .bool false]) w := run_typeAssert_lacksB Tryd.underlying110 (by kernel_rfl) (by kernel_rfl) v xT w
theorem noIsE (v : Value) (xT : TypeId) (w : World) : (Instr.typeAssert (.iface 57 v) xT 110 true).run Tryd.prog w = .ok (.tuple #[.nilIface, .bool false]) w := run_typeAssert_lacksB Tryd.underlying110 (by kernel_rfl) (by kernel_rfl) v xT w
theorem hasUnwrapB (v : Value) (xT : TypeId) (w : World) : (Instr.typeAssert (.iface 86 v) xT 113 true).run Tryd.prog w = .ok (.tuple #[.iface 86 v, .bool true]) w := run_typeAssert_hasB Tryd.underlying113 (by kernel_rfl) v xT w
theorem noUnwrapE (v : Value) (xT : TypeId) (w : World) : (Instr.typeAssert (.iface 57 v) xT 113 true).run Tryd.prog w = .ok (.tuple #[.nilIface, .bool false]) w := run_typeAssert_lacksB Tryd.underlying113 (by kernel_rfl) (by kernel_rfl) v xT w
theorem noUnwrapsE (v : Value) (xT : TypeId) (w : World) : (Instr.typeAssert (.iface 57 v) xT 115 true).run Tryd.prog w = .ok (.tuple #[.nilIface, .bool false]) w := run_typeAssert_lacksB Tryd.underlying115 (by kernel_rfl) (by kernel_rfl) v xT w
theorem methodUnwrapB (v : Value) (w : World) : (Go.method 272 86 v "Unwrap").run Tryd.prog w = .ok (84, v) w := by kernel_rfl
theorem eqE12 (w : World) : (binOp .eql 48 (.iface 57 (.int .i64 12)) (.iface 57 (.int .i64 12))).run Tryd.prog w = .ok (.bool true) w := by kernel_rfl
theorem eqE4 (w : World) : (binOp .eql 48 (.iface 57 (.int .i64 4)) (.iface 57 (.int .i64 12))).run Tryd.prog w = .ok (.bool false) w := by kernel_rfl
end Er

theorem unwrapB (x v : Value) (w : World) (hx : x.cells = #[x]) : Calls Tryd.prog 84 #[.agg #[x, v]] w fun e w' => e = .returned v ∧ Ext w w' := by
  go_enter Tryd.func84, Tryd.ntmps84
  go_wp2
  go_ret
  exact ⟨rfl, (Ext.refl w).alloc _⟩

set_option maxRecDepth 100000 in
theorem is_broken12 (j : Nat) (w : World) : Calls Tryd.prog 21 #[brokenV j 12, numE 12, .bool true] w fun e w' => e = .returned (.bool true) ∧ Ext w w' := by
  have nP := Er.noIsB
  have uP := Er.hasUnwrapB
  have mP := Er.methodUnwrapB
  have heq := Er.eqE12
  have hty := run_eql_iface_types (P := Tryd.prog) 86 57 (.agg #[.int .i64 (j : Int), .iface 57 (.int .i64 12)]) (.int .i64 12) Tryd.underlying48 (by decide) w
  unfold brokenV numE
  go_enter Tryd.func21, Tryd.ntmps21
  go_wp2
  refine wp_loop_rounds 2 ?_
  rw [rounds_succ]
  go_wp2_with (go_at_call 84; refine (unwrapB _ _ _ rfl).mono ?_; rintro e w1 ⟨rfl, hE1⟩)
  rw [rounds_succ]
  go_wp2
  go_ret
  exact ⟨rfl, hE1⟩
set_option maxRecDepth 100000 in
theorem is_broken4 (j : Nat) (w : World) : Calls Tryd.prog 21 #[brokenV j 4, numE 12, .bool true] w fun e w' => e = .returned (.bool false) ∧ Ext w w' := by
  have nP := Er.noIsB
  have uP := Er.hasUnwrapB
  have nE := Er.noIsE
  have uE := Er.noUnwrapE
  have usE := Er.noUnwrapsE
  have mP := Er.methodUnwrapB
  have heq := Er.eqE4
  have hty := run_eql_iface_types (P := Tryd.prog) 86 57 (.agg #[.int .i64 (j : Int), .iface 57 (.int .i64 4)]) (.int .i64 12) Tryd.underlying48 (by decide) w
  unfold brokenV numE
  go_enter Tryd.func21, Tryd.ntmps21
  go_wp2
  refine wp_loop_rounds 2 ?_
  rw [rounds_succ]
  go_wp2_with (go_at_call 84; refine (unwrapB _ _ _ rfl).mono ?_; rintro e w1 ⟨rfl, hE1⟩)
  rw [rounds_succ]
  go_wp2
  go_ret
  exact ⟨rfl, hE1⟩
set_option maxRecDepth 100000 in
theorem Is_nilE (n : Int) (w : World) : Calls Tryd.prog 12 #[.nilIface, numE n] w fun e w' => e = .returned (.bool false) ∧ w = w' := by
  have hn := fun w => run_eql_iface_nil_left (P := Tryd.prog) w 57 (.int .i64 n) Tryd.underlying48
  unfold numE
  go_enter Tryd.func12, Tryd.ntmps12
  go_wp2
  go_ret
  exact ⟨rfl, rfl⟩
end Go.Proofs.YtcapapnhlkmeaaaDoor
