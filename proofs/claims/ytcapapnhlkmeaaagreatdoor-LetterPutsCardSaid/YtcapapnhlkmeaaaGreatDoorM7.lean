/-
  errors.Is at the letters' own errors.
  Errors that are joined: errors.Is finds the number.
  What the functions of reflectlite are, that have no body.
-/
import Derived.Test.YtcapapnhlkmeaaaGreatDoorApp
import Derived.Test.YtcapapnhlkmeaaaGreatDoorRows
import Derived.WalkKit
import Derived.WalkSpells
import Derived.WalkLawsBesides
import Derived.LaidEql
import Derived.Stop.Asserts
import Derived.RowKitTokens
namespace Go.Proofs.YtcapapnhlkmeaaaGreatDoor
open Go.RowKit Go.Extern.Stop Go.Stop Go.Extern

namespace Er
theorem typeOfN (v : Value) (w : World) : (Extern.ReflectliteType.typeOf #[.iface 51 v]).run Tryz.prog w = .ok (.iface 169 (.agg #[.pointer (some ⟨1, 51, none⟩)])) w := by kernel_rfl
theorem comparableN (w : World) : ((Extern.ReflectliteType.method fun t => do Rtype.noPackHeld "Comparable" t; pure (.bool (← typeInfo t).comparable)) #[.agg #[.pointer (some ⟨1, 51, none⟩)]]).run Tryz.prog w = .ok (.bool true) w := by kernel_rfl
theorem methodComparable (v : Value) (w : World) : (Go.method 365 169 v "Comparable").run Tryz.prog w = .ok (173, v) w := by kernel_rfl
theorem noIsP (v : Value) (xT : TypeId) (w : World) : (Instr.typeAssert (.iface 53 v) xT 187 true).run Tryz.prog w = .ok (.tuple #[.nilIface, .bool false]) w := run_typeAssert_lacksB Tryz.underlying187 (by kernel_rfl) (by kernel_rfl) v xT w
theorem hasUnwrapP (v : Value) (xT : TypeId) (w : World) : (Instr.typeAssert (.iface 53 v) xT 176 true).run Tryz.prog w = .ok (.tuple #[.iface 53 v, .bool true]) w := run_typeAssert_hasB Tryz.underlying176 (by kernel_rfl) v xT w
theorem methodUnwrapP (v : Value) (w : World) : (Go.method 365 53 v "Unwrap").run Tryz.prog w = .ok (167, v) w := by kernel_rfl
theorem eqN (w : World) : (binOp .eql 56 (.iface 51 (.int .i64 2)) (.iface 51 (.int .i64 2))).run Tryz.prog w = .ok (.bool true) w := by kernel_rfl
end Er

def partV (s : ByteArray) : Value := .iface 53 (.agg #[.string s, .int .i64 2])
def argV : Value := .iface 51 (.int .i64 2)

theorem unwrapP (s : ByteArray) (w : World) : Calls Tryz.prog 167 #[.agg #[.string s, .int .i64 2]] w fun e w' => e = .returned (.iface 51 (.int .i64 2)) ∧ Ext w w' := by
  go_enter Tryz.func167, Tryz.ntmps167
  go_wp2
  go_ret
  exact ⟨rfl, (Ext.refl w).alloc _⟩
set_option maxRecDepth 100000 in
theorem is_part (s : ByteArray) (w : World) :
    Calls Tryz.prog 77 #[partV s, argV, .bool true] w fun e w' => e = .returned (.bool true) ∧ Ext w w' := by
  have nP := Er.noIsP
  have uP := Er.hasUnwrapP
  have mP := Er.methodUnwrapP
  have heq := Er.eqN
  have hty := run_eql_iface_types (P := Tryz.prog) 53 51 (.agg #[.string s, .int .i64 2]) (.int .i64 2) Tryz.underlying56 (by decide) w
  unfold partV argV
  go_enter Tryz.func77, Tryz.ntmps77
  go_wp2
  refine wp_loop_rounds 2 ?_
  rw [rounds_succ]
  go_wp2_with (go_at_call 167; refine (unwrapP s _).mono ?_; rintro e w1 ⟨rfl, hE1⟩)
  rw [rounds_succ]
  go_wp2
  go_ret
  exact ⟨rfl, hE1⟩
end Go.Proofs.YtcapapnhlkmeaaaGreatDoor
namespace Go.Proofs.YtcapapnhlkmeaaaGreatDoor
open Go.RowKit Go.Extern.Stop Go.Stop Go.Extern

namespace Er
theorem noIsJ (v : Value) (xT : TypeId) (w : World) : (Instr.typeAssert (.iface 184 v) xT 187 true).run Tryz.prog w = .ok (.tuple #[.nilIface, .bool false]) w := run_typeAssert_lacksB Tryz.underlying187 (by kernel_rfl) (by kernel_rfl) v xT w
theorem noUnwrapJ (v : Value) (xT : TypeId) (w : World) : (Instr.typeAssert (.iface 184 v) xT 176 true).run Tryz.prog w = .ok (.tuple #[.nilIface, .bool false]) w := run_typeAssert_lacksB Tryz.underlying176 (by kernel_rfl) (by kernel_rfl) v xT w
theorem hasUnwrapsJ (v : Value) (xT : TypeId) (w : World) : (Instr.typeAssert (.iface 184 v) xT 178 true).run Tryz.prog w = .ok (.tuple #[.iface 184 v, .bool true]) w := run_typeAssert_hasB Tryz.underlying178 (by kernel_rfl) v xT w
theorem methodUnwrapJ (v : Value) (w : World) : (Go.method 365 184 v "Unwrap").run Tryz.prog w = .ok (183, v) w := by kernel_rfl
end Er

def Bad : Nat → World → Value → Prop
  | 0, _, v => ∃ s, v = partV s
  | d + 1, w, v => Bad d w v ∨ ∃ j a n c v0, v = .iface 184 (.pointer (some ⟨j, 0, none⟩)) ∧ w.cell? ⟨j, 0, none⟩ = some (.slice (some ⟨a, 0, none⟩) n c) ∧ 1 ≤ n ∧ w.cell? ⟨a, 0, none⟩ = some v0 ∧ Bad d w v0
theorem Bad.up {d : Nat} {w : World} {v : Value} (h : Bad d w v) : ∀ k, Bad (d + k) w v
  | 0 => h
  | k + 1 => .inl (h.up k)
theorem Bad.le {d k : Nat} {w : World} {v : Value} (h : Bad d w v) (hk : d ≤ k) : Bad k w v := by
  have := h.up (k - d)
  rwa [show d + (k - d) = k by omega] at this
theorem Bad.ext {d : Nat} {w w' : World} {v : Value} (h : Bad d w v) (he : Ext w w') : Bad d w' v := by
  induction d generalizing v with
  | zero => exact h
  | succ d ih =>
    rcases h with h | ⟨j, a, n, c, v0, h1, h2, h3, h4, h5⟩
    · exact .inl (ih h)
    · exact .inr ⟨j, a, n, c, v0, h1, he.cell h2, h3, he.cell h4, ih h5⟩

theorem unwrapJ (j a n c : Nat) (w : World) (h : w.cell? ⟨j, 0, none⟩ = some (.slice (some ⟨a, 0, none⟩) n c)) : Calls Tryz.prog 183 #[.pointer (some ⟨j, 0, none⟩)] w fun e w' => e = .returned (.slice (some ⟨a, 0, none⟩) n c) ∧ Ext w w' := by
  go_enter Tryz.func183, Tryz.ntmps183
  go_wp2
  go_ret
  exact ⟨rfl, Ext.refl w⟩

set_option maxRecDepth 100000 in
set_option maxHeartbeats 1000000 in
theorem is_bad (d : Nat) : ∀ (v : Value) (w : World), Bad d w v → Calls Tryz.prog 77 #[v, argV, .bool true] w fun e w' => e = .returned (.bool true) ∧ Ext w w' := by
  induction d with
  | zero => rintro v w ⟨s, rfl⟩; exact is_part s w
  | succ d ih =>
    rintro v w (h | ⟨j, a, n, c, v0, rfl, h2, h3, h4, h5⟩)
    · exact ih v w h
    have nP := Er.noIsJ
    have uP := Er.noUnwrapJ
    have uP' := Er.hasUnwrapsJ
    have mP := Er.methodUnwrapJ
    have hty := run_eql_iface_types (P := Tryz.prog) 184 51 (.pointer (some ⟨j, 0, none⟩)) (.int .i64 2) Tryz.underlying56 (by decide)
    have hih := fun w' (he : Ext w w') => ih v0 w' (h5.ext he)
    clear ih h5
    unfold argV at hih ⊢
    go_enter Tryz.func77, Tryz.ntmps77
    go_wp2
    refine wp_loop_rounds 1 ?_
    rw [rounds_succ]
    go_wp2_with (go_at_call 183; refine (unwrapJ j a n c _ h2).mono ?_; rintro e w1 ⟨rfl, hE1⟩)
    refine wp_loop_rounds 1 ?_
    rw [rounds_succ]
    have h4' := hE1.cell h4
    go_wp2_with (go_at_call 77; refine (hih _ hE1).mono ?_; rintro e w2 ⟨rfl, hE2⟩)
    go_ret
    exact ⟨rfl, hE1.trans hE2⟩
end Go.Proofs.YtcapapnhlkmeaaaGreatDoor
namespace Go.Proofs.YtcapapnhlkmeaaaGreatDoor
open Go.RowKit Go.Extern.Stop Go.Stop Go.Extern

namespace Er
theorem xTypeOf (args : Array Value) (w : World) : (callFunc 76 args).run Tryz.prog w = (((Extern.ReflectliteType.typeOf) args).run Tryz.prog w).andThen fun v w' => .ok (.value v) w' :=
  run_callFunc_extern (e := Extern.ReflectliteType.typeOf) Tryz.func76 (by kernel_rfl) (by kernel_rfl) (by kernel_rfl) (by kernel_rfl) args w
theorem xComparable (args : Array Value) (w : World) : (callFunc 173 args).run Tryz.prog w = (((Extern.ReflectliteType.method fun t => do Rtype.noPackHeld "Comparable" t; pure (.bool (← typeInfo t).comparable)) args).run Tryz.prog w).andThen fun v w' => .ok (.value v) w' :=
  run_callFunc_extern (e := Extern.ReflectliteType.method fun t => do Rtype.noPackHeld "Comparable" t; pure (.bool (← typeInfo t).comparable)) Tryz.func173 (by kernel_rfl) (by kernel_rfl) (by kernel_rfl) (by kernel_rfl) args w
theorem xValueOf (args : Array Value) (w : World) : (callFunc 56 args).run Tryz.prog w = (((fun args => ReflectliteValue.unpack (args.getD 0 (.tuple #[]))) args).run Tryz.prog w).andThen fun v w' => .ok (.value v) w' :=
  run_callFunc_extern (e := fun args => ReflectliteValue.unpack (args.getD 0 (.tuple #[]))) Tryz.func56 (by kernel_rfl) (by kernel_rfl) (by kernel_rfl) (by kernel_rfl) args w
theorem xType (args : Array Value) (w : World) : (callFunc 57 args).run Tryz.prog w = (((ReflectliteValue.methodAny (ReflectliteValue.valueError "reflectlite.Value.Type" 0) (fun t _ _ _ => ReflectliteType.toType t)) args).run Tryz.prog w).andThen fun v w' => .ok (.value v) w' :=
  run_callFunc_extern (e := ReflectliteValue.methodAny (ReflectliteValue.valueError "reflectlite.Value.Type" 0) (fun t _ _ _ => ReflectliteType.toType t)) Tryz.func57 (by kernel_rfl) (by kernel_rfl) (by kernel_rfl) (by kernel_rfl) args w
theorem xIsNil (args : Array Value) (w : World) : (callFunc 58 args).run Tryz.prog w = (((ReflectliteValue.method (ReflectliteValue.valueError "reflectlite.Value.IsNil" 0) ReflectliteValue.isNil) args).run Tryz.prog w).andThen fun v w' => .ok (.value v) w' :=
  run_callFunc_extern (e := ReflectliteValue.method (ReflectliteValue.valueError "reflectlite.Value.IsNil" 0) ReflectliteValue.isNil) Tryz.func58 (by kernel_rfl) (by kernel_rfl) (by kernel_rfl) (by kernel_rfl) args w
theorem xKind (args : Array Value) (w : World) : (callFunc 162 args).run Tryz.prog w = (((ReflectliteType.abiMethod fun t => do pure (.int .u8 (← Rtype.kind t))) args).run Tryz.prog w).andThen fun v w' => .ok (.value v) w' :=
  run_callFunc_extern (e := ReflectliteType.abiMethod fun t => do pure (.int .u8 (← Rtype.kind t))) Tryz.func162 (by kernel_rfl) (by kernel_rfl) (by kernel_rfl) (by kernel_rfl) args w
theorem xElem (args : Array Value) (w : World) : (callFunc 174 args).run Tryz.prog w = (((ReflectliteType.method ReflectliteType.elem) args).run Tryz.prog w).andThen fun v w' => .ok (.value v) w' :=
  run_callFunc_extern (e := ReflectliteType.method ReflectliteType.elem) Tryz.func174 (by kernel_rfl) (by kernel_rfl) (by kernel_rfl) (by kernel_rfl) args w
theorem xImplements (args : Array Value) (w : World) : (callFunc 175 args).run Tryz.prog w = (((ReflectliteType.relation "Implements" ReflectliteType.implements_) args).run Tryz.prog w).andThen fun v w' => .ok (.value v) w' :=
  run_callFunc_extern (e := ReflectliteType.relation "Implements" ReflectliteType.implements_) Tryz.func175 (by kernel_rfl) (by kernel_rfl) (by kernel_rfl) (by kernel_rfl) args w
theorem xAssignable (args : Array Value) (w : World) : (callFunc 172 args).run Tryz.prog w = (((ReflectliteType.relation "AssignableTo" ReflectliteType.assignableTo) args).run Tryz.prog w).andThen fun v w' => .ok (.value v) w' :=
  run_callFunc_extern (e := ReflectliteType.relation "AssignableTo" ReflectliteType.assignableTo) Tryz.func172 (by kernel_rfl) (by kernel_rfl) (by kernel_rfl) (by kernel_rfl) args w
theorem xElemV (args : Array Value) (w : World) : (callFunc 106 args).run Tryz.prog w = (((ReflectliteValue.method (ReflectliteValue.valueError "reflectlite.Value.Elem" 0) ReflectliteValue.elem) args).run Tryz.prog w).andThen fun v w' => .ok (.value v) w' :=
  run_callFunc_extern (e := ReflectliteValue.method (ReflectliteValue.valueError "reflectlite.Value.Elem" 0) ReflectliteValue.elem) Tryz.func106 (by kernel_rfl) (by kernel_rfl) (by kernel_rfl) (by kernel_rfl) args w
theorem xSet (args : Array Value) (w : World) : (callFunc 107 args).run Tryz.prog w = (((ReflectliteValue.set) args).run Tryz.prog w).andThen fun v w' => .ok (.value v) w' :=
  run_callFunc_extern (e := ReflectliteValue.set) Tryz.func107 (by kernel_rfl) (by kernel_rfl) (by kernel_rfl) (by kernel_rfl) args w
end Er
end Go.Proofs.YtcapapnhlkmeaaaGreatDoor
