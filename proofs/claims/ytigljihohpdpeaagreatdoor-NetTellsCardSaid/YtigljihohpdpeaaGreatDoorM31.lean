/-
  errors.Is and errors.As at the net's own errors; told.
  errors.Is and errors.As at the net's own errors; told.
-/
import Derived.Test.YtigljihohpdpeaaGreatDoorM12
namespace Go.Proofs.YtigljihohpdpeaaGreatDoor
open Go.RowKit Go.Extern.Stop Go.Stop Go.Extern

namespace Nr
theorem typeOfE (v : Value) (w : World) : (Extern.ReflectliteType.typeOf #[.iface 74 v]).run Tryz.prog w = .ok (.iface 115 (.agg #[.pointer (some ⟨1, 74, none⟩)])) w := by kernel_rfl
theorem comparableE (w : World) : ((Extern.ReflectliteType.method fun t => do Rtype.noPackHeld "Comparable" t; pure (.bool (← typeInfo t).comparable)) #[.agg #[.pointer (some ⟨1, 74, none⟩)]]).run Tryz.prog w = .ok (.bool true) w := by kernel_rfl
theorem noIsB (v : Value) (xT : TypeId) (w : World) : (Instr.typeAssert (.iface 94 v) xT 117 true).run Tryz.prog w = .ok (.tuple #[.nilIface, .bool false]) w := run_typeAssert_lacksB Tryz.underlying117 (by kernel_rfl) (by kernel_rfl) v xT w
theorem noIsE (v : Value) (xT : TypeId) (w : World) : (Instr.typeAssert (.iface 74 v) xT 117 true).run Tryz.prog w = .ok (.tuple #[.nilIface, .bool false]) w := run_typeAssert_lacksB Tryz.underlying117 (by kernel_rfl) (by kernel_rfl) v xT w
theorem hasUnwrapB (v : Value) (xT : TypeId) (w : World) : (Instr.typeAssert (.iface 94 v) xT 120 true).run Tryz.prog w = .ok (.tuple #[.iface 94 v, .bool true]) w := run_typeAssert_hasB Tryz.underlying120 (by kernel_rfl) v xT w
theorem noUnwrapE (v : Value) (xT : TypeId) (w : World) : (Instr.typeAssert (.iface 74 v) xT 120 true).run Tryz.prog w = .ok (.tuple #[.nilIface, .bool false]) w := run_typeAssert_lacksB Tryz.underlying120 (by kernel_rfl) (by kernel_rfl) v xT w
theorem noUnwrapsE (v : Value) (xT : TypeId) (w : World) : (Instr.typeAssert (.iface 74 v) xT 122 true).run Tryz.prog w = .ok (.tuple #[.nilIface, .bool false]) w := run_typeAssert_lacksB Tryz.underlying122 (by kernel_rfl) (by kernel_rfl) v xT w
theorem methodUnwrapB (v : Value) (w : World) : (Go.method 303 94 v "Unwrap").run Tryz.prog w = .ok (105, v) w := by kernel_rfl
theorem eqN11 (w : World) : (binOp .eql 69 (.iface 74 (.int .i64 11)) (.iface 74 (.int .i64 11))).run Tryz.prog w = .ok (.bool true) w := by kernel_rfl
theorem eqN7 (w : World) : (binOp .eql 69 (.iface 74 (.int .i64 7)) (.iface 74 (.int .i64 11))).run Tryz.prog w = .ok (.bool false) w := by kernel_rfl
theorem noAsN (v : Value) (xT : TypeId) (w : World) : (Instr.typeAssert (.iface 74 v) xT 152 true).run Tryz.prog w = .ok (.tuple #[.nilIface, .bool false]) w := run_typeAssert_lacksB Tryz.underlying152 (by kernel_rfl) (by kernel_rfl) v xT w
theorem comparableE2 (w : World) : ((Extern.ReflectliteType.method fun t => do Rtype.noPackHeld "Comparable" t; (fun a => Value.bool a.comparable) <$> typeInfo t) #[.agg #[.pointer (some ⟨1, 74, none⟩)]]).run Tryz.prog w = .ok (.bool true) w := by kernel_rfl
theorem valueOfPE (t : Addr) (w : World) : (ReflectliteValue.unpack (.iface 100 (.pointer (some t)))).run Tryz.prog w
    = .ok (.agg #[.pointer (some ⟨1, 100, none⟩), .pointer (some ⟨w.heap.size, 0, none⟩), .int .u64 150]) (w.alloc (.cells #[.pointer (some t)] 100)) := by kernel_rfl
theorem valueOfE (n : Int) (w : World) : (ReflectliteValue.unpack (.iface 74 (.int .i64 n))).run Tryz.prog w
    = .ok (.agg #[.pointer (some ⟨1, 74, none⟩), .pointer (some ⟨w.heap.size, 0, none⟩), .int .u64 130]) (w.alloc (.cells #[.int .i64 n] 74)) := by kernel_rfl
theorem typePE (a : Addr) (w : World) : (ReflectliteValue.methodAny (ReflectliteValue.valueError "reflectlite.Value.Type" 0) (fun t _ _ _ => ReflectliteType.toType t) #[.agg #[.pointer (some ⟨1, 100, none⟩), .pointer (some a), .int .u64 150]]).run Tryz.prog w
    = .ok (.iface 115 (.agg #[.pointer (some ⟨1, 100, none⟩)])) w := by kernel_rfl
theorem kindPE (w : World) : ((ReflectliteType.abiMethod fun t => (fun a : Nat => Value.int IntKind.u8 (a : Int)) <$> Rtype.kind t) #[.pointer (some ⟨1, 100, none⟩)]).run Tryz.prog w = .ok (.int .u8 22) w := by kernel_rfl
theorem kindE (w : World) : ((ReflectliteType.abiMethod fun t => (fun a : Nat => Value.int IntKind.u8 (a : Int)) <$> Rtype.kind t) #[.pointer (some ⟨1, 74, none⟩)]).run Tryz.prog w = .ok (.int .u8 2) w := by kernel_rfl
theorem elemPE (w : World) : (ReflectliteType.method ReflectliteType.elem #[.agg #[.pointer (some ⟨1, 100, none⟩)]]).run Tryz.prog w = .ok (.iface 115 (.agg #[.pointer (some ⟨1, 74, none⟩)])) w := by kernel_rfl
theorem implementsE (w : World) : (ReflectliteType.relation "Implements" ReflectliteType.implements_ #[.agg #[.pointer (some ⟨1, 74, none⟩)], .iface 115 (.agg #[.pointer (some ⟨1, 69, none⟩)])]).run Tryz.prog w = .ok (.bool true) w := by kernel_rfl
theorem typeOfB (v : Value) (w : World) : (ReflectliteType.typeOf #[.iface 94 v]).run Tryz.prog w = .ok (.iface 115 (.agg #[.pointer (some ⟨1, 94, none⟩)])) w := by kernel_rfl
theorem assignableE (w : World) : (ReflectliteType.relation "AssignableTo" ReflectliteType.assignableTo #[.agg #[.pointer (some ⟨1, 74, none⟩)], .iface 115 (.agg #[.pointer (some ⟨1, 74, none⟩)])]).run Tryz.prog w = .ok (.bool true) w := by kernel_rfl
theorem assignableB (w : World) : (ReflectliteType.relation "AssignableTo" ReflectliteType.assignableTo #[.agg #[.pointer (some ⟨1, 94, none⟩)], .iface 115 (.agg #[.pointer (some ⟨1, 74, none⟩)])]).run Tryz.prog w = .ok (.bool false) w := by kernel_rfl
theorem noAsB (v : Value) (xT : TypeId) (w : World) : (Instr.typeAssert (.iface 94 v) xT 152 true).run Tryz.prog w = .ok (.tuple #[.nilIface, .bool false]) w := run_typeAssert_lacksB Tryz.underlying152 (by kernel_rfl) (by kernel_rfl) v xT w

theorem partsPE (a : Addr) (w : World) : (ReflectliteValue.parts (.agg #[.pointer (some ⟨1, 100, none⟩), .pointer (some a), .int .u64 150])).run Tryz.prog w = .ok (some (100, a, 150)) w := by kernel_rfl
theorem isNilPE (a p : Addr) (W : World) (ha : W.cell? a = some (.pointer (some p))) :
    (ReflectliteValue.method (ReflectliteValue.valueError "reflectlite.Value.IsNil" 0) ReflectliteValue.isNil #[.agg #[.pointer (some ⟨1, 100, none⟩), .pointer (some a), .int .u64 150]]).run Tryz.prog W = .ok (.bool false) W := by
  rw [Er.rlm]
  simp only [Sem.run_bind, partsPE, Result.andThen]
  simp [ReflectliteValue.isNil, loadVar, isAgg, underlying, Tryz.underlying100, ha, Result.andThen]
theorem elemOfPE (w : World) : (Rtype.elem? 100).run Tryz.prog w = .ok (some 74) w := by kernel_rfl
theorem mkE (p : Addr) (w : World) : (ReflectliteValue.mk 74 p ReflectliteValue.flagAddr).run Tryz.prog w = .ok (.agg #[.pointer (some ⟨1, 74, none⟩), .pointer (some p), .int .u64 386]) w := by kernel_rfl
theorem elemVPE (a p : Addr) (W : World) (ha : W.cell? a = some (.pointer (some p))) :
    (ReflectliteValue.method (ReflectliteValue.valueError "reflectlite.Value.Elem" 0) ReflectliteValue.elem #[.agg #[.pointer (some ⟨1, 100, none⟩), .pointer (some a), .int .u64 150]]).run Tryz.prog W
      = .ok (.agg #[.pointer (some ⟨1, 74, none⟩), .pointer (some p), .int .u64 386]) W := by
  rw [Er.rlm]
  simp only [Sem.run_bind, partsPE, Result.andThen]
  simp [ReflectliteValue.elem, loadVar, isAgg, underlying, Tryz.underlying100, ha, Result.andThen, elemOfPE, mkE]
theorem partsEa (a : Addr) (w : World) : (ReflectliteValue.parts (.agg #[.pointer (some ⟨1, 74, none⟩), .pointer (some a), .int .u64 386])).run Tryz.prog w = .ok (some (74, a, 386)) w := by kernel_rfl
theorem partsE (a : Addr) (w : World) : (ReflectliteValue.parts (.agg #[.pointer (some ⟨1, 74, none⟩), .pointer (some a), .int .u64 130])).run Tryz.prog w = .ok (some (74, a, 130)) w := by kernel_rfl
theorem directE (w : World) : (Rtype.directlyAssignable 74 74).run Tryz.prog w = .ok true w := by kernel_rfl
theorem setE (ta b : Addr) (n : Int) (old : Value) (W : World) (hb : W.cell? b = some (.int .i64 n)) (ht : W.cell? ta = some old) (hf : W.frozen? ta = false) :
    (ReflectliteValue.set #[.agg #[.pointer (some ⟨1, 74, none⟩), .pointer (some ta), .int .u64 386], .agg #[.pointer (some ⟨1, 74, none⟩), .pointer (some b), .int .u64 130]]).run Tryz.prog W
      = .ok (.tuple #[]) (W.setCell ta (.int .i64 n)) := by
  rw [Er.rls]
  simp only [Sem.run_bind, partsEa, partsE, Result.andThen]
  simp [ReflectliteValue.flagAddr, loadVar, isAgg, underlying, Tryz.underlying74, hb, Result.andThen, directE, storeVar, Value.cells, storeCells, Addr.add]
  rw [run_store Tryz.prog W ta _ _ (by rfl)]
  simp [ht, hf]
end Nr

def numN (n : Int) : Value := .iface 74 (.int .i64 n)
def lostV (f t n : Int) : Value := .iface 94 (.agg #[.int .i64 f, .int .i64 t, .int .i64 n])
theorem unwrapN (f t n : Int) (w : World) : Calls Tryz.prog 105 #[.agg #[.int .i64 f, .int .i64 t, .int .i64 n]] w fun e w' => e = .returned (.iface 74 (.int .i64 n)) ∧ Ext w w' := by
  go_enter Tryz.func105, Tryz.ntmps105
  go_wp2
  go_ret
  exact ⟨rfl, (Ext.refl w).alloc _⟩

end Go.Proofs.YtigljihohpdpeaaGreatDoor
namespace Go.Proofs.YtigljihohpdpeaaGreatDoor
open Go.RowKit Go.Extern.Stop Go.Stop Go.Extern

set_option maxRecDepth 100000 in
theorem is_lost11 (f t : Int) (w : World) : Calls Tryz.prog 42 #[lostV f t 11, numN 11, .bool true] w fun e w' => e = .returned (.bool true) ∧ Ext w w' := by
  have nP := Nr.noIsB
  have uP := Nr.hasUnwrapB
  have mP := Nr.methodUnwrapB
  have heq := Nr.eqN11
  have hty := run_eql_iface_types (P := Tryz.prog) 94 74 (.agg #[.int .i64 f, .int .i64 t, .int .i64 11]) (.int .i64 11) Tryz.underlying69 (by decide) w
  unfold lostV numN
  go_enter Tryz.func42, Tryz.ntmps42
  go_wp2
  refine wp_loop_rounds 2 ?_
  rw [rounds_succ]
  go_wp2_with (go_at_call 105; refine (unwrapN _ _ _ _).mono ?_; rintro e w1 ⟨rfl, hE1⟩)
  rw [rounds_succ]
  go_wp2
  go_ret
  exact ⟨rfl, hE1⟩
set_option maxRecDepth 100000 in
theorem is_num7 (w : World) : Calls Tryz.prog 42 #[numN 7, numN 11, .bool true] w fun e w' => e = .returned (.bool false) ∧ Ext w w' := by
  have nE := Nr.noIsE
  have uE := Nr.noUnwrapE
  have usE := Nr.noUnwrapsE
  have heq := Nr.eqN7
  unfold numN
  go_enter Tryz.func42, Tryz.ntmps42
  go_wp2
  refine wp_loop_rounds 1 ?_
  rw [rounds_succ]
  go_wp2
  go_ret
  exact ⟨rfl, Ext.refl w⟩
set_option maxRecDepth 100000 in
theorem Is_nilN (n : Int) (w : World) : Calls Tryz.prog 26 #[.nilIface, numN n] w fun e w' => e = .returned (.bool false) ∧ w = w' := by
  have hn := fun w => run_eql_iface_nil_left (P := Tryz.prog) w 74 (.int .i64 n) Tryz.underlying69
  unfold numN
  go_enter Tryz.func26, Tryz.ntmps26
  go_wp2
  go_ret
  exact ⟨rfl, rfl⟩
set_option maxRecDepth 100000 in
theorem Is_lost11 (f t : Int) (w : World) : Calls Tryz.prog 26 #[lostV f t 11, numN 11] w fun e w' => e = .returned (.bool true) ∧ Ext w w' := by
  have h1 := Er.xTypeOf
  have h2 := Er.xComparable
  have h3 := Nr.typeOfE
  have h4 := Nr.comparableE2
  have h5 := Er.methodComparableR
  have hI := fun w => is_lost11 f t w
  have HI := Lib.hid hI
  clear hI
  unfold lostV numN at HI ⊢
  go_enter Tryz.func26, Tryz.ntmps26
  go_wp2_with (go_at_call 42; refine (HI.out _).mono ?_; rintro e w1 ⟨rfl, hE1⟩)
  go_ret
  exact ⟨rfl, hE1⟩
set_option maxRecDepth 100000 in
theorem Is_num7 (w : World) : Calls Tryz.prog 26 #[numN 7, numN 11] w fun e w' => e = .returned (.bool false) ∧ Ext w w' := by
  have h1 := Er.xTypeOf
  have h2 := Er.xComparable
  have h3 := Nr.typeOfE
  have h4 := Nr.comparableE2
  have h5 := Er.methodComparableR
  have hI := fun w => is_num7 w
  have HI := Lib.hid hI
  clear hI
  unfold numN at HI ⊢
  go_enter Tryz.func26, Tryz.ntmps26
  go_wp2_with (go_at_call 42; refine (HI.out _).mono ?_; rintro e w1 ⟨rfl, hE1⟩)
  go_ret
  exact ⟨rfl, hE1⟩
end Go.Proofs.YtigljihohpdpeaaGreatDoor
