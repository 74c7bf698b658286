/-
  errors.Is and errors.As at the net's own errors; told.
  errors.Is and errors.As at the net's own errors; told.
  errors.Is and errors.As at the net's own errors; told.
-/
import Derived.Test.YtjnllilmimngoaaGreatDoorM5
import Derived.Test.YtjnllilmimngoaaGreatDoorM4
namespace Go.Proofs.YtjnllilmimngoaaGreatDoor
open Go.RowKit Go.Extern.Stop Go.Stop Go.Extern

namespace Nr
theorem typeOfE (v : Value) (w : World) : (Extern.ReflectliteType.typeOf #[.iface 110 v]).run Tryz.prog w = .ok (.iface 216 (.agg #[.pointer (some ⟨1, 110, none⟩)])) w := by kernel_rfl
theorem noIsB (v : Value) (xT : TypeId) (w : World) : (Instr.typeAssert (.iface 152 v) xT 218 true).run Tryz.prog w = .ok (.tuple #[.nilIface, .bool false]) w := run_typeAssert_lacksB Tryz.underlying218 (by kernel_rfl) (by kernel_rfl) v xT w
theorem noIsE (v : Value) (xT : TypeId) (w : World) : (Instr.typeAssert (.iface 110 v) xT 218 true).run Tryz.prog w = .ok (.tuple #[.nilIface, .bool false]) w := run_typeAssert_lacksB Tryz.underlying218 (by kernel_rfl) (by kernel_rfl) v xT w
theorem hasUnwrapB (v : Value) (xT : TypeId) (w : World) : (Instr.typeAssert (.iface 152 v) xT 221 true).run Tryz.prog w = .ok (.tuple #[.iface 152 v, .bool true]) w := run_typeAssert_hasB Tryz.underlying221 (by kernel_rfl) v xT w
theorem noUnwrapE (v : Value) (xT : TypeId) (w : World) : (Instr.typeAssert (.iface 110 v) xT 221 true).run Tryz.prog w = .ok (.tuple #[.nilIface, .bool false]) w := run_typeAssert_lacksB Tryz.underlying221 (by kernel_rfl) (by kernel_rfl) v xT w
theorem noUnwrapsE (v : Value) (xT : TypeId) (w : World) : (Instr.typeAssert (.iface 110 v) xT 223 true).run Tryz.prog w = .ok (.tuple #[.nilIface, .bool false]) w := run_typeAssert_lacksB Tryz.underlying223 (by kernel_rfl) (by kernel_rfl) v xT w
theorem methodUnwrapB (v : Value) (w : World) : (Go.method 393 152 v "Unwrap").run Tryz.prog w = .ok (202, v) w := by kernel_rfl
theorem eqN11 (w : World) : (binOp .eql 101 (.iface 110 (.int .i64 11)) (.iface 110 (.int .i64 11))).run Tryz.prog w = .ok (.bool true) w := by kernel_rfl
theorem eqN7 (w : World) : (binOp .eql 101 (.iface 110 (.int .i64 7)) (.iface 110 (.int .i64 11))).run Tryz.prog w = .ok (.bool false) w := by kernel_rfl
theorem comparableE2 (w : World) : ((Extern.ReflectliteType.method fun t => do Rtype.noPackHeld "Comparable" t; (fun a => Value.bool a.comparable) <$> typeInfo t) #[.agg #[.pointer (some ⟨1, 110, none⟩)]]).run Tryz.prog w = .ok (.bool true) w := by kernel_rfl
theorem valueOfPE (t : Addr) (w : World) : (ReflectliteValue.unpack (.iface 149 (.pointer (some t)))).run Tryz.prog w
    = .ok (.agg #[.pointer (some ⟨1, 149, none⟩), .pointer (some ⟨w.heap.size, 0, none⟩), .int .u64 150]) (w.alloc (.cells #[.pointer (some t)] 149)) := by kernel_rfl
theorem valueOfE (n : Int) (w : World) : (ReflectliteValue.unpack (.iface 110 (.int .i64 n))).run Tryz.prog w
    = .ok (.agg #[.pointer (some ⟨1, 110, none⟩), .pointer (some ⟨w.heap.size, 0, none⟩), .int .u64 130]) (w.alloc (.cells #[.int .i64 n] 110)) := by kernel_rfl
theorem typePE (a : Addr) (w : World) : (ReflectliteValue.methodAny (ReflectliteValue.valueError "reflectlite.Value.Type" 0) (fun t _ _ _ => ReflectliteType.toType t) #[.agg #[.pointer (some ⟨1, 149, none⟩), .pointer (some a), .int .u64 150]]).run Tryz.prog w
    = .ok (.iface 216 (.agg #[.pointer (some ⟨1, 149, none⟩)])) w := by kernel_rfl
theorem kindPE (w : World) : ((ReflectliteType.abiMethod fun t => (fun a : Nat => Value.int IntKind.u8 (a : Int)) <$> Rtype.kind t) #[.pointer (some ⟨1, 149, none⟩)]).run Tryz.prog w = .ok (.int .u8 22) w := by kernel_rfl
theorem kindE (w : World) : ((ReflectliteType.abiMethod fun t => (fun a : Nat => Value.int IntKind.u8 (a : Int)) <$> Rtype.kind t) #[.pointer (some ⟨1, 110, none⟩)]).run Tryz.prog w = .ok (.int .u8 2) w := by kernel_rfl
theorem elemPE (w : World) : (ReflectliteType.method ReflectliteType.elem #[.agg #[.pointer (some ⟨1, 149, none⟩)]]).run Tryz.prog w = .ok (.iface 216 (.agg #[.pointer (some ⟨1, 110, none⟩)])) w := by kernel_rfl
theorem implementsE (w : World) : (ReflectliteType.relation "Implements" ReflectliteType.implements_ #[.agg #[.pointer (some ⟨1, 110, none⟩)], .iface 216 (.agg #[.pointer (some ⟨1, 101, none⟩)])]).run Tryz.prog w = .ok (.bool true) w := by kernel_rfl
theorem typeOfB (v : Value) (w : World) : (ReflectliteType.typeOf #[.iface 152 v]).run Tryz.prog w = .ok (.iface 216 (.agg #[.pointer (some ⟨1, 152, none⟩)])) w := by kernel_rfl
theorem assignableE (w : World) : (ReflectliteType.relation "AssignableTo" ReflectliteType.assignableTo #[.agg #[.pointer (some ⟨1, 110, none⟩)], .iface 216 (.agg #[.pointer (some ⟨1, 110, none⟩)])]).run Tryz.prog w = .ok (.bool true) w := by kernel_rfl
theorem assignableB (w : World) : (ReflectliteType.relation "AssignableTo" ReflectliteType.assignableTo #[.agg #[.pointer (some ⟨1, 152, none⟩)], .iface 216 (.agg #[.pointer (some ⟨1, 110, none⟩)])]).run Tryz.prog w = .ok (.bool false) w := by kernel_rfl
theorem noAsB (v : Value) (xT : TypeId) (w : World) : (Instr.typeAssert (.iface 152 v) xT 243 true).run Tryz.prog w = .ok (.tuple #[.nilIface, .bool false]) w := run_typeAssert_lacksB Tryz.underlying243 (by kernel_rfl) (by kernel_rfl) v xT w

theorem partsPE (a : Addr) (w : World) : (ReflectliteValue.parts (.agg #[.pointer (some ⟨1, 149, none⟩), .pointer (some a), .int .u64 150])).run Tryz.prog w = .ok (some (149, a, 150)) w := by kernel_rfl
theorem isNilPE (a p : Addr) (W : World) (ha : W.cell? a = some (.pointer (some p))) :
    (ReflectliteValue.method (ReflectliteValue.valueError "reflectlite.Value.IsNil" 0) ReflectliteValue.isNil #[.agg #[.pointer (some ⟨1, 149, none⟩), .pointer (some a), .int .u64 150]]).run Tryz.prog W = .ok (.bool false) W := by
  rw [Er.rlm]
  simp only [Sem.run_bind, partsPE, Result.andThen]
  simp [ReflectliteValue.isNil, loadVar, isAgg, underlying, Tryz.underlying149, ha, Result.andThen]
theorem elemOfPE (w : World) : (Rtype.elem? 149).run Tryz.prog w = .ok (some 110) w := by kernel_rfl
theorem mkE (p : Addr) (w : World) : (ReflectliteValue.mk 110 p ReflectliteValue.flagAddr).run Tryz.prog w = .ok (.agg #[.pointer (some ⟨1, 110, none⟩), .pointer (some p), .int .u64 386]) w := by kernel_rfl
theorem elemVPE (a p : Addr) (W : World) (ha : W.cell? a = some (.pointer (some p))) :
    (ReflectliteValue.method (ReflectliteValue.valueError "reflectlite.Value.Elem" 0) ReflectliteValue.elem #[.agg #[.pointer (some ⟨1, 149, none⟩), .pointer (some a), .int .u64 150]]).run Tryz.prog W
      = .ok (.agg #[.pointer (some ⟨1, 110, none⟩), .pointer (some p), .int .u64 386]) W := by
  rw [Er.rlm]
  simp only [Sem.run_bind, partsPE, Result.andThen]
  simp [ReflectliteValue.elem, loadVar, isAgg, underlying, Tryz.underlying149, ha, Result.andThen, elemOfPE, mkE]
theorem partsEa (a : Addr) (w : World) : (ReflectliteValue.parts (.agg #[.pointer (some ⟨1, 110, none⟩), .pointer (some a), .int .u64 386])).run Tryz.prog w = .ok (some (110, a, 386)) w := by kernel_rfl
theorem partsE (a : Addr) (w : World) : (ReflectliteValue.parts (.agg #[.pointer (some ⟨1, 110, none⟩), .pointer (some a), .int .u64 130])).run Tryz.prog w = .ok (some (110, a, 130)) w := by kernel_rfl
theorem directE (w : World) : (Rtype.directlyAssignable 110 110).run Tryz.prog w = .ok true w := by kernel_rfl
theorem setE (ta b : Addr) (n : Int) (old : Value) (W : World) (hb : W.cell? b = some (.int .i64 n)) (ht : W.cell? ta = some old) (hf : W.frozen? ta = false) :
    (ReflectliteValue.set #[.agg #[.pointer (some ⟨1, 110, none⟩), .pointer (some ta), .int .u64 386], .agg #[.pointer (some ⟨1, 110, none⟩), .pointer (some b), .int .u64 130]]).run Tryz.prog W
      = .ok (.tuple #[]) (W.setCell ta (.int .i64 n)) := by
  rw [Er.rls]
  simp only [Sem.run_bind, partsEa, partsE, Result.andThen]
  simp [ReflectliteValue.flagAddr, loadVar, isAgg, underlying, Tryz.underlying110, hb, Result.andThen, directE, storeVar, Value.cells, storeCells, Addr.add]
  rw [run_store Tryz.prog W ta _ _ (by rfl)]
  simp [ht, hf]
end Nr

def numN (n : Int) : Value := .iface 110 (.int .i64 n)
def lostV (f t n : Int) : Value := .iface 152 (.agg #[.int .i64 f, .int .i64 t, .int .i64 n])
theorem unwrapN (f t n : Int) (w : World) : Calls Tryz.prog 202 #[.agg #[.int .i64 f, .int .i64 t, .int .i64 n]] w fun e w' => e = .returned (.iface 110 (.int .i64 n)) ∧ Ext w w' := by
  go_enter Tryz.func202, Tryz.ntmps202
  go_wp2
  go_ret
  exact ⟨rfl, (Ext.refl w).alloc _⟩

end Go.Proofs.YtjnllilmimngoaaGreatDoor
namespace Go.Proofs.YtjnllilmimngoaaGreatDoor
open Go.RowKit Go.Extern.Stop Go.Stop Go.Extern

set_option maxRecDepth 100000 in
theorem is_lost11 (f t : Int) (w : World) : Calls Tryz.prog 94 #[lostV f t 11, numN 11, .bool true] w fun e w' => e = .returned (.bool true) ∧ Ext w w' := by
  have nP := Nr.noIsB
  have uP := Nr.hasUnwrapB
  have mP := Nr.methodUnwrapB
  have heq := Nr.eqN11
  have hty := run_eql_iface_types (P := Tryz.prog) 152 110 (.agg #[.int .i64 f, .int .i64 t, .int .i64 11]) (.int .i64 11) Tryz.underlying101 (by decide) w
  unfold lostV numN
  go_enter Tryz.func94, Tryz.ntmps94
  go_wp2
  refine wp_loop_rounds 2 ?_
  rw [rounds_succ]
  go_wp2_with (go_at_call 202; refine (unwrapN _ _ _ _).mono ?_; rintro e w1 ⟨rfl, hE1⟩)
  rw [rounds_succ]
  go_wp2
  go_ret
  exact ⟨rfl, hE1⟩
set_option maxRecDepth 100000 in
theorem is_num7 (w : World) : Calls Tryz.prog 94 #[numN 7, numN 11, .bool true] w fun e w' => e = .returned (.bool false) ∧ Ext w w' := by
  have nE := Nr.noIsE
  have uE := Nr.noUnwrapE
  have usE := Nr.noUnwrapsE
  have heq := Nr.eqN7
  unfold numN
  go_enter Tryz.func94, Tryz.ntmps94
  go_wp2
  refine wp_loop_rounds 1 ?_
  rw [rounds_succ]
  go_wp2
  go_ret
  exact ⟨rfl, Ext.refl w⟩
set_option maxRecDepth 100000 in
theorem Is_nilN (n : Int) (w : World) : Calls Tryz.prog 50 #[.nilIface, numN n] w fun e w' => e = .returned (.bool false) ∧ w = w' := by
  have hn := fun w => run_eql_iface_nil_left (P := Tryz.prog) w 110 (.int .i64 n) Tryz.underlying101
  unfold numN
  go_enter Tryz.func50, Tryz.ntmps50
  go_wp2
  go_ret
  exact ⟨rfl, rfl⟩
set_option maxRecDepth 100000 in
theorem Is_lost11 (f t : Int) (w : World) : Calls Tryz.prog 50 #[lostV f t 11, numN 11] w fun e w' => e = .returned (.bool true) ∧ Ext w w' := by
  have h1 := Er.xTypeOf
  have h2 := Er.xComparable
  have h3 := Nr.typeOfE
  have h4 := Nr.comparableE2
  have h5 := Er.methodComparableR
  have hI := fun w => is_lost11 f t w
  have HI := Lib.hid hI
  clear hI
  unfold lostV numN at HI ⊢
  go_enter Tryz.func50, Tryz.ntmps50
  go_wp2_with (go_at_call 94; refine (HI.out _).mono ?_; rintro e w1 ⟨rfl, hE1⟩)
  go_ret
  exact ⟨rfl, hE1⟩
set_option maxRecDepth 100000 in
theorem Is_num7 (w : World) : Calls Tryz.prog 50 #[numN 7, numN 11] w fun e w' => e = .returned (.bool false) ∧ Ext w w' := by
  have h1 := Er.xTypeOf
  have h2 := Er.xComparable
  have h3 := Nr.typeOfE
  have h4 := Nr.comparableE2
  have h5 := Er.methodComparableR
  have hI := fun w => is_num7 w
  have HI := Lib.hid hI
  clear hI
  unfold numN at HI ⊢
  go_enter Tryz.func50, Tryz.ntmps50
  go_wp2_with (go_at_call 94; refine (HI.out _).mono ?_; rintro e w1 ⟨rfl, hE1⟩)
  go_ret
  exact ⟨rfl, hE1⟩
end Go.Proofs.YtjnllilmimngoaaGreatDoor
namespace Go.Proofs.YtjnllilmimngoaaGreatDoor
open Go.RowKit Go.Extern.Stop Go.Stop Go.Extern

set_option maxRecDepth 100000 in
set_option maxHeartbeats 2000000 in
theorem as_lost (f t : Int) (tb ab : Nat) (old : Value) (w : World) (ha : w.cell? ⟨ab, 0, none⟩ = some (.pointer (some ⟨tb, 0, none⟩))) (ht : w.cell? ⟨tb, 0, none⟩ = some old) (hf : w.frozen? ⟨tb, 0, none⟩ = false) :
    Calls Tryz.prog 137 #[lostV f t 11, .iface 149 (.pointer (some ⟨tb, 0, none⟩)), .agg #[.pointer (some ⟨1, 149, none⟩), .pointer (some ⟨ab, 0, none⟩), .int .u64 150], .iface 216 (.agg #[.pointer (some ⟨1, 110, none⟩)])] w (AsPost tb 11 w) := by
  have x1 := Er.xTypeOf
  have x2 := Er.xAssignable
  have x3 := Er.xElemV
  have x4 := Er.xValueOf
  have x5 := Er.xSet
  have f1 := Nr.typeOfB
  have f2 := Nr.typeOfE
  have f3 := Er.methodAssignableR
  have f4 := Nr.assignableB
  have f5 := Nr.assignableE
  have f6 := Nr.noAsB
  have f7 := Nr.hasUnwrapB
  have f8 := Nr.methodUnwrapB
  have f9 := Nr.valueOfE 11
  have hta : tb < w.heap.size := World.block_lt_of_cell? w _ ht
  have haa : ab < w.heap.size := World.block_lt_of_cell? w _ ha
  have HA := Lib.hid ha
  have HT := Lib.hid ht
  have HF := Lib.hid hf
  clear ha ht hf
  unfold lostV
  go_enter Tryz.func137, Tryz.ntmps137
  go_wp2
  refine wp_loop_rounds 2 ?_
  rw [rounds_succ]
  go_wp2_with (go_at_call 202; refine (unwrapN _ _ _ _).mono ?_; rintro e w1 ⟨rfl, hE1⟩)
  have g0 := hE1.blk (heap_alloc_new w _)
  have r0 := cell_of_heap g0 0
  have r1 := cell_of_heap g0 1
  have r2 := cell_of_heap g0 2
  simp at r0 r1 r2
  have hE2 : Ext w w1 := ((Ext.refl w).alloc _).trans hE1
  have el := Nr.elemVPE ⟨ab, 0, none⟩ ⟨tb, 0, none⟩ w1 (hE2.cell HA.out)
  have st := Nr.setE ⟨tb, 0, none⟩ ⟨w1.heap.size, 0, none⟩ 11 old (w1.alloc (.cells #[.int .i64 11] 110)) (by simp) (((Ext.refl _).alloc _).cell (hE2.cell HT.out)) (((Ext.refl _).alloc _).frozen (Nat.lt_of_lt_of_le hta hE2.sz) (hE2.frozen hta HF.out))
  have HE2 := Lib.hid hE2
  clear g0 hE1 hE2
  rw [rounds_succ]
  go_wp2
  go_ret
  refine ⟨rfl, ?_, ((Fr.ofExt (isB tb) HE2.out).alloc _).set (p := ⟨tb, 0, none⟩) (.inl rfl) _⟩
  rw [cellSet, ((Ext.refl _).alloc _).cell (HE2.out.cell HT.out)]
  rfl

set_option maxRecDepth 100000 in
set_option maxHeartbeats 4000000 in
theorem As_lost (f t : Int) (tb : Nat) (old : Value) (w : World) (hg : ErrT w) (ht : w.cell? ⟨tb, 0, none⟩ = some old) (hf : w.frozen? ⟨tb, 0, none⟩ = false) :
    Calls Tryz.prog 91 #[lostV f t 11, .iface 149 (.pointer (some ⟨tb, 0, none⟩))] w (AsPost tb 11 w) := by
  have x1 := Er.xValueOf
  have x2 := Er.xType
  have x3 := Er.xKind
  have x4 := Er.xIsNil
  have x5 := Er.xElem
  have x6 := Er.xImplements
  have f1 := Nr.valueOfPE ⟨tb, 0, none⟩
  have f2 := Nr.typePE
  have f3 := Er.methodKindR
  have f4 := Nr.kindPE
  have f5 := Er.methodElemR
  have f6 := Nr.elemPE
  have f7 := Nr.kindE
  have f8 := Er.methodImplementsR
  have f9 := Nr.implementsE
  have hta : tb < w.heap.size := World.block_lt_of_cell? w _ ht
  have h0 : 0 < w.heap.size := World.block_lt_of_cell? w _ hg
  have n8 := Nr.isNilPE ⟨w.heap.size, 0, none⟩ ⟨tb, 0, none⟩ ((w.alloc (.cells #[.pointer (some ⟨tb, 0, none⟩)] 149)).alloc (.cells #[.pointer (some ⟨1, 149, none⟩), .pointer (some ⟨w.heap.size, 0, none⟩), .int .u64 150] 208)) (by simp)
  have hg2 := (((Ext.refl w).alloc (.cells #[.pointer (some ⟨tb, 0, none⟩)] 149)).alloc (.cells #[.pointer (some ⟨1, 149, none⟩), .pointer (some ⟨w.heap.size, 0, none⟩), .int .u64 150] 208)).cell hg
  have hEW := ((Ext.refl w).alloc (.cells #[.pointer (some ⟨tb, 0, none⟩)] 149)).alloc (.cells #[.pointer (some ⟨1, 149, none⟩), .pointer (some ⟨w.heap.size, 0, none⟩), .int .u64 150] 208)
  have ht2 := Lib.hid (hEW.cell ht)
  have hf2 := Lib.hid (hEW.frozen hta hf)
  have HEW := Lib.hid hEW
  clear hg ht hf hEW
  have HA := Lib.hid (fun ab => as_lost f t tb ab old)
  unfold lostV at HA ⊢
  go_enter Tryz.func91, Tryz.ntmps91
  go_wp2_with (go_at_call 137; refine (HA.out _ _ (by simp) ht2.out hf2.out).mono ?_; rintro e w1 ⟨rfl, hc, hF⟩; have HC := Lib.hid hc; have HFF := Lib.hid hF; clear hc hF)
  go_ret
  exact ⟨rfl, HC.out, (Fr.ofExt (isB tb) HEW.out).trans HFF.out (fun _ _ h => h)⟩
end Go.Proofs.YtjnllilmimngoaaGreatDoor
