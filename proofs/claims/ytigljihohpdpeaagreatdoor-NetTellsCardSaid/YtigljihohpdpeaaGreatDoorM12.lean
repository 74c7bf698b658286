/-
  errors.Is of what row tells.
  errors.As at the entries' errors: a number is found.
  errors.As at the entries' errors: the walk.
  told, Follows.
-/
import Derived.Test.YtigljihohpdpeaaGreatDoorM11
namespace Go.Proofs.YtigljihohpdpeaaGreatDoor
open Go.RowKit Go.Extern.Stop Go.Stop Go.Extern

namespace Er
theorem comparableE2 (w : World) : ((Extern.ReflectliteType.method fun t => do Rtype.noPackHeld "Comparable" t; (fun a => Value.bool a.comparable) <$> typeInfo t) #[.agg #[.pointer (some ⟨1, 160, none⟩)]]).run Tryz.prog w = .ok (.bool true) w := by kernel_rfl
theorem methodComparableR (v : Value) (w : World) : (Go.method 303 115 v "Comparable").run Tryz.prog w = .ok (108, v) w := by kernel_rfl
end Er

set_option maxRecDepth 100000 in
theorem Is_broken12 (j : Nat) (w : World) : Calls Tryz.prog 26 #[brokenV j 12, numE 12] w fun e w' => e = .returned (.bool true) ∧ Ext w w' := by
  have h1 := Er.xTypeOf
  have h2 := Er.xComparable
  have h3 := Er.typeOfE
  have h4 := Er.comparableE2
  have h5 := Er.methodComparableR
  have hI := fun w => is_broken12 j w
  have HI := Lib.hid hI
  clear hI
  unfold brokenV numE at HI ⊢
  go_enter Tryz.func26, Tryz.ntmps26
  go_wp2_with (go_at_call 42; refine (HI.out _).mono ?_; rintro e w1 ⟨rfl, hE1⟩)
  go_ret
  exact ⟨rfl, hE1⟩
set_option maxRecDepth 100000 in
theorem Is_broken4 (j : Nat) (w : World) : Calls Tryz.prog 26 #[brokenV j 4, numE 12] w fun e w' => e = .returned (.bool false) ∧ Ext w w' := by
  have h1 := Er.xTypeOf
  have h2 := Er.xComparable
  have h3 := Er.typeOfE
  have h4 := Er.comparableE2
  have h5 := Er.methodComparableR
  have hI := fun w => is_broken4 j w
  have HI := Lib.hid hI
  clear hI
  unfold brokenV numE at HI ⊢
  go_enter Tryz.func26, Tryz.ntmps26
  go_wp2_with (go_at_call 42; refine (HI.out _).mono ?_; rintro e w1 ⟨rfl, hE1⟩)
  go_ret
  exact ⟨rfl, hE1⟩
end Go.Proofs.YtigljihohpdpeaaGreatDoor
namespace Go.Proofs.YtigljihohpdpeaaGreatDoor
open Go.RowKit Go.Extern.Stop Go.Stop Go.Extern

namespace Er
theorem valueOfPE (t : Addr) (w : World) : (ReflectliteValue.unpack (.iface 168 (.pointer (some t)))).run Tryz.prog w
    = .ok (.agg #[.pointer (some ⟨1, 168, none⟩), .pointer (some ⟨w.heap.size, 0, none⟩), .int .u64 150]) (w.alloc (.cells #[.pointer (some t)] 168)) := by kernel_rfl
theorem valueOfE (n : Int) (w : World) : (ReflectliteValue.unpack (.iface 160 (.int .i64 n))).run Tryz.prog w
    = .ok (.agg #[.pointer (some ⟨1, 160, none⟩), .pointer (some ⟨w.heap.size, 0, none⟩), .int .u64 130]) (w.alloc (.cells #[.int .i64 n] 160)) := by kernel_rfl
theorem typePE (a : Addr) (w : World) : (ReflectliteValue.methodAny (ReflectliteValue.valueError "reflectlite.Value.Type" 0) (fun t _ _ _ => ReflectliteType.toType t) #[.agg #[.pointer (some ⟨1, 168, none⟩), .pointer (some a), .int .u64 150]]).run Tryz.prog w
    = .ok (.iface 115 (.agg #[.pointer (some ⟨1, 168, none⟩)])) w := by kernel_rfl
theorem methodKindR (h : Value) (w : World) : (Go.method 303 115 (.agg #[h]) "Kind").run Tryz.prog w = .ok (99, h) w := by kernel_rfl
theorem methodElemR (h : Value) (w : World) : (Go.method 303 115 (.agg #[h]) "Elem").run Tryz.prog w = .ok (109, .agg #[h]) w := by kernel_rfl
theorem methodImplementsR (h : Value) (w : World) : (Go.method 303 115 (.agg #[h]) "Implements").run Tryz.prog w = .ok (110, .agg #[h]) w := by kernel_rfl
theorem methodAssignableR (h : Value) (w : World) : (Go.method 303 115 (.agg #[h]) "AssignableTo").run Tryz.prog w = .ok (107, .agg #[h]) w := by kernel_rfl
theorem kindPE (w : World) : ((ReflectliteType.abiMethod fun t => (fun a : Nat => Value.int IntKind.u8 (a : Int)) <$> Rtype.kind t) #[.pointer (some ⟨1, 168, none⟩)]).run Tryz.prog w = .ok (.int .u8 22) w := by kernel_rfl
theorem kindE (w : World) : ((ReflectliteType.abiMethod fun t => (fun a : Nat => Value.int IntKind.u8 (a : Int)) <$> Rtype.kind t) #[.pointer (some ⟨1, 160, none⟩)]).run Tryz.prog w = .ok (.int .u8 2) w := by kernel_rfl
theorem elemPE (w : World) : (ReflectliteType.method ReflectliteType.elem #[.agg #[.pointer (some ⟨1, 168, none⟩)]]).run Tryz.prog w = .ok (.iface 115 (.agg #[.pointer (some ⟨1, 160, none⟩)])) w := by kernel_rfl
theorem implementsE (w : World) : (ReflectliteType.relation "Implements" ReflectliteType.implements_ #[.agg #[.pointer (some ⟨1, 160, none⟩)], .iface 115 (.agg #[.pointer (some ⟨1, 69, none⟩)])]).run Tryz.prog w = .ok (.bool true) w := by kernel_rfl
theorem typeOfB (v : Value) (w : World) : (ReflectliteType.typeOf #[.iface 167 v]).run Tryz.prog w = .ok (.iface 115 (.agg #[.pointer (some ⟨1, 167, none⟩)])) w := by kernel_rfl
theorem assignableE (w : World) : (ReflectliteType.relation "AssignableTo" ReflectliteType.assignableTo #[.agg #[.pointer (some ⟨1, 160, none⟩)], .iface 115 (.agg #[.pointer (some ⟨1, 160, none⟩)])]).run Tryz.prog w = .ok (.bool true) w := by kernel_rfl
theorem assignableB (w : World) : (ReflectliteType.relation "AssignableTo" ReflectliteType.assignableTo #[.agg #[.pointer (some ⟨1, 167, none⟩)], .iface 115 (.agg #[.pointer (some ⟨1, 160, none⟩)])]).run Tryz.prog w = .ok (.bool false) w := by kernel_rfl
theorem noAsB (v : Value) (xT : TypeId) (w : World) : (Instr.typeAssert (.iface 167 v) xT 152 true).run Tryz.prog w = .ok (.tuple #[.nilIface, .bool false]) w := run_typeAssert_lacksB Tryz.underlying152 (by kernel_rfl) (by kernel_rfl) v xT w

theorem rlm (z : Sem Value) (f : TypeId → Addr → Nat → Nat → Sem Value) (v : Value) :
    ReflectliteValue.method z f #[v] = (do match ← ReflectliteValue.parts v with | none => z | some (t, a, fl) => f t a fl (fl % 32)) := rfl
theorem partsPE (a : Addr) (w : World) : (ReflectliteValue.parts (.agg #[.pointer (some ⟨1, 168, none⟩), .pointer (some a), .int .u64 150])).run Tryz.prog w = .ok (some (168, a, 150)) w := by kernel_rfl
theorem isNilPE (a p : Addr) (W : World) (ha : W.cell? a = some (.pointer (some p))) :
    (ReflectliteValue.method (ReflectliteValue.valueError "reflectlite.Value.IsNil" 0) ReflectliteValue.isNil #[.agg #[.pointer (some ⟨1, 168, none⟩), .pointer (some a), .int .u64 150]]).run Tryz.prog W = .ok (.bool false) W := by
  rw [rlm]
  simp only [Sem.run_bind, partsPE, Result.andThen]
  simp [ReflectliteValue.isNil, loadVar, isAgg, underlying, Tryz.underlying168, ha, Result.andThen]
theorem elemOfPE (w : World) : (Rtype.elem? 168).run Tryz.prog w = .ok (some 160) w := by kernel_rfl
theorem mkE (p : Addr) (w : World) : (ReflectliteValue.mk 160 p ReflectliteValue.flagAddr).run Tryz.prog w = .ok (.agg #[.pointer (some ⟨1, 160, none⟩), .pointer (some p), .int .u64 386]) w := by kernel_rfl
theorem elemVPE (a p : Addr) (W : World) (ha : W.cell? a = some (.pointer (some p))) :
    (ReflectliteValue.method (ReflectliteValue.valueError "reflectlite.Value.Elem" 0) ReflectliteValue.elem #[.agg #[.pointer (some ⟨1, 168, none⟩), .pointer (some a), .int .u64 150]]).run Tryz.prog W
      = .ok (.agg #[.pointer (some ⟨1, 160, none⟩), .pointer (some p), .int .u64 386]) W := by
  rw [rlm]
  simp only [Sem.run_bind, partsPE, Result.andThen]
  simp [ReflectliteValue.elem, loadVar, isAgg, underlying, Tryz.underlying168, ha, Result.andThen, elemOfPE, mkE]
theorem rls (v x : Value) : ReflectliteValue.set #[v, x] = (do
    let (some (dst, a, fl), some (src, b, _)) := (← ReflectliteValue.parts v, ← ReflectliteValue.parts x)
      | unsupported (.noEntry "extern/(internal/reflectlite.Value).Set.zeroValue")
    if fl / ReflectliteValue.flagAddr % 2 == 0 then unsupported (.noEntry "extern/(internal/reflectlite.Value).Set.unaddressable")
    let val ← loadVar src b
    if ← Rtype.directlyAssignable dst src then storeVar dst a val
    else if ← Rtype.implements dst src then
      if (← Rtype.kind src) == 20 then
        match val with
        | .nilIface => unsupported (.noEntry "extern/reflectlite: a nil value of one interface type handed on as a value of another")
        | _ => storeVar dst a val
      else storeVar dst a (.iface src val)
    else panicString ("reflectlite.Set: value of type " ++ (← Rtype.spelt src) ++ " is not assignable to type " ++ (← Rtype.spelt dst))
    pure (.tuple #[])) := rfl
theorem partsEa (a : Addr) (w : World) : (ReflectliteValue.parts (.agg #[.pointer (some ⟨1, 160, none⟩), .pointer (some a), .int .u64 386])).run Tryz.prog w = .ok (some (160, a, 386)) w := by kernel_rfl
theorem partsE (a : Addr) (w : World) : (ReflectliteValue.parts (.agg #[.pointer (some ⟨1, 160, none⟩), .pointer (some a), .int .u64 130])).run Tryz.prog w = .ok (some (160, a, 130)) w := by kernel_rfl
theorem directE (w : World) : (Rtype.directlyAssignable 160 160).run Tryz.prog w = .ok true w := by kernel_rfl
theorem setE (ta b : Addr) (n : Int) (old : Value) (W : World) (hb : W.cell? b = some (.int .i64 n)) (ht : W.cell? ta = some old) (hf : W.frozen? ta = false) :
    (ReflectliteValue.set #[.agg #[.pointer (some ⟨1, 160, none⟩), .pointer (some ta), .int .u64 386], .agg #[.pointer (some ⟨1, 160, none⟩), .pointer (some b), .int .u64 130]]).run Tryz.prog W
      = .ok (.tuple #[]) (W.setCell ta (.int .i64 n)) := by
  rw [rls]
  simp only [Sem.run_bind, partsEa, partsE, Result.andThen]
  simp [ReflectliteValue.flagAddr, loadVar, isAgg, underlying, Tryz.underlying160, hb, Result.andThen, directE, storeVar, Value.cells, storeCells, Addr.add]
  rw [run_store Tryz.prog W ta _ _ (by rfl)]
  simp [ht, hf]
end Er

theorem As_nil (t : Value) (w : World) :
    Calls Tryz.prog 43 #[.nilIface, t] w fun e w' => e = .returned (.bool false) ∧ w = w' := by
  go_enter Tryz.func43, Tryz.ntmps43
  go_wp2
  go_ret
  exact ⟨rfl, rfl⟩
end Go.Proofs.YtigljihohpdpeaaGreatDoor
namespace Go.Proofs.YtigljihohpdpeaaGreatDoor
open Go.RowKit Go.Extern.Stop Go.Stop Go.Extern

def AsPost (tb : Nat) (n : Int) (w : World) (e : Ending) (w' : World) : Prop := e = .returned (.bool true) ∧ w'.cell? ⟨tb, 0, none⟩ = some (.int .i64 n) ∧ Fr (isB tb) w w'

set_option maxRecDepth 100000 in
set_option maxHeartbeats 2000000 in
theorem as_broken4 (j tb ab : Nat) (old : Value) (w : World) (ha : w.cell? ⟨ab, 0, none⟩ = some (.pointer (some ⟨tb, 0, none⟩))) (ht : w.cell? ⟨tb, 0, none⟩ = some old) (hf : w.frozen? ⟨tb, 0, none⟩ = false) :
    Calls Tryz.prog 57 #[brokenV j 4, .iface 168 (.pointer (some ⟨tb, 0, none⟩)), .agg #[.pointer (some ⟨1, 168, none⟩), .pointer (some ⟨ab, 0, none⟩), .int .u64 150], .iface 115 (.agg #[.pointer (some ⟨1, 160, none⟩)])] w (AsPost tb 4 w) := by
  have x1 := Er.xTypeOf
  have x2 := Er.xAssignable
  have x3 := Er.xElemV
  have x4 := Er.xValueOf
  have x5 := Er.xSet
  have f1 := Er.typeOfB
  have f2 := Er.typeOfE
  have f3 := Er.methodAssignableR
  have f4 := Er.assignableB
  have f5 := Er.assignableE
  have f6 := Er.noAsB
  have f7 := Er.hasUnwrapB
  have f8 := Er.methodUnwrapB
  have f9 := Er.valueOfE 4
  have hta : tb < w.heap.size := World.block_lt_of_cell? w _ ht
  have haa : ab < w.heap.size := World.block_lt_of_cell? w _ ha
  have HA := Lib.hid ha
  have HT := Lib.hid ht
  have HF := Lib.hid hf
  clear ha ht hf
  unfold brokenV
  go_enter Tryz.func57, Tryz.ntmps57
  go_wp2
  refine wp_loop_rounds 2 ?_
  rw [rounds_succ]
  go_wp2_with (go_at_call 126; refine (unwrapB _ _ _ rfl).mono ?_; rintro e w1 ⟨rfl, hE1⟩)
  have g0 := hE1.blk (heap_alloc_new w _)
  have r0 := cell_of_heap g0 0
  have r1 := cell_of_heap g0 1
  have r2 := cell_of_heap g0 2
  simp at r0 r1 r2
  have hE2 : Ext w w1 := ((Ext.refl w).alloc _).trans hE1
  have el := Er.elemVPE ⟨ab, 0, none⟩ ⟨tb, 0, none⟩ w1 (hE2.cell HA.out)
  have st := Er.setE ⟨tb, 0, none⟩ ⟨w1.heap.size, 0, none⟩ 4 old (w1.alloc (.cells #[.int .i64 4] 160)) (by simp) (((Ext.refl _).alloc _).cell (hE2.cell HT.out)) (((Ext.refl _).alloc _).frozen (Nat.lt_of_lt_of_le hta hE2.sz) (hE2.frozen hta HF.out))
  have HE2 := Lib.hid hE2
  clear g0 hE1 hE2
  rw [rounds_succ]
  go_wp2
  go_ret
  refine ⟨rfl, ?_, ((Fr.ofExt (isB tb) HE2.out).alloc _).set (p := ⟨tb, 0, none⟩) (.inl rfl) _⟩
  rw [cellSet, ((Ext.refl _).alloc _).cell (HE2.out.cell HT.out)]
  rfl

def ErrT (w : World) : Prop := w.cell? ⟨0, 0, none⟩ = some (.iface 115 (.agg #[.pointer (some ⟨1, 69, none⟩)]))
theorem ErrT.ext {w w' : World} (h : ErrT w) (he : Ext w w') : ErrT w' := he.cell h
set_option maxRecDepth 100000 in
set_option maxHeartbeats 4000000 in
theorem As_broken4 (j tb : Nat) (old : Value) (w : World) (hg : ErrT w) (ht : w.cell? ⟨tb, 0, none⟩ = some old) (hf : w.frozen? ⟨tb, 0, none⟩ = false) :
    Calls Tryz.prog 43 #[brokenV j 4, .iface 168 (.pointer (some ⟨tb, 0, none⟩))] w (AsPost tb 4 w) := by
  have x1 := Er.xValueOf
  have x2 := Er.xType
  have x3 := Er.xKind
  have x4 := Er.xIsNil
  have x5 := Er.xElem
  have x6 := Er.xImplements
  have f1 := Er.valueOfPE ⟨tb, 0, none⟩
  have f2 := Er.typePE
  have f3 := Er.methodKindR
  have f4 := Er.kindPE
  have f5 := Er.methodElemR
  have f6 := Er.elemPE
  have f7 := Er.kindE
  have f8 := Er.methodImplementsR
  have f9 := Er.implementsE
  have hta : tb < w.heap.size := World.block_lt_of_cell? w _ ht
  have h0 : 0 < w.heap.size := World.block_lt_of_cell? w _ hg
  have n8 := Er.isNilPE ⟨w.heap.size, 0, none⟩ ⟨tb, 0, none⟩ ((w.alloc (.cells #[.pointer (some ⟨tb, 0, none⟩)] 168)).alloc (.cells #[.pointer (some ⟨1, 168, none⟩), .pointer (some ⟨w.heap.size, 0, none⟩), .int .u64 150] 128)) (by simp)
  have hg2 := (((Ext.refl w).alloc (.cells #[.pointer (some ⟨tb, 0, none⟩)] 168)).alloc (.cells #[.pointer (some ⟨1, 168, none⟩), .pointer (some ⟨w.heap.size, 0, none⟩), .int .u64 150] 128)).cell hg
  have hEW := ((Ext.refl w).alloc (.cells #[.pointer (some ⟨tb, 0, none⟩)] 168)).alloc (.cells #[.pointer (some ⟨1, 168, none⟩), .pointer (some ⟨w.heap.size, 0, none⟩), .int .u64 150] 128)
  have ht2 := Lib.hid (hEW.cell ht)
  have hf2 := Lib.hid (hEW.frozen hta hf)
  have HEW := Lib.hid hEW
  clear hg ht hf hEW
  have HA := Lib.hid (fun ab => as_broken4 j tb ab old)
  unfold brokenV at HA ⊢
  go_enter Tryz.func43, Tryz.ntmps43
  go_wp2_with (go_at_call 57; refine (HA.out _ _ (by simp) ht2.out hf2.out).mono ?_; rintro e w1 ⟨rfl, hc, hF⟩; have HC := Lib.hid hc; have HFF := Lib.hid hF; clear hc hF)
  go_ret
  exact ⟨rfl, HC.out, (Fr.ofExt (isB tb) HEW.out).trans HFF.out (fun _ _ h => h)⟩
end Go.Proofs.YtigljihohpdpeaaGreatDoor
namespace Go.Proofs.YtigljihohpdpeaaGreatDoor
open Go.RowKit

theorem told_nil (w : World) : Calls Tryz.prog 73 #[.nilIface] w fun e w' => e = .returned (.int .i64 0) ∧ Ext w w' := by
  go_enter Tryz.func73, Tryz.ntmps73
  go_wp2_with (go_at_call 43; refine (As_nil _ _).mono ?_; rintro e w' ⟨rfl, rfl⟩)
  go_ret
  exact ⟨rfl, (Ext.refl w).alloc _⟩
set_option maxRecDepth 100000 in
theorem told_4 (j : Nat) (w : World) (hg : ErrT w) : Calls Tryz.prog 73 #[brokenV j 4] w fun e w' => e = .returned (.int .i64 4) ∧ Ext w w' := by
  have HA := Lib.hid (fun tb old => As_broken4 j tb old)
  have HG := Lib.hid (hg.ext ((Ext.refl w).alloc (.cells #[.int .i64 0] 160)))
  clear hg
  unfold brokenV at HA ⊢
  go_enter Tryz.func73, Tryz.ntmps73
  go_wp2_with (go_at_call 43; refine (HA.out _ _ _ HG.out (cell_of_heap (heap_alloc_new w _) 0) (frozen_of_heap (heap_alloc_new w _) 0)).mono ?_; rintro e w1 ⟨rfl, hc, hF⟩; have HFF := Lib.hid hF; clear hF)
  go_ret
  exact ⟨rfl, ((Fr.ofExt (isB w.heap.size) ((Ext.refl w).alloc _)).trans HFF.out (fun _ _ h => h)).toExt (fun i hi => by unfold isB at hi; omega)⟩

theorem meetsN_cases (a : Id) (e : Ent) : meetsN a e = 0 ∨ meetsN a e = 4 ∨ meetsN a e = 12 := by
  unfold meetsN
  by_cases h1 : e.good = false
  · rw [if_pos h1]; simp
  · rw [if_neg h1]
    by_cases h2 : e.i - 1 = a.i ∧ a.t ≤ e.t
    · rw [if_pos h2]; simp
    · rw [if_neg h2]; simp
def followsN (a : Id) (es : List Ent) : Int := match rowE a 0 es with
  | none => 0
  | some (_, n) => n
theorem rowE_cases (a : Id) (j : Nat) (es : List Ent) : rowE a j es = none ∨ (∃ k, rowE a j es = some (k, 4)) ∨ ∃ k, rowE a j es = some (k, 12) := by
  induction es generalizing a j with
  | nil => exact .inl rfl
  | cons e es ih =>
    unfold rowE
    rcases meetsN_cases a e with h | h | h
    · rw [if_pos h]; exact ih _ _
    · rw [h]; exact .inr (.inl ⟨j, rfl⟩)
    · rw [h]; exact .inr (.inr ⟨j, rfl⟩)

set_option maxRecDepth 100000 in
set_option maxHeartbeats 1000000 in
theorem follows_any (p : Id) (A : Option Addr) (c : Nat) (es : List Ent) (w : World) (hA : EntsIn w A es) (hl : es.length ≤ maxLen) (hg : ErrT w) :
    Calls Tryz.prog 60 #[p.v, .slice A es.length c] w fun ev w' => ev = .returned (.int .i64 (followsN p es)) ∧ Ext w w' := by
  have HROW := Lib.hid (fun cb w' (h1 : Ext w w') (h2 : w.heap.size ≤ cb) => erow_any w cb p A c es w' h1 h2 hA hl)
  have HG := Lib.hid hg
  have HE2 := Lib.hid (((Ext.refl w).alloc (.cells #[.int .i64 p.i, .int .i64 p.t, .int .i64 p.k] 35)).alloc (.cells #[.int .i64 p.i, .int .i64 p.t, .int .i64 p.k] 159))
  have HB2 := Lib.hid (heap1 w (.cells #[.int .i64 p.i, .int .i64 p.t, .int .i64 p.k] 35) (.cells #[.int .i64 p.i, .int .i64 p.t, .int .i64 p.k] 159))
  clear hA hl hg
  rcases rowE_cases p 0 es with h | ⟨k, h⟩ | ⟨k, h⟩
  · have RV : Hid (rowV (rowE p 0 es) = .nilIface) := Lib.hid (by rw [h]; rfl)
    have hv : Hid (followsN p es = 0) := Lib.hid (by simp [followsN, h])
    clear h
    rw [hv.out]
    have HI := Lib.hid (fun w => Is_nilE 12 w)
    unfold numE at HI
    unfold Id.v idV
    go_enter Tryz.func60, Tryz.ntmps60
    go_wp2_with fail
    refine (HROW.out _ _ HE2.out (by simp) HB2.out).mono ?_
    rintro ev w1 ⟨rfl, hE1⟩
    rw [RV.out]
    have HE1 := Lib.hid hE1
    clear hE1
    go_wp2_with (first | (go_at_call 26; refine (HI.out _).mono ?_; rintro e w' ⟨rfl, rfl⟩) | (go_at_call 73; refine (told_nil _).mono ?_; rintro e w2 ⟨rfl, hE2⟩))
    go_ret
    exact ⟨rfl, HE1.out.trans hE2⟩
  · have RV : Hid (rowV (rowE p 0 es) = brokenV k 4) := Lib.hid (by rw [h]; rfl)
    have hv : Hid (followsN p es = 4) := Lib.hid (by simp [followsN, h])
    clear h
    rw [hv.out]
    have HI := Lib.hid (fun w => Is_broken4 k w)
    have HTD := Lib.hid (fun w => told_4 k w)
    unfold numE brokenV at HI
    unfold brokenV at HTD
    unfold Id.v idV
    go_enter Tryz.func60, Tryz.ntmps60
    go_wp2_with fail
    refine (HROW.out _ _ HE2.out (by simp) HB2.out).mono ?_
    rintro ev w1 ⟨rfl, hE1⟩
    rw [RV.out]
    unfold brokenV
    have HE1 := Lib.hid hE1
    clear hE1
    go_wp2_with fail
    refine (HI.out _).mono ?_
    rintro e w2 ⟨rfl, hE2⟩
    have HE22 := Lib.hid (HE1.out.trans hE2)
    clear hE2
    go_wp2_with fail
    refine (HTD.out _ (HG.out.ext HE22.out)).mono ?_
    rintro e w3 ⟨rfl, hE3⟩
    go_wp2
    go_ret
    exact ⟨rfl, HE22.out.trans hE3⟩
  · have RV : Hid (rowV (rowE p 0 es) = brokenV k 12) := Lib.hid (by rw [h]; rfl)
    have hv : Hid (followsN p es = 12) := Lib.hid (by simp [followsN, h])
    clear h
    rw [hv.out]
    have HI := Lib.hid (fun w => Is_broken12 k w)
    unfold numE brokenV at HI
    unfold Id.v idV
    go_enter Tryz.func60, Tryz.ntmps60
    go_wp2_with fail
    refine (HROW.out _ _ HE2.out (by simp) HB2.out).mono ?_
    rintro ev w1 ⟨rfl, hE1⟩
    rw [RV.out]
    unfold brokenV
    have HE1 := Lib.hid hE1
    clear hE1
    go_wp2_with fail
    refine (HI.out _).mono ?_
    rintro e w2 ⟨rfl, hE2⟩
    have HE22 := Lib.hid (HE1.out.trans hE2)
    clear hE2
    go_wp2
    go_ret
    exact ⟨rfl, HE22.out⟩
end Go.Proofs.YtigljihohpdpeaaGreatDoor
