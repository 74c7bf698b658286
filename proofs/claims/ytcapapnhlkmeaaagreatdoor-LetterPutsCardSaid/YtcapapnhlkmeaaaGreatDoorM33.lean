/-
  errors.As finds the part of a letter that is not right.
-/
import Derived.Test.YtcapapnhlkmeaaaGreatDoorM24
namespace Go.Proofs.YtcapapnhlkmeaaaGreatDoor
open Go.RowKit Go.Extern.Stop Go.Stop Go.Extern

namespace Er
theorem valueOfPP (t : Addr) (w : World) : (ReflectliteValue.unpack (.iface 58 (.pointer (some t)))).run Tryz.prog w
    = .ok (.agg #[.pointer (some ⟨1, 58, none⟩), .pointer (some ⟨w.heap.size, 0, none⟩), .int .u64 150]) (w.alloc (.cells #[.pointer (some t)] 58)) := by kernel_rfl
theorem valueOfP (s : ByteArray) (n : Int) (w : World) : (ReflectliteValue.unpack (.iface 53 (.agg #[.string s, .int .i64 n]))).run Tryz.prog w
    = .ok (.agg #[.pointer (some ⟨1, 53, none⟩), .pointer (some ⟨w.heap.size, 0, none⟩), .int .u64 153]) (w.alloc (.cells #[.string s, .int .i64 n] 53)) := by kernel_rfl
theorem typePP (a : Addr) (w : World) : (ReflectliteValue.methodAny (ReflectliteValue.valueError "reflectlite.Value.Type" 0) (fun t _ _ _ => ReflectliteType.toType t) #[.agg #[.pointer (some ⟨1, 58, none⟩), .pointer (some a), .int .u64 150]]).run Tryz.prog w
    = .ok (.iface 169 (.agg #[.pointer (some ⟨1, 58, none⟩)])) w := by kernel_rfl
theorem kindPP (w : World) : ((ReflectliteType.abiMethod fun t => (fun a : Nat => Value.int IntKind.u8 (a : Int)) <$> Rtype.kind t) #[.pointer (some ⟨1, 58, none⟩)]).run Tryz.prog w = .ok (.int .u8 22) w := by kernel_rfl
theorem kindP (w : World) : ((ReflectliteType.abiMethod fun t => (fun a : Nat => Value.int IntKind.u8 (a : Int)) <$> Rtype.kind t) #[.pointer (some ⟨1, 53, none⟩)]).run Tryz.prog w = .ok (.int .u8 25) w := by kernel_rfl
theorem elemPP (w : World) : (ReflectliteType.method ReflectliteType.elem #[.agg #[.pointer (some ⟨1, 58, none⟩)]]).run Tryz.prog w = .ok (.iface 169 (.agg #[.pointer (some ⟨1, 53, none⟩)])) w := by kernel_rfl
theorem implementsP (w : World) : (ReflectliteType.relation "Implements" ReflectliteType.implements_ #[.agg #[.pointer (some ⟨1, 53, none⟩)], .iface 169 (.agg #[.pointer (some ⟨1, 56, none⟩)])]).run Tryz.prog w = .ok (.bool true) w := by kernel_rfl
theorem typeOfP (v : Value) (w : World) : (ReflectliteType.typeOf #[.iface 53 v]).run Tryz.prog w = .ok (.iface 169 (.agg #[.pointer (some ⟨1, 53, none⟩)])) w := by kernel_rfl
theorem typeOfJ (v : Value) (w : World) : (ReflectliteType.typeOf #[.iface 184 v]).run Tryz.prog w = .ok (.iface 169 (.agg #[.pointer (some ⟨1, 184, none⟩)])) w := by kernel_rfl
theorem assignableP (w : World) : (ReflectliteType.relation "AssignableTo" ReflectliteType.assignableTo #[.agg #[.pointer (some ⟨1, 53, none⟩)], .iface 169 (.agg #[.pointer (some ⟨1, 53, none⟩)])]).run Tryz.prog w = .ok (.bool true) w := by kernel_rfl
theorem assignableJ (w : World) : (ReflectliteType.relation "AssignableTo" ReflectliteType.assignableTo #[.agg #[.pointer (some ⟨1, 184, none⟩)], .iface 169 (.agg #[.pointer (some ⟨1, 53, none⟩)])]).run Tryz.prog w = .ok (.bool false) w := by kernel_rfl
theorem noAsJ (v : Value) (xT : TypeId) (w : World) : (Instr.typeAssert (.iface 184 v) xT 173 true).run Tryz.prog w = .ok (.tuple #[.nilIface, .bool false]) w := run_typeAssert_lacksB Tryz.underlying173 (by kernel_rfl) (by kernel_rfl) v xT w
theorem partsPP (a : Addr) (w : World) : (ReflectliteValue.parts (.agg #[.pointer (some ⟨1, 58, none⟩), .pointer (some a), .int .u64 150])).run Tryz.prog w = .ok (some (58, a, 150)) w := by kernel_rfl
theorem isNilPP (a p : Addr) (W : World) (ha : W.cell? a = some (.pointer (some p))) :
    (ReflectliteValue.method (ReflectliteValue.valueError "reflectlite.Value.IsNil" 0) ReflectliteValue.isNil #[.agg #[.pointer (some ⟨1, 58, none⟩), .pointer (some a), .int .u64 150]]).run Tryz.prog W = .ok (.bool false) W := by
  rw [rlm]
  simp only [Sem.run_bind, partsPP, Result.andThen]
  simp [ReflectliteValue.isNil, loadVar, isAgg, underlying, Tryz.underlying58, ha, Result.andThen]
theorem elemOfPP (w : World) : (Rtype.elem? 58).run Tryz.prog w = .ok (some 53) w := by kernel_rfl
theorem mkP (p : Addr) (w : World) : (ReflectliteValue.mk 53 p ReflectliteValue.flagAddr).run Tryz.prog w = .ok (.agg #[.pointer (some ⟨1, 53, none⟩), .pointer (some p), .int .u64 409]) w := by kernel_rfl
theorem elemVPP (a p : Addr) (W : World) (ha : W.cell? a = some (.pointer (some p))) :
    (ReflectliteValue.method (ReflectliteValue.valueError "reflectlite.Value.Elem" 0) ReflectliteValue.elem #[.agg #[.pointer (some ⟨1, 58, none⟩), .pointer (some a), .int .u64 150]]).run Tryz.prog W
      = .ok (.agg #[.pointer (some ⟨1, 53, none⟩), .pointer (some p), .int .u64 409]) W := by
  rw [rlm]
  simp only [Sem.run_bind, partsPP, Result.andThen]
  simp [ReflectliteValue.elem, loadVar, isAgg, underlying, Tryz.underlying58, ha, Result.andThen, elemOfPP, mkP]
theorem partsPa (a : Addr) (w : World) : (ReflectliteValue.parts (.agg #[.pointer (some ⟨1, 53, none⟩), .pointer (some a), .int .u64 409])).run Tryz.prog w = .ok (some (53, a, 409)) w := by kernel_rfl
theorem partsPv (a : Addr) (w : World) : (ReflectliteValue.parts (.agg #[.pointer (some ⟨1, 53, none⟩), .pointer (some a), .int .u64 153])).run Tryz.prog w = .ok (some (53, a, 153)) w := by kernel_rfl
theorem directP (w : World) : (Rtype.directlyAssignable 53 53).run Tryz.prog w = .ok true w := by kernel_rfl
theorem infoPart : (Tryz.prog.info? 53).map (·.size) = some 2 := by kernel_rfl
theorem setP (ta b : Nat) (s : ByteArray) (n : Int) (o1 o2 : Value) (W : World) (hb : W.heap[b]? = some (.cells #[.string s, .int .i64 n] 53)) (ht : W.heap[ta]? = some (.cells #[o1, o2] 53)) :
    ∃ W', (ReflectliteValue.set #[.agg #[.pointer (some ⟨1, 53, none⟩), .pointer (some ⟨ta, 0, none⟩), .int .u64 409], .agg #[.pointer (some ⟨1, 53, none⟩), .pointer (some ⟨b, 0, none⟩), .int .u64 153]]).run Tryz.prog W
      = .ok (.tuple #[]) W' ∧ W'.heap[ta]? = some (.cells #[.string s, .int .i64 n] 53) ∧ Fr (isB ta) W W' := by
  obtain ⟨W', g1, g2, g3⟩ := storeVar_row 53 W ta 2 #[o1, o2] #[.string s, .int .i64 n] ht infoPart rfl rfl (by intro v hv; simp at hv; rcases hv with rfl | rfl <;> rfl)
  refine ⟨W', ?_, g2, g3⟩
  rw [rls]
  have hl := run_loadVar_row (P := Tryz.prog) W b _ 53 _ (0, 0) _ hb Tryz.underlying53 rfl infoPart
  simp only [Sem.run_bind, partsPa, partsPv, Result.andThen]
  simp [ReflectliteValue.flagAddr, hl, Result.andThen, directP, g1]
end Er

def AsPart (tb : Nat) (w : World) (e : Ending) (w' : World) : Prop := e = .returned (.bool true) ∧ (∃ s, w'.heap[tb]? = some (.cells #[.string s, .int .i64 2] 53)) ∧ Fr (isB tb) w w'

set_option maxRecDepth 100000 in
set_option maxHeartbeats 2000000 in
theorem as_part (s : ByteArray) (tb ab : Nat) (o1 o2 : Value) (w : World) (ha : w.cell? ⟨ab, 0, none⟩ = some (.pointer (some ⟨tb, 0, none⟩))) (ht : w.heap[tb]? = some (.cells #[o1, o2] 53)) :
    Calls Tryz.prog 59 #[partV s, .iface 58 (.pointer (some ⟨tb, 0, none⟩)), .agg #[.pointer (some ⟨1, 58, none⟩), .pointer (some ⟨ab, 0, none⟩), .int .u64 150], .iface 169 (.agg #[.pointer (some ⟨1, 53, none⟩)])] w (AsPart tb w) := by
  have x1 := Er.xTypeOf
  have x2 := Er.xAssignable
  have x3 := Er.xElemV
  have x4 := Er.xValueOf
  have x5 := Er.xSet
  have f1 := Er.typeOfP
  have f3 := Er.methodAssignableR
  have f4 := Er.assignableP
  have f9 := Er.valueOfP s 2
  have hta : tb < w.heap.size := heap_lt ht
  have hE0 := (Ext.refl w).alloc (.cells #[.pointer (some ⟨1, 58, none⟩), .pointer (some ⟨ab, 0, none⟩), .int .u64 150] 116)
  have el := Er.elemVPP ⟨ab, 0, none⟩ ⟨tb, 0, none⟩ _ (hE0.cell ha)
  have hsrc := heap_alloc_new (w.alloc (.cells #[.pointer (some ⟨1, 58, none⟩), .pointer (some ⟨ab, 0, none⟩), .int .u64 150] 116)) (.cells #[.string s, .int .i64 2] 53)
  rw [World.size_alloc] at hsrc
  obtain ⟨W', st, st2, st3⟩ := Er.setP tb (w.heap.size + 1) s 2 o1 o2 ((w.alloc (.cells #[.pointer (some ⟨1, 58, none⟩), .pointer (some ⟨ab, 0, none⟩), .int .u64 150] 116)).alloc (.cells #[.string s, .int .i64 2] 53)) hsrc ((hE0.alloc _).blk ht)
  have HS2 := Lib.hid st2
  have HS3 := Lib.hid st3
  have HE0 := Lib.hid hE0
  clear ha ht st2 st3 hsrc hE0
  unfold partV
  go_enter Tryz.func59, Tryz.ntmps59
  go_wp2
  refine wp_loop_rounds 1 ?_
  rw [rounds_succ]
  go_wp2
  go_ret
  exact ⟨rfl, ⟨s, HS2.out⟩, (Fr.ofExt (isB tb) (HE0.out.alloc _)).trans HS3.out (fun _ _ h => h)⟩

set_option maxRecDepth 100000 in
set_option maxHeartbeats 2000000 in
theorem as_bad (d tb ab : Nat) (o1 o2 : Value) : ∀ (v : Value) (w : World), Bad d w v → w.cell? ⟨ab, 0, none⟩ = some (.pointer (some ⟨tb, 0, none⟩)) → w.heap[tb]? = some (.cells #[o1, o2] 53) →
    Calls Tryz.prog 59 #[v, .iface 58 (.pointer (some ⟨tb, 0, none⟩)), .agg #[.pointer (some ⟨1, 58, none⟩), .pointer (some ⟨ab, 0, none⟩), .int .u64 150], .iface 169 (.agg #[.pointer (some ⟨1, 53, none⟩)])] w (AsPart tb w) := by
  induction d with
  | zero => rintro v w ⟨s, rfl⟩ ha ht; exact as_part s tb ab o1 o2 w ha ht
  | succ d ih =>
    rintro v w (h | ⟨j, a, n, c, v0, rfl, h2, h3, h4, h5⟩) ha ht
    · exact ih v w h ha ht
    obtain ⟨T, x, rfl⟩ := Err.no (d := d) (w := w) (v := v0) h5
    have x1 := Er.xTypeOf
    have x2 := Er.xAssignable
    have f1 := Er.typeOfJ
    have f3 := Er.methodAssignableR
    have f4 := Er.assignableJ
    have f6 := Er.noAsJ
    have uP := Er.noUnwrapJ
    have uP' := Er.hasUnwrapsJ
    have mP := Er.methodUnwrapJ
    have h2 := ((Ext.refl w).alloc (.cells #[.pointer (some ⟨1, 58, none⟩), .pointer (some ⟨ab, 0, none⟩), .int .u64 150] 116)).cell h2
    have HV0 := Lib.hid (heap_alloc_new w (.cells #[.pointer (some ⟨1, 58, none⟩), .pointer (some ⟨ab, 0, none⟩), .int .u64 150] 116))
    have HE0 := Lib.hid ((Ext.refl w).alloc (.cells #[.pointer (some ⟨1, 58, none⟩), .pointer (some ⟨ab, 0, none⟩), .int .u64 150] 116))
    have hih := Lib.hid (fun w' (he : Ext w w') => ih (.iface T x) w' (h5.ext he) (he.cell ha) (he.blk ht))
    clear ih h5 ha ht
    go_enter Tryz.func59, Tryz.ntmps59
    go_wp2
    refine wp_loop_rounds 1 ?_
    rw [rounds_succ]
    go_wp2_with (go_at_call 183; refine (unwrapJ j a n c _ h2).mono ?_; rintro e w1 ⟨rfl, hE1⟩)
    refine wp_loop_rounds 1 ?_
    rw [rounds_succ]
    have h4' := (HE0.out.trans hE1).cell h4
    have g0 := hE1.blk HV0.out
    have r0 := cell_of_heap g0 0
    have r1 := cell_of_heap g0 1
    have r2 := cell_of_heap g0 2
    simp at r0 r1 r2
    clear g0
    go_wp2_with (go_at_call 59; refine (hih.out _ (HE0.out.trans hE1)).mono ?_; rintro e w2 ⟨rfl, hp2, hE2⟩; have HP2 := Lib.hid hp2; have HE2 := Lib.hid hE2; clear hp2 hE2)
    go_ret
    exact ⟨rfl, HP2.out, (Fr.ofExt (isB tb) (HE0.out.trans hE1)).trans HE2.out (fun _ _ h => h)⟩

set_option maxRecDepth 100000 in
set_option maxHeartbeats 4000000 in
theorem As_bad (d tb : Nat) (v o1 o2 : Value) (w : World) (hv : Bad d w v) (hg : ErrT w) (ht : w.heap[tb]? = some (.cells #[o1, o2] 53)) :
    Calls Tryz.prog 19 #[v, .iface 58 (.pointer (some ⟨tb, 0, none⟩))] w (AsPart tb w) := by
  obtain ⟨T, x, rfl⟩ := Err.no (d := d) (w := w) (v := v) hv
  have x1 := Er.xValueOf
  have x2 := Er.xType
  have x3 := Er.xKind
  have x4 := Er.xIsNil
  have x5 := Er.xElem
  have x6 := Er.xImplements
  have f1 := Er.valueOfPP ⟨tb, 0, none⟩
  have f2 := Er.typePP
  have f3 := Er.methodKindR
  have f4 := Er.kindPP
  have f5 := Er.methodElemR
  have f6 := Er.elemPP
  have f7 := Er.kindP
  have f8 := Er.methodImplementsR
  have f9 := Er.implementsP
  have hta : tb < w.heap.size := heap_lt ht
  have h0 : 0 < w.heap.size := World.block_lt_of_cell? w _ hg
  have n8 := Er.isNilPP ⟨w.heap.size, 0, none⟩ ⟨tb, 0, none⟩ ((w.alloc (.cells #[.pointer (some ⟨tb, 0, none⟩)] 58)).alloc (.cells #[.pointer (some ⟨1, 58, none⟩), .pointer (some ⟨w.heap.size, 0, none⟩), .int .u64 150] 116)) (by simp)
  have hEW := ((Ext.refl w).alloc (.cells #[.pointer (some ⟨tb, 0, none⟩)] 58)).alloc (.cells #[.pointer (some ⟨1, 58, none⟩), .pointer (some ⟨w.heap.size, 0, none⟩), .int .u64 150] 116)
  have hg2 := hEW.cell hg
  have HEW := Lib.hid hEW
  have HA := Lib.hid (as_bad d tb w.heap.size o1 o2 (.iface T x) _ (hv.ext hEW) (by simp) (hEW.blk ht))
  clear hg ht hv hEW
  go_enter Tryz.func19, Tryz.ntmps19
  go_wp2_with (go_at_call 59; refine HA.out.mono ?_; rintro e w1 ⟨rfl, hc, hF⟩; have HC := Lib.hid hc; have HFF := Lib.hid hF; clear hc hF)
  go_ret
  exact ⟨rfl, HC.out, (Fr.ofExt (isB tb) HEW.out).trans HFF.out (fun _ _ h => h)⟩
end Go.Proofs.YtcapapnhlkmeaaaGreatDoor
