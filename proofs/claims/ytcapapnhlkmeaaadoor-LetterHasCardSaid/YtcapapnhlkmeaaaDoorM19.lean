/-
  errors.As at the entries' errors: the walk.
-/
import Derived.Test.YtcapapnhlkmeaaaDoorM18
namespace Go.Proofs.YtcapapnhlkmeaaaDoor
open Go.RowKit Go.Extern.Stop Go.Stop Go.Extern

def AsPost (tb : Nat) (n : Int) (w : World) (e : Ending) (w' : World) : Prop := e = .returned (.bool true) ∧ w'.cell? ⟨tb, 0, none⟩ = some (.int .i64 n) ∧ Fr (isB tb) w w'

set_option maxRecDepth 100000 in
set_option maxHeartbeats 2000000 in
theorem as_broken4 (j tb ab : Nat) (old : Value) (w : World) (ha : w.cell? ⟨ab, 0, none⟩ = some (.pointer (some ⟨tb, 0, none⟩))) (ht : w.cell? ⟨tb, 0, none⟩ = some old) (hf : w.frozen? ⟨tb, 0, none⟩ = false) :
    Calls Tryd.prog 31 #[brokenV j 4, .iface 88 (.pointer (some ⟨tb, 0, none⟩)), .agg #[.pointer (some ⟨1, 88, none⟩), .pointer (some ⟨ab, 0, none⟩), .int .u64 150], .iface 108 (.agg #[.pointer (some ⟨1, 57, none⟩)])] w (AsPost tb 4 w) := by
  have x1 := Er.xTypeOf
  have x2 := Er.xAssignable
  have x3 := Er.xElemV
  have x4 := Er.xValueOf
  have x5 := Er.xSet
  have f1 := Er.typeOfB
  have f2 := Er.typeOfE
  have f3 := Er.methodAssignableR
  have f4 := Er.assignableB
  have f5 := Er.assignableE
  have f6 := Er.noAsB
  have f7 := Er.hasUnwrapB
  have f8 := Er.methodUnwrapB
  have f9 := Er.valueOfE 4
  have hta : tb < w.heap.size := World.block_lt_of_cell? w _ ht
  have haa : ab < w.heap.size := World.block_lt_of_cell? w _ ha
  have HA := Lib.hid ha
  have HT := Lib.hid ht
  have HF := Lib.hid hf
  clear ha ht hf
  unfold brokenV
  go_enter Tryd.func31, Tryd.ntmps31
  go_wp2
  refine wp_loop_rounds 2 ?_
  rw [rounds_succ]
  go_wp2_with (go_at_call 84; refine (unwrapB _ _ _ rfl).mono ?_; rintro e w1 ⟨rfl, hE1⟩)
  have g0 := hE1.blk (heap_alloc_new w _)
  have r0 := cell_of_heap g0 0
  have r1 := cell_of_heap g0 1
  have r2 := cell_of_heap g0 2
  simp at r0 r1 r2
  have hE2 : Ext w w1 := ((Ext.refl w).alloc _).trans hE1
  have el := Er.elemVPE ⟨ab, 0, none⟩ ⟨tb, 0, none⟩ w1 (hE2.cell HA.out)
  have st := Er.setE ⟨tb, 0, none⟩ ⟨w1.heap.size, 0, none⟩ 4 old (w1.alloc (.cells #[.int .i64 4] 57)) (by simp) (((Ext.refl _).alloc _).cell (hE2.cell HT.out)) (((Ext.refl _).alloc _).frozen (Nat.lt_of_lt_of_le hta hE2.sz) (hE2.frozen hta HF.out))
  have HE2 := Lib.hid hE2
  clear g0 hE1 hE2
  rw [rounds_succ]
  go_wp2
  go_ret
  refine ⟨rfl, ?_, ((Fr.ofExt (isB tb) HE2.out).alloc _).set (p := ⟨tb, 0, none⟩) (.inl rfl) _⟩
  rw [cellSet, ((Ext.refl _).alloc _).cell (HE2.out.cell HT.out)]
  rfl

def ErrT (w : World) : Prop := w.cell? ⟨0, 0, none⟩ = some (.iface 108 (.agg #[.pointer (some ⟨1, 48, none⟩)]))
theorem ErrT.ext {w w' : World} (h : ErrT w) (he : Ext w w') : ErrT w' := he.cell h
set_option maxRecDepth 100000 in
set_option maxHeartbeats 4000000 in
theorem As_broken4 (j tb : Nat) (old : Value) (w : World) (hg : ErrT w) (ht : w.cell? ⟨tb, 0, none⟩ = some old) (hf : w.frozen? ⟨tb, 0, none⟩ = false) :
    Calls Tryd.prog 16 #[brokenV j 4, .iface 88 (.pointer (some ⟨tb, 0, none⟩))] w (AsPost tb 4 w) := by
  have x1 := Er.xValueOf
  have x2 := Er.xType
  have x3 := Er.xKind
  have x4 := Er.xIsNil
  have x5 := Er.xElem
  have x6 := Er.xImplements
  have f1 := Er.valueOfPE ⟨tb, 0, none⟩
  have f2 := Er.typePE
  have f3 := Er.methodKindR
  have f4 := Er.kindPE
  have f5 := Er.methodElemR
  have f6 := Er.elemPE
  have f7 := Er.kindE
  have f8 := Er.methodImplementsR
  have f9 := Er.implementsE
  have hta : tb < w.heap.size := World.block_lt_of_cell? w _ ht
  have h0 : 0 < w.heap.size := World.block_lt_of_cell? w _ hg
  have n8 := Er.isNilPE ⟨w.heap.size, 0, none⟩ ⟨tb, 0, none⟩ ((w.alloc (.cells #[.pointer (some ⟨tb, 0, none⟩)] 88)).alloc (.cells #[.pointer (some ⟨1, 88, none⟩), .pointer (some ⟨w.heap.size, 0, none⟩), .int .u64 150] 92)) (by simp)
  have hg2 := (((Ext.refl w).alloc (.cells #[.pointer (some ⟨tb, 0, none⟩)] 88)).alloc (.cells #[.pointer (some ⟨1, 88, none⟩), .pointer (some ⟨w.heap.size, 0, none⟩), .int .u64 150] 92)).cell hg
  have hEW := ((Ext.refl w).alloc (.cells #[.pointer (some ⟨tb, 0, none⟩)] 88)).alloc (.cells #[.pointer (some ⟨1, 88, none⟩), .pointer (some ⟨w.heap.size, 0, none⟩), .int .u64 150] 92)
  have ht2 := Lib.hid (hEW.cell ht)
  have hf2 := Lib.hid (hEW.frozen hta hf)
  have HEW := Lib.hid hEW
  clear hg ht hf hEW
  have HA := Lib.hid (fun ab => as_broken4 j tb ab old)
  unfold brokenV at HA ⊢
  go_enter Tryd.func16, Tryd.ntmps16
  go_wp2_with (go_at_call 31; refine (HA.out _ _ (by simp) ht2.out hf2.out).mono ?_; rintro e w1 ⟨rfl, hc, hF⟩; have HC := Lib.hid hc; have HFF := Lib.hid hF; clear hc hF)
  go_ret
  exact ⟨rfl, HC.out, (Fr.ofExt (isB tb) HEW.out).trans HFF.out (fun _ _ h => h)⟩
end Go.Proofs.YtcapapnhlkmeaaaDoor
