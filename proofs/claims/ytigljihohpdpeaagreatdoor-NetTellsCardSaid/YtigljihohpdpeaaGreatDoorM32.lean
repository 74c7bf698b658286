/-
  errors.Is and errors.As at the net's own errors; told.
  errors.Is and errors.As at the net's own errors; told.
  errors.Is and errors.As at the net's own errors; told.
-/
import Derived.Test.YtigljihohpdpeaaGreatDoorM31
namespace Go.Proofs.YtigljihohpdpeaaGreatDoor
open Go.RowKit Go.Extern.Stop Go.Stop Go.Extern

set_option maxRecDepth 100000 in
set_option maxHeartbeats 2000000 in
theorem as_lost (f t : Int) (tb ab : Nat) (old : Value) (w : World) (ha : w.cell? ⟨ab, 0, none⟩ = some (.pointer (some ⟨tb, 0, none⟩))) (ht : w.cell? ⟨tb, 0, none⟩ = some old) (hf : w.frozen? ⟨tb, 0, none⟩ = false) :
    Calls Tryz.prog 57 #[lostV f t 11, .iface 100 (.pointer (some ⟨tb, 0, none⟩)), .agg #[.pointer (some ⟨1, 100, none⟩), .pointer (some ⟨ab, 0, none⟩), .int .u64 150], .iface 115 (.agg #[.pointer (some ⟨1, 74, none⟩)])] w (AsPost tb 11 w) := by
  have x1 := Er.xTypeOf
  have x2 := Er.xAssignable
  have x3 := Er.xElemV
  have x4 := Er.xValueOf
  have x5 := Er.xSet
  have f1 := Nr.typeOfB
  have f2 := Nr.typeOfE
  have f3 := Er.methodAssignableR
  have f4 := Nr.assignableB
  have f5 := Nr.assignableE
  have f6 := Nr.noAsB
  have f7 := Nr.hasUnwrapB
  have f8 := Nr.methodUnwrapB
  have f9 := Nr.valueOfE 11
  have hta : tb < w.heap.size := World.block_lt_of_cell? w _ ht
  have haa : ab < w.heap.size := World.block_lt_of_cell? w _ ha
  have HA := Lib.hid ha
  have HT := Lib.hid ht
  have HF := Lib.hid hf
  clear ha ht hf
  unfold lostV
  go_enter Tryz.func57, Tryz.ntmps57
  go_wp2
  refine wp_loop_rounds 2 ?_
  rw [rounds_succ]
  go_wp2_with (go_at_call 105; refine (unwrapN _ _ _ _).mono ?_; rintro e w1 ⟨rfl, hE1⟩)
  have g0 := hE1.blk (heap_alloc_new w _)
  have r0 := cell_of_heap g0 0
  have r1 := cell_of_heap g0 1
  have r2 := cell_of_heap g0 2
  simp at r0 r1 r2
  have hE2 : Ext w w1 := ((Ext.refl w).alloc _).trans hE1
  have el := Nr.elemVPE ⟨ab, 0, none⟩ ⟨tb, 0, none⟩ w1 (hE2.cell HA.out)
  have st := Nr.setE ⟨tb, 0, none⟩ ⟨w1.heap.size, 0, none⟩ 11 old (w1.alloc (.cells #[.int .i64 11] 74)) (by simp) (((Ext.refl _).alloc _).cell (hE2.cell HT.out)) (((Ext.refl _).alloc _).frozen (Nat.lt_of_lt_of_le hta hE2.sz) (hE2.frozen hta HF.out))
  have HE2 := Lib.hid hE2
  clear g0 hE1 hE2
  rw [rounds_succ]
  go_wp2
  go_ret
  refine ⟨rfl, ?_, ((Fr.ofExt (isB tb) HE2.out).alloc _).set (p := ⟨tb, 0, none⟩) (.inl rfl) _⟩
  rw [cellSet, ((Ext.refl _).alloc _).cell (HE2.out.cell HT.out)]
  rfl

set_option maxRecDepth 100000 in
set_option maxHeartbeats 4000000 in
theorem As_lost (f t : Int) (tb : Nat) (old : Value) (w : World) (hg : ErrT w) (ht : w.cell? ⟨tb, 0, none⟩ = some old) (hf : w.frozen? ⟨tb, 0, none⟩ = false) :
    Calls Tryz.prog 43 #[lostV f t 11, .iface 100 (.pointer (some ⟨tb, 0, none⟩))] w (AsPost tb 11 w) := by
  have x1 := Er.xValueOf
  have x2 := Er.xType
  have x3 := Er.xKind
  have x4 := Er.xIsNil
  have x5 := Er.xElem
  have x6 := Er.xImplements
  have f1 := Nr.valueOfPE ⟨tb, 0, none⟩
  have f2 := Nr.typePE
  have f3 := Er.methodKindR
  have f4 := Nr.kindPE
  have f5 := Er.methodElemR
  have f6 := Nr.elemPE
  have f7 := Nr.kindE
  have f8 := Er.methodImplementsR
  have f9 := Nr.implementsE
  have hta : tb < w.heap.size := World.block_lt_of_cell? w _ ht
  have h0 : 0 < w.heap.size := World.block_lt_of_cell? w _ hg
  have n8 := Nr.isNilPE ⟨w.heap.size, 0, none⟩ ⟨tb, 0, none⟩ ((w.alloc (.cells #[.pointer (some ⟨tb, 0, none⟩)] 100)).alloc (.cells #[.pointer (some ⟨1, 100, none⟩), .pointer (some ⟨w.heap.size, 0, none⟩), .int .u64 150] 128)) (by simp)
  have hg2 := (((Ext.refl w).alloc (.cells #[.pointer (some ⟨tb, 0, none⟩)] 100)).alloc (.cells #[.pointer (some ⟨1, 100, none⟩), .pointer (some ⟨w.heap.size, 0, none⟩), .int .u64 150] 128)).cell hg
  have hEW := ((Ext.refl w).alloc (.cells #[.pointer (some ⟨tb, 0, none⟩)] 100)).alloc (.cells #[.pointer (some ⟨1, 100, none⟩), .pointer (some ⟨w.heap.size, 0, none⟩), .int .u64 150] 128)
  have ht2 := Lib.hid (hEW.cell ht)
  have hf2 := Lib.hid (hEW.frozen hta hf)
  have HEW := Lib.hid hEW
  clear hg ht hf hEW
  have HA := Lib.hid (fun ab => as_lost f t tb ab old)
  unfold lostV at HA ⊢
  go_enter Tryz.func43, Tryz.ntmps43
  go_wp2_with (go_at_call 57; refine (HA.out _ _ (by simp) ht2.out hf2.out).mono ?_; rintro e w1 ⟨rfl, hc, hF⟩; have HC := Lib.hid hc; have HFF := Lib.hid hF; clear hc hF)
  go_ret
  exact ⟨rfl, HC.out, (Fr.ofExt (isB tb) HEW.out).trans HFF.out (fun _ _ h => h)⟩
end Go.Proofs.YtigljihohpdpeaaGreatDoor
namespace Go.Proofs.YtigljihohpdpeaaGreatDoor
open Go.RowKit Go.Extern.Stop Go.Stop Go.Extern

set_option maxRecDepth 100000 in
set_option maxHeartbeats 2000000 in
theorem as_num (n : Int) (tb ab : Nat) (old : Value) (w : World) (ha : w.cell? ⟨ab, 0, none⟩ = some (.pointer (some ⟨tb, 0, none⟩))) (ht : w.cell? ⟨tb, 0, none⟩ = some old) (hf : w.frozen? ⟨tb, 0, none⟩ = false) :
    Calls Tryz.prog 57 #[numN n, .iface 100 (.pointer (some ⟨tb, 0, none⟩)), .agg #[.pointer (some ⟨1, 100, none⟩), .pointer (some ⟨ab, 0, none⟩), .int .u64 150], .iface 115 (.agg #[.pointer (some ⟨1, 74, none⟩)])] w (AsPost tb n w) := by
  have x1 := Er.xTypeOf
  have x2 := Er.xAssignable
  have x3 := Er.xElemV
  have x4 := Er.xValueOf
  have x5 := Er.xSet
  have f2 := Nr.typeOfE
  have f3 := Er.methodAssignableR
  have f5 := Nr.assignableE
  have f9 := Nr.valueOfE n
  have hta : tb < w.heap.size := World.block_lt_of_cell? w _ ht
  have hE2 := (Ext.refl w).alloc (.cells #[.pointer (some ⟨1, 100, none⟩), .pointer (some ⟨ab, 0, none⟩), .int .u64 150] 128)
  have g0 := heap_alloc_new w (.cells #[.pointer (some ⟨1, 100, none⟩), .pointer (some ⟨ab, 0, none⟩), .int .u64 150] 128)
  have hs1 : (w.alloc (.cells #[.pointer (some ⟨1, 100, none⟩), .pointer (some ⟨ab, 0, none⟩), .int .u64 150] 128)).heap.size = w.heap.size + 1 := by simp
  obtain ⟨w1, hw1⟩ : ∃ w1, w1 = w.alloc (.cells #[.pointer (some ⟨1, 100, none⟩), .pointer (some ⟨ab, 0, none⟩), .int .u64 150] 128) := ⟨_, rfl⟩
  rw [← hw1] at hE2 g0 hs1
  have r0 := cell_of_heap g0 0
  have r1 := cell_of_heap g0 1
  have r2 := cell_of_heap g0 2
  simp at r0 r1 r2
  have el := Nr.elemVPE ⟨ab, 0, none⟩ ⟨tb, 0, none⟩ w1 (hE2.cell ha)
  have st := Nr.setE ⟨tb, 0, none⟩ ⟨w1.heap.size, 0, none⟩ n old (w1.alloc (.cells #[.int .i64 n] 74)) (by simp) (((Ext.refl _).alloc _).cell (hE2.cell ht)) (((Ext.refl _).alloc _).frozen (Nat.lt_of_lt_of_le hta hE2.sz) (hE2.frozen hta hf))
  have HT := Lib.hid ht
  have HE2 := Lib.hid hE2
  clear g0 hE2 ha ht hf
  rw [hs1] at st
  subst hw1
  unfold numN
  go_enter Tryz.func57, Tryz.ntmps57
  go_wp2
  refine wp_loop_rounds 1 ?_
  rw [rounds_succ]
  go_wp2
  go_ret
  exact ⟨rfl, (((Ext.refl _).alloc _).alloc _).cell (by rw [cellSet, HT.out]; rfl), (((Fr.refl (isB tb) w).set (p := ⟨tb, 0, none⟩) (.inl rfl) _).alloc _).alloc _⟩
set_option maxRecDepth 100000 in
set_option maxHeartbeats 4000000 in
theorem As_num (n : Int) (tb : Nat) (old : Value) (w : World) (hg : ErrT w) (ht : w.cell? ⟨tb, 0, none⟩ = some old) (hf : w.frozen? ⟨tb, 0, none⟩ = false) :
    Calls Tryz.prog 43 #[numN n, .iface 100 (.pointer (some ⟨tb, 0, none⟩))] w (AsPost tb n w) := by
  have x1 := Er.xValueOf
  have x2 := Er.xType
  have x3 := Er.xKind
  have x4 := Er.xIsNil
  have x5 := Er.xElem
  have x6 := Er.xImplements
  have f1 := Nr.valueOfPE ⟨tb, 0, none⟩
  have f2 := Nr.typePE
  have f3 := Er.methodKindR
  have f4 := Nr.kindPE
  have f5 := Er.methodElemR
  have f6 := Nr.elemPE
  have f7 := Nr.kindE
  have f8 := Er.methodImplementsR
  have f9 := Nr.implementsE
  have hta : tb < w.heap.size := World.block_lt_of_cell? w _ ht
  have h0 : 0 < w.heap.size := World.block_lt_of_cell? w _ hg
  have n8 := Nr.isNilPE ⟨w.heap.size, 0, none⟩ ⟨tb, 0, none⟩ ((w.alloc (.cells #[.pointer (some ⟨tb, 0, none⟩)] 100)).alloc (.cells #[.pointer (some ⟨1, 100, none⟩), .pointer (some ⟨w.heap.size, 0, none⟩), .int .u64 150] 128)) (by simp)
  have hg2 := (((Ext.refl w).alloc (.cells #[.pointer (some ⟨tb, 0, none⟩)] 100)).alloc (.cells #[.pointer (some ⟨1, 100, none⟩), .pointer (some ⟨w.heap.size, 0, none⟩), .int .u64 150] 128)).cell hg
  have hEW := ((Ext.refl w).alloc (.cells #[.pointer (some ⟨tb, 0, none⟩)] 100)).alloc (.cells #[.pointer (some ⟨1, 100, none⟩), .pointer (some ⟨w.heap.size, 0, none⟩), .int .u64 150] 128)
  have ht2 := Lib.hid (hEW.cell ht)
  have hf2 := Lib.hid (hEW.frozen hta hf)
  have HEW := Lib.hid hEW
  clear hg ht hf hEW
  have HA := Lib.hid (fun ab => as_num n tb ab old)
  unfold numN at HA ⊢
  go_enter Tryz.func43, Tryz.ntmps43
  go_wp2_with (go_at_call 57; refine (HA.out _ _ (by simp) ht2.out hf2.out).mono ?_; rintro e w1 ⟨rfl, hc, hF⟩; have HC := Lib.hid hc; have HFF := Lib.hid hF; clear hc hF)
  go_ret
  exact ⟨rfl, HC.out, (Fr.ofExt (isB tb) HEW.out).trans HFF.out (fun _ _ h => h)⟩
end Go.Proofs.YtigljihohpdpeaaGreatDoor
namespace Go.Proofs.YtigljihohpdpeaaGreatDoor
open Go.RowKit Go.Extern.Stop Go.Stop Go.Extern

theorem tolds_nil (w : World) : Calls Tryz.prog 27 #[.nilIface] w fun e w' => e = .returned (.int .i64 0) ∧ Ext w w' := by
  go_enter Tryz.func27, Tryz.ntmps27
  go_wp2_with (go_at_call 43; refine (As_nil _ _).mono ?_; rintro e w' ⟨rfl, rfl⟩)
  go_ret
  exact ⟨rfl, (Ext.refl w).alloc _⟩
set_option maxRecDepth 100000 in
theorem tolds_lost (f t : Int) (w : World) (hg : ErrT w) : Calls Tryz.prog 27 #[lostV f t 11] w fun e w' => e = .returned (.int .i64 11) ∧ Ext w w' := by
  have HA := Lib.hid (fun tb old => As_lost f t tb old)
  have HG := Lib.hid (hg.ext ((Ext.refl w).alloc (.cells #[.int .i64 0] 74)))
  clear hg
  unfold lostV at HA ⊢
  go_enter Tryz.func27, Tryz.ntmps27
  go_wp2_with (go_at_call 43; refine (HA.out _ _ _ HG.out (cell_of_heap (heap_alloc_new w _) 0) (frozen_of_heap (heap_alloc_new w _) 0)).mono ?_; rintro e w1 ⟨rfl, hc, hF⟩; have HFF := Lib.hid hF; clear hF)
  go_ret
  exact ⟨rfl, ((Fr.ofExt (isB w.heap.size) ((Ext.refl w).alloc _)).trans HFF.out (fun _ _ h => h)).toExt (fun i hi => by unfold isB at hi; omega)⟩
set_option maxRecDepth 100000 in
theorem tolds_num (n : Int) (w : World) (hg : ErrT w) : Calls Tryz.prog 27 #[numN n] w fun e w' => e = .returned (.int .i64 n) ∧ Ext w w' := by
  have HA := Lib.hid (fun tb old => As_num n tb old)
  have HG := Lib.hid (hg.ext ((Ext.refl w).alloc (.cells #[.int .i64 0] 74)))
  clear hg
  unfold numN at HA ⊢
  go_enter Tryz.func27, Tryz.ntmps27
  go_wp2_with (go_at_call 43; refine (HA.out _ _ _ HG.out (cell_of_heap (heap_alloc_new w _) 0) (frozen_of_heap (heap_alloc_new w _) 0)).mono ?_; rintro e w1 ⟨rfl, hc, hF⟩; have HFF := Lib.hid hF; clear hF)
  go_ret
  exact ⟨rfl, ((Fr.ofExt (isB w.heap.size) ((Ext.refl w).alloc _)).trans HFF.out (fun _ _ h => h)).toExt (fun i hi => by unfold isB at hi; omega)⟩
end Go.Proofs.YtigljihohpdpeaaGreatDoor
