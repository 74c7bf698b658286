/-
  errors.Is and errors.As at the net's own errors; told.
  errors.Is and errors.As at the net's own errors; told.
  A net in memory.
  A net is made; it is there; place; goes; vote.
  slices.Delete of one letter.
-/
import Derived.Test.YtjnllilmimngoaaGreatDoorM15
import Derived.Test.YtjnllilmimngoaaGreatDoorM14
namespace Go.Proofs.YtjnllilmimngoaaGreatDoor
open Go.RowKit Go.Extern.Stop Go.Stop Go.Extern

set_option maxRecDepth 100000 in
set_option maxHeartbeats 2000000 in
theorem as_num (n : Int) (tb ab : Nat) (old : Value) (w : World) (ha : w.cell? ⟨ab, 0, none⟩ = some (.pointer (some ⟨tb, 0, none⟩))) (ht : w.cell? ⟨tb, 0, none⟩ = some old) (hf : w.frozen? ⟨tb, 0, none⟩ = false) :
    Calls Tryz.prog 137 #[numN n, .iface 149 (.pointer (some ⟨tb, 0, none⟩)), .agg #[.pointer (some ⟨1, 149, none⟩), .pointer (some ⟨ab, 0, none⟩), .int .u64 150], .iface 216 (.agg #[.pointer (some ⟨1, 110, none⟩)])] w (AsPost tb n w) := by
  have x1 := Er.xTypeOf
  have x2 := Er.xAssignable
  have x3 := Er.xElemV
  have x4 := Er.xValueOf
  have x5 := Er.xSet
  have f2 := Nr.typeOfE
  have f3 := Er.methodAssignableR
  have f5 := Nr.assignableE
  have f9 := Nr.valueOfE n
  have hta : tb < w.heap.size := World.block_lt_of_cell? w _ ht
  have hE2 := (Ext.refl w).alloc (.cells #[.pointer (some ⟨1, 149, none⟩), .pointer (some ⟨ab, 0, none⟩), .int .u64 150] 208)
  have g0 := heap_alloc_new w (.cells #[.pointer (some ⟨1, 149, none⟩), .pointer (some ⟨ab, 0, none⟩), .int .u64 150] 208)
  have hs1 : (w.alloc (.cells #[.pointer (some ⟨1, 149, none⟩), .pointer (some ⟨ab, 0, none⟩), .int .u64 150] 208)).heap.size = w.heap.size + 1 := by simp
  obtain ⟨w1, hw1⟩ : ∃ w1, w1 = w.alloc (.cells #[.pointer (some ⟨1, 149, none⟩), .pointer (some ⟨ab, 0, none⟩), .int .u64 150] 208) := ⟨_, rfl⟩
  rw [← hw1] at hE2 g0 hs1
  have r0 := cell_of_heap g0 0
  have r1 := cell_of_heap g0 1
  have r2 := cell_of_heap g0 2
  simp at r0 r1 r2
  have el := Nr.elemVPE ⟨ab, 0, none⟩ ⟨tb, 0, none⟩ w1 (hE2.cell ha)
  have st := Nr.setE ⟨tb, 0, none⟩ ⟨w1.heap.size, 0, none⟩ n old (w1.alloc (.cells #[.int .i64 n] 110)) (by simp) (((Ext.refl _).alloc _).cell (hE2.cell ht)) (((Ext.refl _).alloc _).frozen (Nat.lt_of_lt_of_le hta hE2.sz) (hE2.frozen hta hf))
  have HT := Lib.hid ht
  have HE2 := Lib.hid hE2
  clear g0 hE2 ha ht hf
  rw [hs1] at st
  subst hw1
  unfold numN
  go_enter Tryz.func137, Tryz.ntmps137
  go_wp2
  refine wp_loop_rounds 1 ?_
  rw [rounds_succ]
  go_wp2
  go_ret
  exact ⟨rfl, (((Ext.refl _).alloc _).alloc _).cell (by rw [cellSet, HT.out]; rfl), (((Fr.refl (isB tb) w).set (p := ⟨tb, 0, none⟩) (.inl rfl) _).alloc _).alloc _⟩
set_option maxRecDepth 100000 in
set_option maxHeartbeats 4000000 in
theorem As_num (n : Int) (tb : Nat) (old : Value) (w : World) (hg : ErrT w) (ht : w.cell? ⟨tb, 0, none⟩ = some old) (hf : w.frozen? ⟨tb, 0, none⟩ = false) :
    Calls Tryz.prog 91 #[numN n, .iface 149 (.pointer (some ⟨tb, 0, none⟩))] w (AsPost tb n w) := by
  have x1 := Er.xValueOf
  have x2 := Er.xType
  have x3 := Er.xKind
  have x4 := Er.xIsNil
  have x5 := Er.xElem
  have x6 := Er.xImplements
  have f1 := Nr.valueOfPE ⟨tb, 0, none⟩
  have f2 := Nr.typePE
  have f3 := Er.methodKindR
  have f4 := Nr.kindPE
  have f5 := Er.methodElemR
  have f6 := Nr.elemPE
  have f7 := Nr.kindE
  have f8 := Er.methodImplementsR
  have f9 := Nr.implementsE
  have hta : tb < w.heap.size := World.block_lt_of_cell? w _ ht
  have h0 : 0 < w.heap.size := World.block_lt_of_cell? w _ hg
  have n8 := Nr.isNilPE ⟨w.heap.size, 0, none⟩ ⟨tb, 0, none⟩ ((w.alloc (.cells #[.pointer (some ⟨tb, 0, none⟩)] 149)).alloc (.cells #[.pointer (some ⟨1, 149, none⟩), .pointer (some ⟨w.heap.size, 0, none⟩), .int .u64 150] 208)) (by simp)
  have hg2 := (((Ext.refl w).alloc (.cells #[.pointer (some ⟨tb, 0, none⟩)] 149)).alloc (.cells #[.pointer (some ⟨1, 149, none⟩), .pointer (some ⟨w.heap.size, 0, none⟩), .int .u64 150] 208)).cell hg
  have hEW := ((Ext.refl w).alloc (.cells #[.pointer (some ⟨tb, 0, none⟩)] 149)).alloc (.cells #[.pointer (some ⟨1, 149, none⟩), .pointer (some ⟨w.heap.size, 0, none⟩), .int .u64 150] 208)
  have ht2 := Lib.hid (hEW.cell ht)
  have hf2 := Lib.hid (hEW.frozen hta hf)
  have HEW := Lib.hid hEW
  clear hg ht hf hEW
  have HA := Lib.hid (fun ab => as_num n tb ab old)
  unfold numN at HA ⊢
  go_enter Tryz.func91, Tryz.ntmps91
  go_wp2_with (go_at_call 137; refine (HA.out _ _ (by simp) ht2.out hf2.out).mono ?_; rintro e w1 ⟨rfl, hc, hF⟩; have HC := Lib.hid hc; have HFF := Lib.hid hF; clear hc hF)
  go_ret
  exact ⟨rfl, HC.out, (Fr.ofExt (isB tb) HEW.out).trans HFF.out (fun _ _ h => h)⟩
end Go.Proofs.YtjnllilmimngoaaGreatDoor
namespace Go.Proofs.YtjnllilmimngoaaGreatDoor
open Go.RowKit Go.Extern.Stop Go.Stop Go.Extern

theorem tolds_nil (w : World) : Calls Tryz.prog 46 #[.nilIface] w fun e w' => e = .returned (.int .i64 0) ∧ Ext w w' := by
  go_enter Tryz.func46, Tryz.ntmps46
  go_wp2_with (go_at_call 91; refine (As_nil _ _).mono ?_; rintro e w' ⟨rfl, rfl⟩)
  go_ret
  exact ⟨rfl, (Ext.refl w).alloc _⟩
set_option maxRecDepth 100000 in
theorem tolds_lost (f t : Int) (w : World) (hg : ErrT w) : Calls Tryz.prog 46 #[lostV f t 11] w fun e w' => e = .returned (.int .i64 11) ∧ Ext w w' := by
  have HA := Lib.hid (fun tb old => As_lost f t tb old)
  have HG := Lib.hid (hg.ext ((Ext.refl w).alloc (.cells #[.int .i64 0] 110)))
  clear hg
  unfold lostV at HA ⊢
  go_enter Tryz.func46, Tryz.ntmps46
  go_wp2_with (go_at_call 91; refine (HA.out _ _ _ HG.out (cell_of_heap (heap_alloc_new w _) 0) (frozen_of_heap (heap_alloc_new w _) 0)).mono ?_; rintro e w1 ⟨rfl, hc, hF⟩; have HFF := Lib.hid hF; clear hF)
  go_ret
  exact ⟨rfl, ((Fr.ofExt (isB w.heap.size) ((Ext.refl w).alloc _)).trans HFF.out (fun _ _ h => h)).toExt (fun i hi => by unfold isB at hi; omega)⟩
set_option maxRecDepth 100000 in
theorem tolds_num (n : Int) (w : World) (hg : ErrT w) : Calls Tryz.prog 46 #[numN n] w fun e w' => e = .returned (.int .i64 n) ∧ Ext w w' := by
  have HA := Lib.hid (fun tb old => As_num n tb old)
  have HG := Lib.hid (hg.ext ((Ext.refl w).alloc (.cells #[.int .i64 0] 110)))
  clear hg
  unfold numN at HA ⊢
  go_enter Tryz.func46, Tryz.ntmps46
  go_wp2_with (go_at_call 91; refine (HA.out _ _ _ HG.out (cell_of_heap (heap_alloc_new w _) 0) (frozen_of_heap (heap_alloc_new w _) 0)).mono ?_; rintro e w1 ⟨rfl, hc, hF⟩; have HFF := Lib.hid hF; clear hF)
  go_ret
  exact ⟨rfl, ((Fr.ofExt (isB w.heap.size) ((Ext.refl w).alloc _)).trans HFF.out (fun _ _ h => h)).toExt (fun i hi => by unfold isB at hi; omega)⟩
end Go.Proofs.YtjnllilmimngoaaGreatDoor
namespace Go.Proofs.YtjnllilmimngoaaGreatDoor
open Go.RowKit

/-- What a net is: the letters under way, the counts, who is cut off. -/
structure NetS where
  us : List Let
  sent : Int
  gone : Int
  lost : Int
  twice : Int
  off : List Bool
/-- The blocks that a net turns. -/
def mutN (nb bb : Nat) (A : Option Addr) : Nat → Prop := fun i => i = nb ∨ i = bb ∨ blk A i
def bagA (A : Option Addr) (n c : Nat) (sent gone lost twice : Int) : Array Value := #[.slice A n c, .int .i64 0, .int .i64 sent, .int .i64 gone, .int .i64 lost, .int .i64 twice]
def netA (bb : Nat) (off : List Bool) : Array Value := (.pointer (some ⟨bb, 0, none⟩) :: off.map Value.bool).toArray
/-- A letter that a net holds. -/
structure Held (M : Nat → Prop) (w : World) (u : Let) : Prop where
  i : u.inW w
  o : u.off M
  s : u.small
theorem Held.fr {M M' : Nat → Prop} {w w' : World} {u : Let} (h : Held M w u) (hf : Fr M w w') (hn : ∀ i, i < w.heap.size → M' i → M i) : Held M' w' u :=
  ⟨h.i.fr hf h.o, h.o.new h.i hn, h.s⟩
theorem Held.ext {M : Nat → Prop} {w w' : World} {u : Let} (h : Held M w u) (he : Ext w w') : Held M w' u := ⟨h.i.ext he, h.o, h.s⟩
/-- The net n lies at nb, its bag at bb, its letters' row at A. -/
structure NetAt (w : World) (B nb bb : Nat) (A : Option Addr) (c : Nat) (s : NetS) : Prop where
  n1 : w.heap[nb]? = some (.cells (netA bb s.off) 62)
  b1 : w.heap[bb]? = some (.cells (bagA A s.us.length c s.sent s.gone s.lost s.twice) 68)
  u1 : OwnW 23 w B 35 A s.us.length c (flat s.us)
  u2 : ∀ u ∈ s.us, Held (mutN nb bb A) w u
  u3 : ∀ u ∈ s.us, rightL u = true
  B1 : B ≤ nb
  B2 : B ≤ bb
  o1 : s.off.length = 8
/-- The counts are small. -/
structure NetS.fits (s : NetS) : Prop where
  f1 : s.us.length ≤ 10000
  f2 : 0 ≤ s.sent ∧ s.sent ≤ 1000000
  f3 : 0 ≤ s.gone ∧ s.gone ≤ 1000000
  f4 : 0 ≤ s.lost ∧ s.lost ≤ 1000000
  f5 : 0 ≤ s.twice ∧ s.twice ≤ 1000000
theorem NetAt.ext {w w' : World} {B nb bb : Nat} {A : Option Addr} {c : Nat} {s : NetS} (h : NetAt w B nb bb A c s) (he : Ext w w') : NetAt w' B nb bb A c s :=
  ⟨he.blk h.n1, he.blk h.b1, h.u1.ext he, fun u hu => (h.u2 u hu).ext he, h.u3, h.B1, h.B2, h.o1⟩
theorem NetAt.fr {S : Nat → Prop} {w w' : World} {B nb bb : Nat} {A : Option Addr} {c : Nat} {s : NetS} (h : NetAt w B nb bb A c s) (hf : Fr S w w') (hS : ∀ i, S i → ¬ mutN nb bb A i) (hu : ∀ u ∈ s.us, u.off S) : NetAt w' B nb bb A c s := by
  have k : ∀ {i : Nat} {o : Obj}, w.heap[i]? = some o → mutN nb bb A i → w'.heap[i]? = some o := fun {i o} h1 h2 => (hf.block i (heap_lt h1) (fun t => hS i t h2)).trans h1
  exact ⟨k h.n1 (.inl rfl), k h.b1 (.inr (.inl rfl)), h.u1.fr hf (fun i hi t => hS i t (.inr (.inr hi))), fun u hu' => ⟨(h.u2 u hu').i.fr hf (hu u hu'), (h.u2 u hu').o, (h.u2 u hu').s⟩, h.u3, h.B1, h.B2, h.o1⟩
theorem NetAt.lets {w : World} {B nb bb : Nat} {A : Option Addr} {c : Nat} {s : NetS} (h : NetAt w B nb bb A c s) : LetsIn w A s.us := LetsIn.own h.u1 fun u hu => (h.u2 u hu).i
theorem NetAt.nbb {w : World} {B nb bb : Nat} {A : Option Addr} {c : Nat} {s : NetS} (h : NetAt w B nb bb A c s) : nb ≠ bb := by
  rintro rfl
  have h1 := h.n1
  rw [h.b1] at h1
  injection h1 with h1
  injection h1 with _ h1 _
  exact absurd h1 (by decide)
theorem NetAt.anb {w : World} {B nb bb : Nat} {A : Option Addr} {c : Nat} {s : NetS} (h : NetAt w B nb bb A c s) : ¬ blk A nb := h.u1.ne_blk h.n1 (by decide)
theorem NetAt.abb {w : World} {B nb bb : Nat} {A : Option Addr} {c : Nat} {s : NetS} (h : NetAt w B nb bb A c s) : ¬ blk A bb := h.u1.ne_blk h.b1 (by decide)
theorem NetAt.mut_lt {w : World} {B nb bb : Nat} {A : Option Addr} {c : Nat} {s : NetS} (h : NetAt w B nb bb A c s) {i : Nat} (hi : mutN nb bb A i) : B ≤ i ∧ i < w.heap.size := by
  rcases hi with rfl | rfl | hi
  · exact ⟨h.B1, heap_lt h.n1⟩
  · exact ⟨h.B2, heap_lt h.b1⟩
  · exact h.u1.lt hi
/-- What a call on a net leaves. -/
def NetStep (w : World) (B nb bb : Nat) (A : Option Addr) (s' : NetS) (w' : World) : Prop :=
  ∃ A' c', NetAt w' B nb bb A' c' s' ∧ Fr (mutN nb bb A) w w' ∧ ∀ i, blk A' i → blk A i ∨ w.heap.size ≤ i
theorem NetStep.rfl' {w w' : World} {B nb bb : Nat} {A : Option Addr} {c : Nat} {s : NetS} (h : NetAt w B nb bb A c s) (he : Ext w w') : NetStep w B nb bb A s w' :=
  ⟨A, c, h.ext he, Fr.ofExt _ he, fun _ hi => .inl hi⟩
/-- a store into the bag's counts. -/
theorem NetAt.count {w : World} {B nb bb : Nat} {A : Option Addr} {c : Nat} {s : NetS} (h : NetAt w B nb bb A c s) {w' : World} {sent gone lost twice : Int}
    (hb : w'.heap[bb]? = some (.cells (bagA A s.us.length c sent gone lost twice) 68)) (hf : Fr (isB bb) w w') : NetAt w' B nb bb A c { s with sent := sent, gone := gone, lost := lost, twice := twice } := by
  have k : ∀ i, i ≠ bb → i < w.heap.size → w'.heap[i]? = w.heap[i]? := fun i hi hl => hf.block i hl hi
  exact ⟨(k nb h.nbb (heap_lt h.n1)).trans h.n1, hb, h.u1.fr hf (fun i hi t => h.abb (by cases t; exact hi)), fun u hu => ⟨(h.u2 u hu).i.fr hf ((h.u2 u hu).o.sub fun i t => .inr (.inl t)), (h.u2 u hu).o, (h.u2 u hu).s⟩, h.u3, h.B1, h.B2, h.o1⟩
end Go.Proofs.YtjnllilmimngoaaGreatDoor
namespace Go.Proofs.YtjnllilmimngoaaGreatDoor
open Go.RowKit

def NetS.zero : NetS := ⟨[], 0, 0, 0, 0, List.replicate 8 false⟩
theorem new_any (w : World) : Calls Tryz.prog 10 #[] w fun e w' => e = .returned (.pointer (some ⟨w.heap.size + 1, 0, none⟩)) ∧ NetAt w' w.heap.size (w.heap.size + 1) w.heap.size none 0 NetS.zero ∧ Ext w w' := by
  have h0 := Lib.hid (heap0 w (.cells (bagA none 0 0 0 0 0 0) 68) (.cells (netA w.heap.size NetS.zero.off) 62))
  have h1 := Lib.hid (heap1 w (.cells (bagA none 0 0 0 0 0 0) 68) (.cells (netA w.heap.size NetS.zero.off) 62))
  go_enter Tryz.func10, Tryz.ntmps10
  go_wp2
  go_ret
  exact ⟨by simp, ⟨h1.out, h0.out, OwnW.nil _ _ _ _, fun u hu => by simp [NetS.zero] at hu, fun u hu => by simp [NetS.zero] at hu, by omega, Nat.le_refl _, rfl⟩, ((Ext.refl w).alloc _).alloc _⟩

theorem net_c0 {w : World} {nb bb : Nat} {off : List Bool} {t : TypeId} (h : w.heap[nb]? = some (.cells (netA bb off) t)) : w.cell? ⟨nb, 0, none⟩ = some (.pointer (some ⟨bb, 0, none⟩)) := by
  rw [cell_of_heap h]; rfl
theorem net_off {w : World} {nb bb : Nat} {off : List Bool} {t : TypeId} (h : w.heap[nb]? = some (.cells (netA bb off) t)) {k : Nat} (hk : k < off.length) : w.cell? ⟨nb, 1 + k, none⟩ = some (.bool (off.getD k false)) := by
  rw [cell_of_heap h]
  simp [netA, Nat.add_comm 1 k, hk]
theorem there_any (nb bb : Nat) (off : List Bool) (w : World) (h : w.heap[nb]? = some (.cells (netA bb off) 62)) :
    Calls Tryz.prog 40 #[.pointer (some ⟨nb, 0, none⟩)] w fun e w' => e = .returned (.bool true) ∧ w = w' := by
  have c0 := net_c0 h
  clear h
  go_enter Tryz.func40, Tryz.ntmps40
  go_wp2
  go_ret
  exact ⟨rfl, rfl⟩

def cut (off : List Bool) (i : Int) : Bool := off.getD i.toNat false
def goesV (off : List Bool) (l : Let) : Value := if (cut off l.frm || cut off l.too) = true then lostV l.frm l.too 11 else .nilIface
set_option maxRecDepth 100000 in
set_option maxHeartbeats 1000000 in
theorem goes_any (l : Let) (nb bb : Nat) (off : List Bool) (w : World) (h : w.heap[nb]? = some (.cells (netA bb off) 62)) (hl : off.length = 8) (h1 : 1 ≤ l.frm ∧ l.frm ≤ 7) (h2 : 1 ≤ l.too ∧ l.too ≤ 7) :
    Calls Tryz.prog 49 #[.pointer (some ⟨nb, 0, none⟩), l.v] w fun e w' => e = .returned (goesV off l) ∧ Ext w w' := by
  obtain ⟨p, hp⟩ : ∃ p : Nat, l.frm = p := ⟨l.frm.toNat, by omega⟩
  obtain ⟨q, hq⟩ : ∃ q : Nat, l.too = q := ⟨l.too.toNat, by omega⟩
  have hb := ((Ext.refl w).alloc (.cells l.arr 35)).blk h
  have e1 := net_off (k := p) hb (by omega)
  have e2 := net_off (k := q) hb (by omega)
  have hv : Hid (goesV off l = if (off.getD p false || off.getD q false) = true then lostV l.frm l.too 11 else .nilIface) := Lib.hid (by unfold goesV cut; rw [hp, hq]; rfl)
  have r0 : (w.alloc (.cells l.arr 35)).cell? ⟨w.heap.size, 1, none⟩ = some (.int .i64 (p : Int)) := by rw [cell_of_heap (heap_alloc_new w _)]; simp [Let.arr, hp]
  have r1 : (w.alloc (.cells l.arr 35)).cell? ⟨w.heap.size, 2, none⟩ = some (.int .i64 (q : Int)) := by rw [cell_of_heap (heap_alloc_new w _)]; simp [Let.arr, hq]
  have hV : l.v = .agg l.arr := rfl
  rw [hV]
  generalize off.getD p false = x at *
  generalize off.getD q false = y at *
  have hp8 : (p : Int) < 8 := by omega
  have hq8 : (q : Int) < 8 := by omega
  have HP := Lib.hid hp
  have HQ := Lib.hid hq
  clear hb h hl h1 h2 hp hq
  rw [hv.out]
  have E1 := Lib.hid e1
  have E2 := Lib.hid e2
  have R0 := Lib.hid r0
  have R1 := Lib.hid r1
  clear e1 e2 r0 r1
  cases x
  all_goals cases y
  all_goals
    go_enter Tryz.func49, Tryz.ntmps49
    go_wp2_with fail
    refine Stab.wp_region_lex Ext (Ext _) (fun _ => True) (by kernel_rfl) (by kernel_rfl) (fun _ _ h => h) (fun _ _ h k => Ext.trans h k) (fun _ _ _ _ => trivial) ((Ext.refl _).drew) trivial ?_
    simp only [Stab.zipL, Nat.reduceAdd]
    repeat (first
      | (refine Stab.wpX_skip rfl ?_; simp only [Act.put, List.setIfInBounds_toArray, List.set_cons_zero, List.set_cons_succ])
      | (refine Stab.wpX_val rfl rfl ?_; apply Exists.intro; refine ⟨fun wx hC _ => ?_, ?_⟩; (have q0 := hC.cell E1.out; have q1 := hC.cell E2.out; have q2 := hC.cell R0.out; have q3 := hC.cell R1.out; go_simp; exact ⟨Ext.refl _, rfl⟩); simp only [Act.put, List.setIfInBounds_toArray, List.set_cons_zero, List.set_cons_succ]))
    refine Stab.wpX_end fun w8 hC8 _ _ => ?_
    have q2 := hC8.cell R0.out
    have q3 := hC8.cell R1.out
    have HC8 := Lib.hid (((Ext.refl w).alloc _).trans hC8)
    clear hC8
    go_wp2_with fail
    go_ret
    exact ⟨by simp [lostV, HP.out, HQ.out], HC8.out⟩
theorem bag_c0 {w : World} {bb n c : Nat} {A : Option Addr} {s g l t : Int} {ty : TypeId} (h : w.heap[bb]? = some (.cells (bagA A n c s g l t) ty)) : w.cell? ⟨bb, 0, none⟩ = some (.slice A n c) := by
  rw [cell_of_heap h]; rfl
theorem tmod_emod (i : Int) (n : Nat) : i.tmod n % n = i % n := by
  have h := Int.tmod_eq_emod (a := i) (b := n)
  rw [h]
  split
  · simp
  · simp
theorem tmod_small (i : Int) (n : Nat) (h : ¬ n = 0) : -(n : Int) < i.tmod n ∧ i.tmod n < n := by
  have h1 := Int.tmod_eq_emod (a := i) (b := n)
  have h2 := Int.emod_nonneg i (show (n : Int) ≠ 0 by omega)
  have h3 := Int.emod_lt_of_pos i (show 0 < (n : Int) by omega)
  rw [h1]
  split
  · omega
  · rename_i h4
    have h5 : i % n ≠ 0 := fun h6 => h4 (.inr (Int.dvd_of_emod_eq_zero h6))
    omega
def placeE (n : Nat) : Value := if n = 0 then numN 7 else .nilIface
set_option maxRecDepth 100000 in
set_option maxHeartbeats 1000000 in
theorem place_any (i : Int) (bb n c : Nat) (A : Option Addr) (s g l t : Int) (w : World) (h : w.heap[bb]? = some (.cells (bagA A n c s g l t) 68)) (hn : n ≤ 10000) :
    Calls Tryz.prog 47 #[.pointer (some ⟨bb, 0, none⟩), .int .i64 i] w fun e w' => e = .returned (.tuple #[.int .i64 (if n = 0 then 0 else i % n), placeE n]) ∧ Ext w w' := by
  have c0 := bag_c0 h
  clear h
  by_cases h0 : n = 0
  · subst h0
    go_enter Tryz.func47, Tryz.ntmps47
    go_wp2
    go_ret2
    exact ⟨rfl, Ext.refl w⟩
  · have hne : ((n : Int) == 0) = false := by simp; omega
    go_enter Tryz.func47, Tryz.ntmps47
    go_wp2
    go_quiet (fail)
    go_wp2
    go_ret2
    refine ⟨?_, (Ext.refl w).drewN _⟩
    have hlt := tmod_small i n h0
    simp [h0, placeE]
    rw [show wrap64 (i.tmod n + n) = i.tmod n + n from IntWalk.wrap64_in _ (by omega), Int.tmod_eq_emod_of_nonneg (by omega), Int.add_emod_right, tmod_emod]
def voteL (f t m : Int) : Let := ⟨2, f, t, m, 0, Id.zero, Id.zero, none, 0, [], 0, false, none, 0, [], Id.zero, none, 0, [], 0, none, 0, [], 0, none, 0, []⟩
set_option maxRecDepth 100000 in
theorem vote_any (f t m : Int) (w : World) : Calls Tryz.prog 4 #[.int .i64 f, .int .i64 t, .int .i64 m] w fun e w' => e = .returned (voteL f t m).v ∧ Ext w w' := by
  go_enter Tryz.func4, Tryz.ntmps4
  go_wp2_with (refine wpList_store_all rfl _ _ rfl rfl w.heap.size (voteL f t m) _ rfl rfl (heap_alloc_new w _) (by simp) ?_; intro w5 hG5 hF5; have HG5 := Lib.hid hG5; have HF5 := Lib.hid hF5; clear hG5 hF5)
  exact bodyPost_ret (v := (voteL f t m).v) (results_cell_row Tryz.results4 _ w5 w.heap.size 35 _ (0, 0) _ rfl HG5.out Tryz.underlying35 rfl (by rw [infoLet]; rfl)) rfl ⟨rfl, ((Fr.ofExt (isB w.heap.size) ((Ext.refl w).alloc _)).trans HF5.out (fun _ _ h => h)).toExt (fun i hi => by unfold isB at hi; omega)⟩
end Go.Proofs.YtjnllilmimngoaaGreatDoor
namespace Go.Proofs.YtjnllilmimngoaaGreatDoor
open Go.RowKit

def voteZ : Let := ⟨0, 0, 0, 0, 0, Id.zero, Id.zero, none, 0, [], 0, false, none, 0, [], Id.zero, none, 0, [], 0, none, 0, [], 0, none, 0, []⟩
theorem flat_take (ls : List Let) (k : Nat) : flat (ls.take k) = (flat ls).take (k * 23) := by
  induction ls generalizing k with
  | nil => simp [flat]
  | cons x xs ih =>
    cases k with
    | zero => simp [flat]
    | succ k =>
      have h := ih k
      simp only [flat, List.take_succ_cons, List.flatMap_cons] at h ⊢
      have h23 : List.take ((k + 1) * 23) x.arr.toList = x.arr.toList := List.take_of_length_le (by rw [arr_len]; omega)
      rw [h, List.take_append, arr_len, show (k + 1) * 23 - 23 = k * 23 by omega, h23]
theorem flat_drop (ls : List Let) (k : Nat) : flat (ls.drop k) = (flat ls).drop (k * 23) := by
  induction ls generalizing k with
  | nil => simp [flat]
  | cons x xs ih =>
    cases k with
    | zero => simp [flat]
    | succ k =>
      have h := ih k
      simp only [flat, List.drop_succ_cons, List.flatMap_cons] at h ⊢
      have h23 : List.drop ((k + 1) * 23) x.arr.toList = [] := List.drop_of_length_le (by rw [arr_len]; omega)
      rw [h, List.drop_append, arr_len, show (k + 1) * 23 - 23 = k * 23 by omega, h23, List.nil_append]

set_option maxRecDepth 100000 in
theorem zeroLet (w : World) : (zeroValue 35).run Tryz.prog w = .ok (voteZ).v w := by kernel_rfl
section
variable {P : Program}
theorem run_clear_row (w : World) (t e ty : TypeId) (z : Value) (n c o g : Nat) (cur : Array Value) (ht : P.underlying t = some (.slice e)) (hv : ∀ w, (zeroValue e).run P w = .ok z w) (h1 : ∀ v ∈ z.cells, v.oneCell' = true)
    (hg : w.heap[g]? = some (.cells cur e (0, 0))) (hn : 0 < n) (hfit : o + n * z.cells.size ≤ cur.size) :
    (Builtin.clear_ #[t] ty #[.slice (some ⟨g, o, none⟩) n c]).run P w = .ok (.tuple #[]) (w.setRow g (cur.toList.take o ++ (Builtin.zeroCells z.cells n).toList ++ cur.toList.drop (o + n * z.cells.size)).toArray) := by
  have hl : (Builtin.zeroCells z.cells n).toList.length = n * z.cells.size := by rw [Array.length_toList, size_zeroCells]
  have hst := run_storeCells_at P g o e (Builtin.zeroCells z.cells n).toList 0 cur w hg (by rw [hl]; omega) (fun v hv => by
    have : v ∈ z.cells := by
      simp only [Builtin.zeroCells] at hv
      simp at hv
      obtain ⟨i, hi, rfl⟩ := hv
      have hp : 0 < z.cells.size := by
        rcases Nat.eq_zero_or_pos z.cells.size with h0 | h0
        · rw [h0] at hi; simp at hi
        · exact h0
      have hlt := Nat.mod_lt i hp
      rw [getElem!_pos z.cells _ hlt]
      exact Array.getElem_mem hlt
    exact h1 v this)
  simp only [Nat.add_zero] at hst
  rw [hl] at hst
  obtain ⟨m, rfl⟩ : ∃ m, n = m + 1 := ⟨n - 1, by omega⟩
  simp [Builtin.clear_, run_underlying ht, hv, hst]
end
theorem del_row (cur F rest : List Value) (n k : Nat) (hk : k < n + 1) (htk : cur.take ((n + 1) * 23) = F) (hF : F.length = (n + 1) * 23) :
    (cur.take (k * 23) ++ F.drop ((k + 1) * 23) ++ rest).toArray.toList.take (n * 23) = F.take (k * 23) ++ F.drop ((k + 1) * 23) := by
  have h1 : cur.take (k * 23) = F.take (k * 23) := by rw [← htk, List.take_take, Nat.min_eq_left (by omega)]
  have h2 : (F.take (k * 23) ++ F.drop ((k + 1) * 23)).length = n * 23 := by simp [hF]; omega
  rw [h1]
  show ((F.take (k * 23) ++ F.drop ((k + 1) * 23)) ++ rest).take (n * 23) = _
  rw [← h2]
  exact List.take_left
theorem clear_one (W : World) (g c n : Nat) (cur : Array Value) (hg : W.heap[g]? = some (.cells cur 35 (0, 0))) (hfit : n * 23 + 23 ≤ cur.size) :
    ∃ cur2 : Array Value, (∀ ty, (Builtin.clear_ #[22] ty #[.slice (some ⟨g, n * 23, none⟩) 1 (c - n)]).run Tryz.prog W = .ok (.tuple #[]) (W.setRow g cur2)) ∧ cur2.size = cur.size ∧ cur2.toList.take (n * 23) = cur.toList.take (n * 23) := by
  have hz : voteZ.v.cells.size = 23 := rfl
  refine ⟨_, fun ty => run_clear_row W _ _ ty voteZ.v 1 (c - n) (n * 23) g cur Tryz.underlying22 zeroLet voteZ.one hg (by omega) (by rw [hz]; omega), ?_, ?_⟩
  · simp [size_zeroCells, hz]; omega
  · rw [List.append_assoc, List.take_append_of_le_length (by simp; omega), List.take_take, Nat.min_self]
theorem wpList_append_room {ops : Array Oper} {rest : List Oper} {o : Oper} {a : Act} {Q : Exit → Act → World → Prop} (w : World) (hgd : o.guard = none) (s x : Operand)
    (ho : o.op = .call { callee := .builtin .append, args := #[s, x], argTypes := #[22, 22] })
    (g k c : Nat) (cur : Array Value) (hg : w.heap[g]? = some (.cells cur 35 (0, 0))) (hs : a.eval s = .slice (some ⟨g, 0, none⟩) k c)
    (D : Addr) (m cc : Nat) (news : List Value) (hx : a.eval x = .slice (some D) m cc) (hl : news.length = m * 23) (hr : ∀ j u, news[j]? = some u → w.cell? (D.add j) = some u) (h1 : ∀ u ∈ news, u.oneCell' = true)
    (hroom : k + m ≤ c) (hfit : k * 23 + news.length ≤ cur.size)
    (h : wpList Tryz.prog ops Q rest (a.put o.dst (.slice (some ⟨g, 0, none⟩) (k + m) c)) (w.setRow g (cur.toList.take (k * 23) ++ news ++ cur.toList.drop (k * 23 + news.length)).toArray)) : wpList Tryz.prog ops Q (o :: rest) a w := by
  refine wpList_plain hgd fun K hK => ?_
  obtain ⟨i0, hi, hz⟩ := Option.map_eq_some_iff.1 infoLetP
  simp only [Prod.mk.injEq] at hz
  obtain ⟨_, hz1, _⟩ := hz
  have h2 := run_append_room (P := Tryz.prog) w 22 o.type 35 i0 Tryz.underlying22 hi g k c cur hg D m cc news (by rw [hz1]; exact hl) hr h1 hroom (by rw [hz1]; exact hfit)
  rw [hz1] at h2
  unfold Oper.wp execOp
  simp only [ho, resolve, invoke, builtin, Sem.run_bind, Sem.run_pure, Result.andThen_ok, List.map_toArray, List.map_cons, List.map_nil, hs, hx, h2]
  exact hK _ _ h

set_option maxRecDepth 100000 in
set_option maxHeartbeats 2000000 in
theorem delete_any (B : Nat) (A : Option Addr) (c : Nat) (us : List Let) (k : Nat) (hk : k < us.length) (w : World) (hown : OwnW 23 w B 35 A us.length c (flat us)) :
    Calls Tryz.prog 92 #[.slice A us.length c, .int .i64 (k : Int), .int .i64 ((k : Int) + 1)] w fun e w' => e = .returned (.slice A (us.length - 1) c) ∧ OwnW 23 w' B 35 A (us.eraseIdx k).length c (flat (us.eraseIdx k)) ∧ Fr (blk A) w w' := by
  rcases hown.cases with ⟨_, h0, _⟩ | ⟨g, cur, rfl, hB, hlt, hh, hnc, hcm, hcs, htk⟩
  · omega
  obtain ⟨n, hn⟩ : ∃ n, us.length = n + 1 := ⟨us.length - 1, by omega⟩
  unfold maxLen at hcm
  have hlen : (us.eraseIdx k).length = n := by rw [List.length_eraseIdx, if_pos hk]; omega
  rw [hn] at hown hnc htk ⊢
  rw [hn] at hk
  have e1 : ((k : Int) == (k : Int) + 1) = false := by simp; omega
  have hnl : ((flat us).drop ((k + 1) * 23)).length = (n - k) * 23 := by rw [List.length_drop, flat_length, hn]; omega
  have hone : ∀ u ∈ (flat us).drop ((k + 1) * 23), u.oneCell' = true := fun u hu => flat_one us u (List.mem_of_mem_drop hu)
  go_enter Tryz.func92, Tryz.ntmps92
  go_wp2_with fail
  refine Stab.wp_region_lexTail 6 Ext (Ext w.drew) (fun _ => True) (by kernel_rfl) (by kernel_rfl) (fun _ _ h => h) (fun _ _ h k => Ext.trans h k) (fun _ _ _ _ => trivial) (Ext.refl _) trivial ?_
  simp only [Stab.zipL, Nat.reduceAdd, List.take, List.drop]
  by_cases hc : c = k + 1
  case pos =>
    subst hc
    have h0 : n - k = 0 := by omega
    rw [h0] at hnl
    repeat (refine Stab.wpX_val rfl rfl ?_; apply Exists.intro; refine ⟨fun wx hC _ => ?_, ?_⟩; (go_simp; (try (rw [if_pos (by omega)])); (try go_simp); exact ⟨Ext.refl _, rfl⟩); simp only [Act.put, List.setIfInBounds_toArray, List.set_cons_zero, List.set_cons_succ])
    refine Stab.wpX_end fun w8 hC8 _ _ => ?_
    have hh8 : w8.heap[g]? = some (.cells cur 35 (0, 0)) := hC8.blk (W := w.drew) hh
    have hF8 : Fr (blk (some ⟨g, 0, none⟩)) w w8 := (Fr.refl _ w).drew.then hC8
    refine wpList_append_room w8 rfl _ _ rfl g k (k + 1) cur hh8 rfl _ 0 _ ((flat us).drop ((k + 1) * 23)) rfl hnl ?_ hone (by omega) (by rw [hnl, hcs, ← Nat.add_mul]; exact Nat.mul_le_mul_right _ (by omega)) ?_
    · intro j u hj
      have hjl := (List.getElem?_eq_some_iff.1 hj).1
      rw [hnl] at hjl
      first
        | (exfalso; omega)
        | (rw [add_lit', cell_of_heap hh8]
           rw [List.getElem?_drop, ← htk, List.getElem?_take] at hj
           split at hj
           · simpa using hj
           · cases hj)
    have hW1 := setRow_heap w8 g cur (cur.toList.take (k * 23) ++ (flat us).drop ((k + 1) * 23) ++ cur.toList.drop (k * 23 + ((flat us).drop ((k + 1) * 23)).length)).toArray _ _ hh8
    have hF1 : Fr (blk (some ⟨g, 0, none⟩)) w (w8.setRow g (cur.toList.take (k * 23) ++ (flat us).drop ((k + 1) * 23) ++ cur.toList.drop (k * 23 + ((flat us).drop ((k + 1) * 23)).length)).toArray) := hF8.trans (b := w8) (T := blk (some ⟨g, 0, none⟩)) ⟨rfl, rfl, rfl, by simp [World.setRow], fun i _ hi => setRow_other w8 g i _ (fun e => hi (by simp [blk, e]))⟩ (fun _ _ h => h)
    have hs1 : (cur.toList.take (k * 23) ++ (flat us).drop ((k + 1) * 23) ++ cur.toList.drop (k * 23 + ((flat us).drop ((k + 1) * 23)).length)).toArray.size = (k + 1) * 23 := by
      have hm := Nat.mul_le_mul_right 23 (show k + 0 ≤ k + 1 by omega)
      rw [Nat.add_mul] at hm
      simp only [List.size_toArray, List.length_append, List.length_take, List.length_drop, Array.length_toList, hnl, hcs] at hnl ⊢
      omega
    generalize hcur1 : (cur.toList.take (k * 23) ++ (flat us).drop ((k + 1) * 23) ++ cur.toList.drop (k * 23 + ((flat us).drop ((k + 1) * 23)).length)).toArray = cur1 at *
    generalize w8.setRow g cur1 = W1 at *
    obtain ⟨cur2, hcl, hs2, ht2⟩ := clear_one W1 g (k + 1) n cur1 hW1 (by
      have hm := Nat.mul_le_mul_right 23 (show n + 1 ≤ k + 1 by omega)
      rw [Nat.add_mul] at hm
      rw [hs1]; exact hm)
    have HCUR := Lib.hid hcur1
    have HW1 := Lib.hid hW1
    have HF1 := Lib.hid hF1
    have e2 : (k : Int) + ((0 : Nat) : Int) = n := by omega
    have e3 : k + 0 = n := by omega
    clear hcur1 hW1 hF1 hF8 hC8 hh8
    rw [e3]
    go_wp2_with fail
    go_ret
    have HR := del_row cur.toList (flat us) ((cur.toList.drop (k * 23 + ((flat us).drop ((k + 1) * 23)).length))) n k hk htk (by rw [flat_length, hn])
    have hcur1 := HCUR.out
    refine ⟨rfl, ?_, ?_⟩
    · rw [hlen]
      refine OwnW.mk hB (setRow_heap W1 g cur1 cur2 _ _ HW1.out) (by omega) (by unfold maxLen; omega) (by rw [hs2, hs1]) ?_
      rw [ht2, ← hcur1, List.eraseIdx_eq_take_drop_succ, flat_append, flat_take, flat_drop]
      exact HR
    · exact HF1.out.trans (T := blk (some ⟨g, 0, none⟩)) ⟨rfl, rfl, rfl, by simp [World.setRow], fun i _ hi => setRow_other W1 g i _ (fun e => hi (by simp [blk, e]))⟩ (fun _ _ h => h)
  case neg =>
    repeat (refine Stab.wpX_val rfl rfl ?_; apply Exists.intro; refine ⟨fun wx hC _ => ?_, ?_⟩; (go_simp; (try (rw [if_pos (by omega)])); (try go_simp); exact ⟨Ext.refl _, rfl⟩); simp only [Act.put, List.setIfInBounds_toArray, List.set_cons_zero, List.set_cons_succ])
    refine Stab.wpX_end fun w8 hC8 _ _ => ?_
    have hh8 : w8.heap[g]? = some (.cells cur 35 (0, 0)) := hC8.blk (W := w.drew) hh
    have hF8 : Fr (blk (some ⟨g, 0, none⟩)) w w8 := (Fr.refl _ w).drew.then hC8
    refine wpList_append_room w8 rfl _ _ rfl g k c cur hh8 rfl _ (n - k) _ ((flat us).drop ((k + 1) * 23)) rfl hnl ?_ hone (by omega) (by rw [hnl, hcs, ← Nat.add_mul]; exact Nat.mul_le_mul_right _ (by omega)) ?_
    · intro j u hj
      have hjl := (List.getElem?_eq_some_iff.1 hj).1
      rw [hnl] at hjl
      first
        | (exfalso; have : n - k = 0 := by omega
           rw [this] at hjl; omega)
        | (rw [add_lit', cell_of_heap hh8]
           rw [List.getElem?_drop, ← htk, List.getElem?_take] at hj
           split at hj
           · simpa using hj
           · cases hj)
    have hW1 := setRow_heap w8 g cur (cur.toList.take (k * 23) ++ (flat us).drop ((k + 1) * 23) ++ cur.toList.drop (k * 23 + ((flat us).drop ((k + 1) * 23)).length)).toArray _ _ hh8
    have hF1 : Fr (blk (some ⟨g, 0, none⟩)) w (w8.setRow g (cur.toList.take (k * 23) ++ (flat us).drop ((k + 1) * 23) ++ cur.toList.drop (k * 23 + ((flat us).drop ((k + 1) * 23)).length)).toArray) := hF8.trans (b := w8) (T := blk (some ⟨g, 0, none⟩)) ⟨rfl, rfl, rfl, by simp [World.setRow], fun i _ hi => setRow_other w8 g i _ (fun e => hi (by simp [blk, e]))⟩ (fun _ _ h => h)
    have hs1 : (cur.toList.take (k * 23) ++ (flat us).drop ((k + 1) * 23) ++ cur.toList.drop (k * 23 + ((flat us).drop ((k + 1) * 23)).length)).toArray.size = c * 23 := by
      have hm := Nat.mul_le_mul_right 23 (show k + (n - k) ≤ c by omega)
      rw [Nat.add_mul] at hm
      simp only [List.size_toArray, List.length_append, List.length_take, List.length_drop, Array.length_toList, hnl, hcs] at hnl ⊢
      omega
    generalize hcur1 : (cur.toList.take (k * 23) ++ (flat us).drop ((k + 1) * 23) ++ cur.toList.drop (k * 23 + ((flat us).drop ((k + 1) * 23)).length)).toArray = cur1 at *
    generalize w8.setRow g cur1 = W1 at *
    obtain ⟨cur2, hcl, hs2, ht2⟩ := clear_one W1 g c n cur1 hW1 (by
      have hm := Nat.mul_le_mul_right 23 (show n + 1 ≤ c by omega)
      rw [Nat.add_mul] at hm
      rw [hs1]; exact hm)
    have HCUR := Lib.hid hcur1
    have HW1 := Lib.hid hW1
    have HF1 := Lib.hid hF1
    have e2 : (k : Int) + ((n - k : Nat) : Int) = n := by omega
    have e3 : k + (n - k) = n := by omega
    clear hcur1 hW1 hF1 hF8 hC8 hh8
    rw [e3]
    go_wp2_with fail
    go_ret
    have HR := del_row cur.toList (flat us) ((cur.toList.drop (k * 23 + ((flat us).drop ((k + 1) * 23)).length))) n k hk htk (by rw [flat_length, hn])
    have hcur1 := HCUR.out
    refine ⟨rfl, ?_, ?_⟩
    · rw [hlen]
      refine OwnW.mk hB (setRow_heap W1 g cur1 cur2 _ _ HW1.out) (by omega) (by unfold maxLen; omega) (by rw [hs2, hs1]) ?_
      rw [ht2, ← hcur1, List.eraseIdx_eq_take_drop_succ, flat_append, flat_take, flat_drop]
      exact HR
    · exact HF1.out.trans (T := blk (some ⟨g, 0, none⟩)) ⟨rfl, rfl, rfl, by simp [World.setRow], fun i _ hi => setRow_other W1 g i _ (fun e => hi (by simp [blk, e]))⟩ (fun _ _ h => h)
end Go.Proofs.YtjnllilmimngoaaGreatDoor
