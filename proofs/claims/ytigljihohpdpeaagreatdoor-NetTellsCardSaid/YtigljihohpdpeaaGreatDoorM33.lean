/-
  A net in memory.
  A net is made; it is there; place; goes; vote.
-/
import Derived.Test.YtigljihohpdpeaaGreatDoorM28
import Derived.Test.YtigljihohpdpeaaGreatDoorM29
import Derived.Test.YtigljihohpdpeaaGreatDoorM32
namespace Go.Proofs.YtigljihohpdpeaaGreatDoor
open Go.RowKit

/-- What a net is: the letters under way, the counts, who is cut off. -/
structure NetS where
  us : List Let
  sent : Int
  gone : Int
  lost : Int
  twice : Int
  off : List Bool
/-- The blocks that a net turns. -/
def mutN (nb bb : Nat) (A : Option Addr) : Nat → Prop := fun i => i = nb ∨ i = bb ∨ blk A i
def bagA (A : Option Addr) (n c : Nat) (sent gone lost twice : Int) : Array Value := #[.slice A n c, .int .i64 0, .int .i64 sent, .int .i64 gone, .int .i64 lost, .int .i64 twice]
def netA (bb : Nat) (off : List Bool) : Array Value := (.pointer (some ⟨bb, 0, none⟩) :: off.map Value.bool).toArray
/-- A letter that a net holds. -/
structure Held (M : Nat → Prop) (w : World) (u : Let) : Prop where
  i : u.inW w
  o : u.off M
  s : u.small
theorem Held.fr {M M' : Nat → Prop} {w w' : World} {u : Let} (h : Held M w u) (hf : Fr M w w') (hn : ∀ i, i < w.heap.size → M' i → M i) : Held M' w' u :=
  ⟨h.i.fr hf h.o, h.o.new h.i hn, h.s⟩
theorem Held.ext {M : Nat → Prop} {w w' : World} {u : Let} (h : Held M w u) (he : Ext w w') : Held M w' u := ⟨h.i.ext he, h.o, h.s⟩
theorem Held.new {M M' : Nat → Prop} {w : World} {u : Let} (h : Held M w u) (hn : ∀ i, i < w.heap.size → M' i → M i) : Held M' w u := ⟨h.i, h.o.new h.i hn, h.s⟩
/-- The net n lies at nb, its bag at bb, its letters' row at A. -/
structure NetAt (w : World) (B nb bb : Nat) (A : Option Addr) (c : Nat) (s : NetS) : Prop where
  n1 : w.heap[nb]? = some (.cells (netA bb s.off) 66)
  b1 : w.heap[bb]? = some (.cells (bagA A s.us.length c s.sent s.gone s.lost s.twice) 63)
  u1 : OwnW 23 w B 44 A s.us.length c (flat s.us)
  u2 : ∀ u ∈ s.us, Held (mutN nb bb A) w u
  u3 : ∀ u ∈ s.us, rightL u = true
  B1 : B ≤ nb
  B2 : B ≤ bb
  o1 : s.off.length = 8
/-- The counts are small. -/
structure NetS.fits (s : NetS) : Prop where
  f1 : s.us.length ≤ 5000
  f2 : 0 ≤ s.sent ∧ s.sent ≤ 1000000
  f3 : 0 ≤ s.gone ∧ s.gone ≤ 1000000
  f4 : 0 ≤ s.lost ∧ s.lost ≤ 1000000
  f5 : 0 ≤ s.twice ∧ s.twice ≤ 1000000
theorem NetAt.ext {w w' : World} {B nb bb : Nat} {A : Option Addr} {c : Nat} {s : NetS} (h : NetAt w B nb bb A c s) (he : Ext w w') : NetAt w' B nb bb A c s :=
  ⟨he.blk h.n1, he.blk h.b1, h.u1.ext he, fun u hu => (h.u2 u hu).ext he, h.u3, h.B1, h.B2, h.o1⟩
theorem NetAt.fr {S : Nat → Prop} {w w' : World} {B nb bb : Nat} {A : Option Addr} {c : Nat} {s : NetS} (h : NetAt w B nb bb A c s) (hf : Fr S w w') (hS : ∀ i, S i → ¬ mutN nb bb A i) (hu : ∀ u ∈ s.us, u.off S) : NetAt w' B nb bb A c s := by
  have k : ∀ {i : Nat} {o : Obj}, w.heap[i]? = some o → mutN nb bb A i → w'.heap[i]? = some o := fun {i o} h1 h2 => (hf.block i (heap_lt h1) (fun t => hS i t h2)).trans h1
  exact ⟨k h.n1 (.inl rfl), k h.b1 (.inr (.inl rfl)), h.u1.fr hf (fun i hi t => hS i t (.inr (.inr hi))), fun u hu' => ⟨(h.u2 u hu').i.fr hf (hu u hu'), (h.u2 u hu').o, (h.u2 u hu').s⟩, h.u3, h.B1, h.B2, h.o1⟩
theorem NetAt.lets {w : World} {B nb bb : Nat} {A : Option Addr} {c : Nat} {s : NetS} (h : NetAt w B nb bb A c s) : LetsIn w A s.us := LetsIn.own h.u1 fun u hu => (h.u2 u hu).i
theorem NetAt.nbb {w : World} {B nb bb : Nat} {A : Option Addr} {c : Nat} {s : NetS} (h : NetAt w B nb bb A c s) : nb ≠ bb := by
  rintro rfl
  have h1 := h.n1
  rw [h.b1] at h1
  injection h1 with h1
  injection h1 with _ h1 _
  exact absurd h1 (by decide)
theorem NetAt.anb {w : World} {B nb bb : Nat} {A : Option Addr} {c : Nat} {s : NetS} (h : NetAt w B nb bb A c s) : ¬ blk A nb := h.u1.ne_blk h.n1 (by decide)
theorem NetAt.abb {w : World} {B nb bb : Nat} {A : Option Addr} {c : Nat} {s : NetS} (h : NetAt w B nb bb A c s) : ¬ blk A bb := h.u1.ne_blk h.b1 (by decide)
theorem NetAt.mut_lt {w : World} {B nb bb : Nat} {A : Option Addr} {c : Nat} {s : NetS} (h : NetAt w B nb bb A c s) {i : Nat} (hi : mutN nb bb A i) : B ≤ i ∧ i < w.heap.size := by
  rcases hi with rfl | rfl | hi
  · exact ⟨h.B1, heap_lt h.n1⟩
  · exact ⟨h.B2, heap_lt h.b1⟩
  · exact h.u1.lt hi
/-- What a call on a net leaves. -/
def NetStep (w : World) (B nb bb : Nat) (A : Option Addr) (s' : NetS) (w' : World) : Prop :=
  ∃ A' c', NetAt w' B nb bb A' c' s' ∧ Fr (mutN nb bb A) w w' ∧ ∀ i, blk A' i → blk A i ∨ w.heap.size ≤ i
theorem NetStep.rfl' {w w' : World} {B nb bb : Nat} {A : Option Addr} {c : Nat} {s : NetS} (h : NetAt w B nb bb A c s) (he : Ext w w') : NetStep w B nb bb A s w' :=
  ⟨A, c, h.ext he, Fr.ofExt _ he, fun _ hi => .inl hi⟩
/-- a store into the bag's counts. -/
theorem NetAt.count {w : World} {B nb bb : Nat} {A : Option Addr} {c : Nat} {s : NetS} (h : NetAt w B nb bb A c s) {w' : World} {sent gone lost twice : Int}
    (hb : w'.heap[bb]? = some (.cells (bagA A s.us.length c sent gone lost twice) 63)) (hf : Fr (isB bb) w w') : NetAt w' B nb bb A c { s with sent := sent, gone := gone, lost := lost, twice := twice } := by
  have k : ∀ i, i ≠ bb → i < w.heap.size → w'.heap[i]? = w.heap[i]? := fun i hi hl => hf.block i hl hi
  exact ⟨(k nb h.nbb (heap_lt h.n1)).trans h.n1, hb, h.u1.fr hf (fun i hi t => h.abb (by cases t; exact hi)), fun u hu => ⟨(h.u2 u hu).i.fr hf ((h.u2 u hu).o.sub fun i t => .inr (.inl t)), (h.u2 u hu).o, (h.u2 u hu).s⟩, h.u3, h.B1, h.B2, h.o1⟩
end Go.Proofs.YtigljihohpdpeaaGreatDoor
namespace Go.Proofs.YtigljihohpdpeaaGreatDoor
open Go.RowKit

def NetS.zero : NetS := ⟨[], 0, 0, 0, 0, List.replicate 8 false⟩
theorem new_any (w : World) : Calls Tryz.prog 6 #[] w fun e w' => e = .returned (.pointer (some ⟨w.heap.size + 1, 0, none⟩)) ∧ NetAt w' w.heap.size (w.heap.size + 1) w.heap.size none 0 NetS.zero ∧ Ext w w' := by
  have h0 := Lib.hid (heap0 w (.cells (bagA none 0 0 0 0 0 0) 63) (.cells (netA w.heap.size NetS.zero.off) 66))
  have h1 := Lib.hid (heap1 w (.cells (bagA none 0 0 0 0 0 0) 63) (.cells (netA w.heap.size NetS.zero.off) 66))
  go_enter Tryz.func6, Tryz.ntmps6
  go_wp2
  go_ret
  exact ⟨by simp, ⟨h1.out, h0.out, OwnW.nil _ _ _ _, fun u hu => by simp [NetS.zero] at hu, fun u hu => by simp [NetS.zero] at hu, by omega, Nat.le_refl _, rfl⟩, ((Ext.refl w).alloc _).alloc _⟩

theorem net_c0 {w : World} {nb bb : Nat} {off : List Bool} {t : TypeId} (h : w.heap[nb]? = some (.cells (netA bb off) t)) : w.cell? ⟨nb, 0, none⟩ = some (.pointer (some ⟨bb, 0, none⟩)) := by
  rw [cell_of_heap h]; rfl
theorem net_off {w : World} {nb bb : Nat} {off : List Bool} {t : TypeId} (h : w.heap[nb]? = some (.cells (netA bb off) t)) {k : Nat} (hk : k < off.length) : w.cell? ⟨nb, 1 + k, none⟩ = some (.bool (off.getD k false)) := by
  rw [cell_of_heap h]
  simp [netA, Nat.add_comm 1 k, hk]
theorem there_any (nb bb : Nat) (off : List Bool) (w : World) (h : w.heap[nb]? = some (.cells (netA bb off) 66)) :
    Calls Tryz.prog 22 #[.pointer (some ⟨nb, 0, none⟩)] w fun e w' => e = .returned (.bool true) ∧ w = w' := by
  have c0 := net_c0 h
  clear h
  go_enter Tryz.func22, Tryz.ntmps22
  go_wp2
  go_ret
  exact ⟨rfl, rfl⟩

def cut (off : List Bool) (i : Int) : Bool := off.getD i.toNat false
def goesV (off : List Bool) (l : Let) : Value := if (cut off l.frm || cut off l.too) = true then lostV l.frm l.too 11 else .nilIface
set_option maxRecDepth 100000 in
set_option maxHeartbeats 1000000 in
theorem goes_any (l : Let) (nb bb : Nat) (off : List Bool) (w : World) (h : w.heap[nb]? = some (.cells (netA bb off) 66)) (hl : off.length = 8) (h1 : 1 ≤ l.frm ∧ l.frm ≤ 7) (h2 : 1 ≤ l.too ∧ l.too ≤ 7) :
    Calls Tryz.prog 25 #[.pointer (some ⟨nb, 0, none⟩), l.v] w fun e w' => e = .returned (goesV off l) ∧ Ext w w' := by
  obtain ⟨p, hp⟩ : ∃ p : Nat, l.frm = p := ⟨l.frm.toNat, by omega⟩
  obtain ⟨q, hq⟩ : ∃ q : Nat, l.too = q := ⟨l.too.toNat, by omega⟩
  have hb := ((Ext.refl w).alloc (.cells l.arr 44)).blk h
  have e1 := net_off (k := p) hb (by omega)
  have e2 := net_off (k := q) hb (by omega)
  have hv : Hid (goesV off l = if (off.getD p false || off.getD q false) = true then lostV l.frm l.too 11 else .nilIface) := Lib.hid (by unfold goesV cut; rw [hp, hq]; rfl)
  have r0 : (w.alloc (.cells l.arr 44)).cell? ⟨w.heap.size, 1, none⟩ = some (.int .i64 (p : Int)) := by rw [cell_of_heap (heap_alloc_new w _)]; simp [Let.arr, hp]
  have r1 : (w.alloc (.cells l.arr 44)).cell? ⟨w.heap.size, 2, none⟩ = some (.int .i64 (q : Int)) := by rw [cell_of_heap (heap_alloc_new w _)]; simp [Let.arr, hq]
  have hV : l.v = .agg l.arr := rfl
  rw [hV]
  generalize off.getD p false = x at *
  generalize off.getD q false = y at *
  have hp8 : (p : Int) < 8 := by omega
  have hq8 : (q : Int) < 8 := by omega
  have HP := Lib.hid hp
  have HQ := Lib.hid hq
  clear hb h hl h1 h2 hp hq
  rw [hv.out]
  have E1 := Lib.hid e1
  have E2 := Lib.hid e2
  have R0 := Lib.hid r0
  have R1 := Lib.hid r1
  clear e1 e2 r0 r1
  cases x
  all_goals cases y
  all_goals
    go_enter Tryz.func25, Tryz.ntmps25
    go_wp2_with fail
    refine Stab.wp_region_lex Ext (Ext _) (fun _ => True) (by kernel_rfl) (by kernel_rfl) (fun _ _ h => h) (fun _ _ h k => Ext.trans h k) (fun _ _ _ _ => trivial) ((Ext.refl _).drew) trivial ?_
    simp only [Stab.zipL, Nat.reduceAdd]
    repeat (first
      | (refine Stab.wpX_skip rfl ?_; simp only [Act.put, List.setIfInBounds_toArray, List.set_cons_zero, List.set_cons_succ])
      | (refine Stab.wpX_val rfl rfl ?_; apply Exists.intro; refine ⟨fun wx hC _ => ?_, ?_⟩; (have q0 := hC.cell E1.out; have q1 := hC.cell E2.out; have q2 := hC.cell R0.out; have q3 := hC.cell R1.out; go_simp; exact ⟨Ext.refl _, rfl⟩); simp only [Act.put, List.setIfInBounds_toArray, List.set_cons_zero, List.set_cons_succ]))
    refine Stab.wpX_end fun w8 hC8 _ _ => ?_
    have q2 := hC8.cell R0.out
    have q3 := hC8.cell R1.out
    have HC8 := Lib.hid (((Ext.refl w).alloc _).trans hC8)
    clear hC8
    go_wp2_with fail
    go_ret
    exact ⟨by simp [lostV, HP.out, HQ.out], HC8.out⟩
theorem bag_c0 {w : World} {bb n c : Nat} {A : Option Addr} {s g l t : Int} {ty : TypeId} (h : w.heap[bb]? = some (.cells (bagA A n c s g l t) ty)) : w.cell? ⟨bb, 0, none⟩ = some (.slice A n c) := by
  rw [cell_of_heap h]; rfl
theorem tmod_emod (i : Int) (n : Nat) : i.tmod n % n = i % n := by
  have h := Int.tmod_eq_emod (a := i) (b := n)
  rw [h]
  split
  · simp
  · simp [Int.sub_emod]
theorem tmod_small (i : Int) (n : Nat) (h : ¬ n = 0) : -(n : Int) < i.tmod n ∧ i.tmod n < n := by
  have h1 := Int.tmod_eq_emod (a := i) (b := n)
  have h2 := Int.emod_nonneg i (show (n : Int) ≠ 0 by omega)
  have h3 := Int.emod_lt_of_pos i (show 0 < (n : Int) by omega)
  rw [h1]
  split
  · omega
  · rename_i h4
    have h5 : i % n ≠ 0 := fun h6 => h4 (.inr (Int.dvd_of_emod_eq_zero h6))
    omega
def placeE (n : Nat) : Value := if n = 0 then numN 7 else .nilIface
set_option maxRecDepth 100000 in
set_option maxHeartbeats 1000000 in
theorem place_any (i : Int) (bb n c : Nat) (A : Option Addr) (s g l t : Int) (w : World) (h : w.heap[bb]? = some (.cells (bagA A n c s g l t) 63)) (hn : n ≤ 5000) :
    Calls Tryz.prog 30 #[.pointer (some ⟨bb, 0, none⟩), .int .i64 i] w fun e w' => e = .returned (.tuple #[.int .i64 (if n = 0 then 0 else i % n), placeE n]) ∧ Ext w w' := by
  have c0 := bag_c0 h
  clear h
  by_cases h0 : n = 0
  · subst h0
    go_enter Tryz.func30, Tryz.ntmps30
    go_wp2
    go_ret2
    exact ⟨rfl, Ext.refl w⟩
  · have hne : ((n : Int) == 0) = false := by simp; omega
    go_enter Tryz.func30, Tryz.ntmps30
    go_wp2
    go_quiet (fail)
    go_wp2
    go_ret2
    refine ⟨?_, (Ext.refl w).drewN _⟩
    have hlt := tmod_small i n h0
    simp [h0, placeE]
    rw [show wrap64 (i.tmod n + n) = i.tmod n + n from IntWalk.wrap64_in _ (by omega), Int.tmod_eq_emod_of_nonneg (by omega), Int.add_emod_right, tmod_emod]
def voteL (f t m : Int) : Let := ⟨2, f, t, m, 0, Id.zero, Id.zero, none, 0, [], 0, false, none, 0, [], Id.zero, none, 0, [], 0, none, 0, [], 0, none, 0, []⟩
set_option maxRecDepth 100000 in
theorem vote_any (f t m : Int) (w : World) : Calls Tryz.prog 20 #[.int .i64 f, .int .i64 t, .int .i64 m] w fun e w' => e = .returned (voteL f t m).v ∧ Ext w w' := by
  go_enter Tryz.func20, Tryz.ntmps20
  go_wp2_with (refine wpList_store_all rfl _ _ rfl rfl w.heap.size (voteL f t m) _ rfl rfl (heap_alloc_new w _) (by simp) ?_; intro w5 hG5 hF5; have HG5 := Lib.hid hG5; have HF5 := Lib.hid hF5; clear hG5 hF5)
  exact bodyPost_ret (v := (voteL f t m).v) (results_cell_row Tryz.results20 _ w5 w.heap.size 44 _ (0, 0) _ rfl HG5.out Tryz.underlying44 rfl (by rw [infoLet]; rfl)) rfl ⟨rfl, ((Fr.ofExt (isB w.heap.size) ((Ext.refl w).alloc _)).trans HF5.out (fun _ _ h => h)).toExt (fun i hi => by unfold isB at hi; omega)⟩
end Go.Proofs.YtigljihohpdpeaaGreatDoor
