/-
  Last, meets, row.
  A row of entries that follow.
  errors.Is and errors.As at the entries' own errors.
  What the functions of reflectlite are, that have no body.
-/
import Derived.Test.YtigljihohpdpeaaGreatDoorM10
import Derived.Test.YtigljihohpdpeaaGreatDoorM8
namespace Go.Proofs.YtigljihohpdpeaaGreatDoor
open Go.RowKit

def lastId (p : Id) (es : List Ent) : Id := if h : 0 < es.length then (es[es.length - 1]).id else p
set_option maxHeartbeats 400000 in
theorem last_any (p : Id) (A : Option Addr) (c : Nat) (es : List Ent) (w : World) (hA : EntsIn w A es) (hl : es.length ≤ maxLen) :
    Calls Tryz.prog 61 #[p.v, .slice A es.length c] w fun e w' => e = .returned (lastId p es).v ∧ Ext w w' := by
  unfold maxLen at hl
  by_cases h0 : 0 < es.length
  · obtain ⟨b, f, e, rfl, he, c0, c1, c2, c3, _⟩ := hA.at_ (k := es.length - 1) (by omega)
    have hv : Hid ((lastId p es).v = idV e.i e.t e.k) := Lib.hid (by
      have h : es[es.length - 1] = e := by
        have h2 := List.getElem?_eq_getElem (l := es) (i := es.length - 1) (by omega)
        rw [h2] at he; injection he
      simp [lastId, h0, h, Id.v, Ent.id])
    clear he
    have hbl : b < w.heap.size := World.block_lt_of_cell? w _ c0
    have d0 : decide ((0 : Int) < (es.length : Int)) = true := by simp; omega
    rw [hv.out]
    have hT : ((es.length : Int) - 1).toNat = es.length - 1 := by omega
    have hOf := of_any
    unfold idV at hOf
    unfold idV Id.v idV
    have HOF := Lib.hid hOf
    clear hOf
    go_enter Tryz.func61, Tryz.ntmps61
    go_wp2_with (go_at_call 74; refine (HOF.out _ _ _ _ _).mono ?_; rintro e w1 ⟨rfl, hE1⟩; have hb1 := hE1.blk (heap1 w _ _); have hr0 := cell_of_heap hb1 0; have hr1 := cell_of_heap hb1 1; have hr2 := cell_of_heap hb1 2; have hq0 := frozen_of_heap hb1; have hz := heap_lt hb1; simp at hr0 hr1 hr2; clear hb1)
    exact bodyPost_ret (v := .agg #[.int .i64 e.i, .int .i64 e.t, .int .i64 e.k]) (by simp [results, Tryz.results61, go_sem, hr0, hr1, hr2]) rfl ⟨rfl, ((((((Ext.refl _).alloc _).alloc _).trans hE1).set (by simp) _).set (by simp) _).set (by simp) _⟩
  · obtain rfl : es = [] := List.eq_nil_of_length_eq_zero (by omega)
    have hv : Hid ((lastId p []).v = idV p.i p.t p.k) := Lib.hid (by simp [lastId, Id.v])
    rw [hv.out]
    unfold Id.v idV
    go_enter Tryz.func61, Tryz.ntmps61
    go_wp2
    exact bodyPost_ret (v := .agg #[.int .i64 p.i, .int .i64 p.t, .int .i64 p.k]) (by simp [results, Tryz.results61, go_sem]) rfl ⟨rfl, ((Ext.refl _).alloc _).alloc _⟩

def numE (n : Int) : Value := .iface 160 (.int .i64 n)
def meetsN (a : Id) (e : Ent) : Int := if e.good = false then 4 else if e.i - 1 = a.i ∧ a.t ≤ e.t then 0 else 12
def meetsV (a : Id) (e : Ent) : Value := if meetsN a e = 0 then .nilIface else numE (meetsN a e)
theorem good_i {e : Ent} (h : e.good = true) : 1 ≤ e.i ∧ e.i ≤ 1099511627776 := by
  unfold Ent.good goodE at h
  simp only [Bool.and_eq_true] at h
  exact (rightE_iff.1 h.1).1
set_option maxRecDepth 100000 in
set_option maxHeartbeats 800000 in
theorem meets_any (a : Id) (e : Ent) (w : World) (hin : e.inW w) :
    Calls Tryz.prog 79 #[.agg #[.int .i64 a.i, .int .i64 a.t, .int .i64 a.k], .agg #[.int .i64 e.i, .int .i64 e.t, .int .i64 e.k, .slice e.bA e.bs.length e.bc]] w fun ev w' => ev = .returned (meetsV a e) ∧ Ext w w' := by
  obtain ⟨hD, hb, hl⟩ := hin
  have HB := Lib.hid hb
  clear hb
  cases hg : e.good with
  | false =>
    have hv : Hid (meetsV a e = numE 4) := Lib.hid (by simp [meetsV, meetsN, hg])
    have hg' : goodE e.i e.t e.k e.bs = false := hg
    clear hg
    rw [hv.out]
    unfold numE
    go_enter Tryz.func79, Tryz.ntmps79
    go_wp2_with (go_at_call 78; refine (good_any e.i e.t e.k e.bA e.bc e.bs _ (hD.ext (((Ext.refl w).alloc _).alloc _)) HB.out hl).mono ?_; rintro ev w1 ⟨rfl, hE1⟩; have HE1 := Lib.hid hE1; clear hE1)
    go_ret
    exact ⟨rfl, (((Ext.refl _).alloc _).alloc _).trans HE1.out⟩
  | true =>
    obtain ⟨b1, b2⟩ := good_i hg
    have hg' : goodE e.i e.t e.k e.bs = true := hg
    by_cases h1 : e.i - 1 = a.i
    · have d1 : (e.i - 1 != a.i) = false := by simp; omega
      by_cases h2 : a.t ≤ e.t
      · have d2 : decide (e.t < a.t) = false := by simp; omega
        have hv : Hid (meetsV a e = .nilIface) := Lib.hid (by simp [meetsV, meetsN, hg, h1, h2])
        clear hg h1
        rw [hv.out]
        go_enter Tryz.func79, Tryz.ntmps79
        go_wp2_with (go_at_call 78; refine (good_any e.i e.t e.k e.bA e.bc e.bs _ (hD.ext (((Ext.refl w).alloc _).alloc _)) HB.out hl).mono ?_; rintro ev w1 ⟨rfl, hE1⟩; have hb0 := hE1.blk (heap0 w _ _); have hb1 := hE1.blk (heap1 w _ _); have r0 := cell_of_heap hb0 0; have r1 := cell_of_heap hb0 1; have q0 := cell_of_heap hb1 0; have q1 := cell_of_heap hb1 1; simp at r0 r1 q0 q1; have HE1 := Lib.hid hE1; clear hE1 hb0 hb1)
        go_ret
        exact ⟨rfl, (((Ext.refl _).alloc _).alloc _).trans HE1.out⟩
      · have d2 : decide (e.t < a.t) = true := by simp; omega
        have hv : Hid (meetsV a e = numE 12) := Lib.hid (by simp [meetsV, meetsN, hg, h2])
        clear hg h1
        rw [hv.out]
        unfold numE
        go_enter Tryz.func79, Tryz.ntmps79
        go_wp2_with (go_at_call 78; refine (good_any e.i e.t e.k e.bA e.bc e.bs _ (hD.ext (((Ext.refl w).alloc _).alloc _)) HB.out hl).mono ?_; rintro ev w1 ⟨rfl, hE1⟩; have hb0 := hE1.blk (heap0 w _ _); have hb1 := hE1.blk (heap1 w _ _); have r0 := cell_of_heap hb0 0; have r1 := cell_of_heap hb0 1; have q0 := cell_of_heap hb1 0; have q1 := cell_of_heap hb1 1; simp at r0 r1 q0 q1; have HE1 := Lib.hid hE1; clear hE1 hb0 hb1)
        go_ret
        exact ⟨rfl, (((Ext.refl _).alloc _).alloc _).trans HE1.out⟩
    · have d1 : (e.i - 1 != a.i) = true := by simp; omega
      have hv : Hid (meetsV a e = numE 12) := Lib.hid (by simp [meetsV, meetsN, hg, h1])
      clear hg h1
      rw [hv.out]
      unfold numE
      go_enter Tryz.func79, Tryz.ntmps79
      go_wp2_with (go_at_call 78; refine (good_any e.i e.t e.k e.bA e.bc e.bs _ (hD.ext (((Ext.refl w).alloc _).alloc _)) HB.out hl).mono ?_; rintro ev w1 ⟨rfl, hE1⟩; have hb0 := hE1.blk (heap0 w _ _); have hb1 := hE1.blk (heap1 w _ _); have r0 := cell_of_heap hb0 0; have r1 := cell_of_heap hb0 1; have q0 := cell_of_heap hb1 0; have q1 := cell_of_heap hb1 1; simp at r0 r1 q0 q1; have HE1 := Lib.hid hE1; clear hE1 hb0 hb1)
      go_ret
      exact ⟨rfl, (((Ext.refl _).alloc _).alloc _).trans HE1.out⟩
end Go.Proofs.YtigljihohpdpeaaGreatDoor
namespace Go.Proofs.YtigljihohpdpeaaGreatDoor
open Go.RowKit

def brokenV (j : Nat) (n : Int) : Value := .iface 167 (.agg #[.int .i64 (j : Int), .iface 160 (.int .i64 n)])
def rowE (a : Id) (j : Nat) : List Ent → Option (Nat × Int)
  | [] => none
  | e :: es => if meetsN a e = 0 then rowE e.id (j + 1) es else some (j, meetsN a e)
def rowV : Option (Nat × Int) → Value
  | none => .nilIface
  | some (j, n) => brokenV j n
theorem rowE_step {a : Id} {k : Nat} {es : List Ent} {e : Ent} (h : es[k]? = some e) (hm : meetsN a e = 0) : rowE a k (es.drop k) = rowE e.id (k + 1) (es.drop (k + 1)) := by
  rw [drop_at h, rowE, if_pos hm]
theorem rowE_stop {a : Id} {k : Nat} {es : List Ent} {e : Ent} (h : es[k]? = some e) (hm : meetsN a e ≠ 0) : rowE a k (es.drop k) = some (k, meetsN a e) := by
  rw [drop_at h, rowE, if_neg hm]
theorem rowE_end {a : Id} {es : List Ent} : rowE a es.length (es.drop es.length) = none := by
  rw [List.drop_length]; rfl

def RowRel (es : List Ent) (a : Id) (w0 : World) (cb : Nat) (i : Value) (wr : World) : Prop :=
  ∃ (k : Nat) (a' : Id), k ≤ es.length ∧ i = .int .i64 k ∧ wr.heap[cb]? = some (.cells #[.int .i64 a'.i, .int .i64 a'.t, .int .i64 a'.k] 159) ∧ rowE a' k (es.drop k) = rowE a 0 es ∧ Ext w0 wr

set_option maxRecDepth 100000 in
set_option maxHeartbeats 2000000 in
theorem erow_any (w0 : World) (cb : Nat) (a : Id) (A : Option Addr) (c : Nat) (es : List Ent) (w : World) (hE0 : Ext w0 w) (hcb : w0.heap.size ≤ cb) (hA : EntsIn w0 A es) (hl : es.length ≤ maxLen)
    (hblk : w.heap[cb]? = some (.cells #[.int .i64 a.i, .int .i64 a.t, .int .i64 a.k] 159)) :
    Calls Tryz.prog 72 #[.pointer (some ⟨cb, 0, none⟩), .slice A es.length c] w fun ev w' => ev = .returned (rowV (rowE a 0 es)) ∧ Ext w0 w' := by
  unfold maxLen at hl
  have HBLK := Lib.hid hblk
  clear hblk
  go_enter Tryz.func72, Tryz.ntmps72
  go_wp2
  go_loopw [10] (fun i wr => RowRel es a w0 cb i wr) (fun i _ => es.length - (intOf i).toNat)
  case atStart => exact ⟨0, a, Nat.zero_le _, rfl, HBLK.out, rfl, hE0⟩
  case round =>
    clear hE0
    obtain ⟨k, a', hk, rfl, hb, hr, hE⟩ := hrel
    have HR := Lib.hid hr
    have HB := Lib.hid hb
    clear hr hb
    by_cases hlt : k < es.length
    · obtain ⟨b, f, e, rfl, he, c0, c1, c2, c3, hin⟩ := (hA.ext hE).at_ hlt
      have hbl : b < wr.heap.size := World.block_lt_of_cell? wr _ c0
      have HE := Lib.hid hE
      have HIN := Lib.hid hin
      have HEk := Lib.hid he
      clear hE hin he
      go_wp2_with fail
      have hbc := heap_lt HB.out
      have eb := heap_alloc_new wr (.cells #[.int .i64 e.i, .int .i64 e.t, .int .i64 e.k, .slice e.bA e.bs.length e.bc] 88)
      have ec := (heap_alloc_old wr (.cells #[.int .i64 e.i, .int .i64 e.t, .int .i64 e.k, .slice e.bA e.bs.length e.bc] 88) hbc).trans HB.out
      have EB := Lib.hid eb
      have EC := Lib.hid ec
      clear eb ec
      refine Stab.wp_region_lex Ext (Ext _) (fun _ => True) (by kernel_rfl) (by kernel_rfl) (fun _ _ h => h) (fun _ _ h k => Ext.trans h k) (fun _ _ _ _ => trivial) ((Ext.refl _).drew) trivial ?_
      simp only [Stab.zipL, Nat.reduceAdd]
      repeat (first
        | (refine Stab.wpX_val rfl rfl ?_; apply Exists.intro; refine ⟨fun wx hC _ => ?_, ?_⟩; (have g1 := hC.blk EB.out; have g2 := hC.blk EC.out; have r0 := cell_of_heap g1 0; have r1 := cell_of_heap g1 1; have r2 := cell_of_heap g1 2; have r3 := cell_of_heap g1 3; have q0 := cell_of_heap g2 0; have q1 := cell_of_heap g2 1; have q2 := cell_of_heap g2 2; simp at r0 r1 r2 r3 q0 q1 q2; clear g1 g2; go_simp; exact ⟨Ext.refl _, rfl⟩); simp only [Act.put, List.setIfInBounds_toArray, List.set_cons_zero, List.set_cons_succ])
        | (refine Stab.wpX_call1 rfl rfl (fun _ _ _ _ => trivial) ?_; apply Exists.intro; refine ⟨fun wx hC _ _ => ?_, ?_⟩; (go_simp; refine ⟨rfl, ?_⟩; refine (meets_any a' e _ (HIN.out.ext (((Ext.refl _).alloc _).trans hC))).mono ?_; rintro ev w9 ⟨rfl, hb9⟩; (first | exact ⟨hb9, rfl, trivial⟩ | exact ⟨hb9, rfl⟩)); simp only [Act.put, List.setIfInBounds_toArray, List.set_cons_zero, List.set_cons_succ]))
      refine Stab.wpX_end fun w8 hC8 _ _ => ?_
      have g1 := hC8.blk EB.out
      have g2 := hC8.blk EC.out
      have hE8 : Ext w0 w8 := (HE.out.alloc _).trans hC8
      have HC8 := Lib.hid hE8
      have r0 := cell_of_heap g1 0
      have r1 := cell_of_heap g1 1
      have r2 := cell_of_heap g1 2
      have r3 := cell_of_heap g1 3
      have hz := heap_lt g1
      have HG2 := Lib.hid g2
      simp at r0 r1 r2 r3
      clear g1 g2 hC8 hE8
      by_cases hm : meetsN a' e = 0
      · have hv : meetsV a' e = .nilIface := by simp [meetsV, hm]
        have HV := Lib.hid (rowE_step HEk.out hm)
        clear hm
        rw [hv]
        clear hv
        go_wp2_with (go_at_call 74; refine (of_any e.i e.t e.k (.slice e.bA e.bs.length e.bc) _).mono ?_; unfold idV; rintro ev w9 ⟨rfl, hE9⟩; have g3 := hE9.blk HG2.out; have q0 := cell_of_heap g3 0; have q1 := cell_of_heap g3 1; have q2 := cell_of_heap g3 2; have q9 := frozen_of_heap g3; simp at q0 q1 q2; have HG3 := Lib.hid g3; have HE9 := Lib.hid hE9; clear g3 hE9)
        go_roundw
        case rel =>
          refine ⟨k + 1, e.id, by omega, by go_num, ?_, by rw [← HV.out]; exact HR.out, (((HC8.out.trans HE9.out).set hcb _).set hcb _).set hcb _⟩
          rw [heap_set (heap_set (heap_set HG3.out))]
          rfl
        case measure => simp [intOf]; omega
      · have hv : meetsV a' e = numE (meetsN a' e) := by simp [meetsV, hm]
        have HV := Lib.hid (rowE_stop HEk.out hm)
        clear hm
        rw [hv]
        clear hv
        unfold numE
        have hp : Hid (rowV (rowE a 0 es) = brokenV k (meetsN a' e)) := Lib.hid (by rw [← HR.out, HV.out]; rfl)
        go_wp2
        go_ret
        exact ⟨by rw [hp.out]; rfl, HC8.out⟩
    · obtain rfl : k = es.length := by omega
      have hp : Hid (rowV (rowE a 0 es) = .nilIface) := Lib.hid (by rw [← HR.out, rowE_end]; rfl)
      go_wp2
      go_ret
      exact ⟨by rw [hp.out]; rfl, hE⟩
end Go.Proofs.YtigljihohpdpeaaGreatDoor
namespace Go.Proofs.YtigljihohpdpeaaGreatDoor
open Go.RowKit Go.Extern.Stop Go.Stop Go.Extern

namespace Er
theorem typeOfE (v : Value) (w : World) : (Extern.ReflectliteType.typeOf #[.iface 160 v]).run Tryz.prog w = .ok (.iface 115 (.agg #[.pointer (some ⟨1, 160, none⟩)])) w := by kernel_rfl
theorem comparableE (w : World) : ((Extern.ReflectliteType.method fun t => do Rtype.noPackHeld "Comparable" t; pure (.bool (← typeInfo t).comparable)) #[.agg #[.pointer (some ⟨1, 160, none⟩)]]).run Tryz.prog w = .ok (.bool true) w := by kernel_rfl
theorem noIsB (v : Value) (xT : TypeId) (w : World) : (Instr.typeAssert (.iface 167 v) xT 117 true).run Tryz.prog w = .ok (.tuple #[.nilIface, .bool false]) w := run_typeAssert_lacksB Tryz.underlying117 (by kernel_rfl) (by kernel_rfl) v xT w
theorem noIsE (v : Value) (xT : TypeId) (w : World) : (Instr.typeAssert (.iface 160 v) xT 117 true).run Tryz.prog w = .ok (.tuple #[.nilIface, .bool false]) w := run_typeAssert_lacksB Tryz.underlying117 (by kernel_rfl) (by kernel_rfl) v xT w
theorem hasUnwrapB (v : Value) (xT : TypeId) (w : World) : (Instr.typeAssert (.iface 167 v) xT 120 true).run Tryz.prog w = .ok (.tuple #[.iface 167 v, .bool true]) w := run_typeAssert_hasB Tryz.underlying120 (by kernel_rfl) v xT w
theorem noUnwrapE (v : Value) (xT : TypeId) (w : World) : (Instr.typeAssert (.iface 160 v) xT 120 true).run Tryz.prog w = .ok (.tuple #[.nilIface, .bool false]) w := run_typeAssert_lacksB Tryz.underlying120 (by kernel_rfl) (by kernel_rfl) v xT w
theorem noUnwrapsE (v : Value) (xT : TypeId) (w : World) : (Instr.typeAssert (.iface 160 v) xT 122 true).run Tryz.prog w = .ok (.tuple #[.nilIface, .bool false]) w := run_typeAssert_lacksB Tryz.underlying122 (by kernel_rfl) (by kernel_rfl) v xT w
theorem methodUnwrapB (v : Value) (w : World) : (Go.method 303 167 v "Unwrap").run Tryz.prog w = .ok (126, v) w := by kernel_rfl
theorem eqE12 (w : World) : (binOp .eql 69 (.iface 160 (.int .i64 12)) (.iface 160 (.int .i64 12))).run Tryz.prog w = .ok (.bool true) w := by kernel_rfl
theorem eqE4 (w : World) : (binOp .eql 69 (.iface 160 (.int .i64 4)) (.iface 160 (.int .i64 12))).run Tryz.prog w = .ok (.bool false) w := by kernel_rfl
end Er

theorem unwrapB (x v : Value) (w : World) (hx : x.cells = #[x]) : Calls Tryz.prog 126 #[.agg #[x, v]] w fun e w' => e = .returned v ∧ Ext w w' := by
  go_enter Tryz.func126, Tryz.ntmps126
  go_wp2
  go_ret
  exact ⟨rfl, (Ext.refl w).alloc _⟩

set_option maxRecDepth 100000 in
theorem is_broken12 (j : Nat) (w : World) : Calls Tryz.prog 42 #[brokenV j 12, numE 12, .bool true] w fun e w' => e = .returned (.bool true) ∧ Ext w w' := by
  have nP := Er.noIsB
  have uP := Er.hasUnwrapB
  have mP := Er.methodUnwrapB
  have heq := Er.eqE12
  have hty := run_eql_iface_types (P := Tryz.prog) 167 160 (.agg #[.int .i64 (j : Int), .iface 160 (.int .i64 12)]) (.int .i64 12) Tryz.underlying69 (by decide) w
  unfold brokenV numE
  go_enter Tryz.func42, Tryz.ntmps42
  go_wp2
  refine wp_loop_rounds 2 ?_
  rw [rounds_succ]
  go_wp2_with (go_at_call 126; refine (unwrapB _ _ _ rfl).mono ?_; rintro e w1 ⟨rfl, hE1⟩)
  rw [rounds_succ]
  go_wp2
  go_ret
  exact ⟨rfl, hE1⟩
set_option maxRecDepth 100000 in
theorem is_broken4 (j : Nat) (w : World) : Calls Tryz.prog 42 #[brokenV j 4, numE 12, .bool true] w fun e w' => e = .returned (.bool false) ∧ Ext w w' := by
  have nP := Er.noIsB
  have uP := Er.hasUnwrapB
  have nE := Er.noIsE
  have uE := Er.noUnwrapE
  have usE := Er.noUnwrapsE
  have mP := Er.methodUnwrapB
  have heq := Er.eqE4
  have hty := run_eql_iface_types (P := Tryz.prog) 167 160 (.agg #[.int .i64 (j : Int), .iface 160 (.int .i64 4)]) (.int .i64 12) Tryz.underlying69 (by decide) w
  unfold brokenV numE
  go_enter Tryz.func42, Tryz.ntmps42
  go_wp2
  refine wp_loop_rounds 2 ?_
  rw [rounds_succ]
  go_wp2_with (go_at_call 126; refine (unwrapB _ _ _ rfl).mono ?_; rintro e w1 ⟨rfl, hE1⟩)
  rw [rounds_succ]
  go_wp2
  go_ret
  exact ⟨rfl, hE1⟩
set_option maxRecDepth 100000 in
theorem Is_nilE (n : Int) (w : World) : Calls Tryz.prog 26 #[.nilIface, numE n] w fun e w' => e = .returned (.bool false) ∧ w = w' := by
  have hn := fun w => run_eql_iface_nil_left (P := Tryz.prog) w 160 (.int .i64 n) Tryz.underlying69
  unfold numE
  go_enter Tryz.func26, Tryz.ntmps26
  go_wp2
  go_ret
  exact ⟨rfl, rfl⟩
end Go.Proofs.YtigljihohpdpeaaGreatDoor
namespace Go.Proofs.YtigljihohpdpeaaGreatDoor
open Go.RowKit Go.Extern.Stop Go.Stop Go.Extern

namespace Er
theorem xTypeOf (args : Array Value) (w : World) : (callFunc 41 args).run Tryz.prog w = (((Extern.ReflectliteType.typeOf) args).run Tryz.prog w).andThen fun v w' => .ok (.value v) w' :=
  run_callFunc_extern (e := Extern.ReflectliteType.typeOf) Tryz.func41 (by kernel_rfl) (by kernel_rfl) (by kernel_rfl) (by kernel_rfl) args w
theorem xComparable (args : Array Value) (w : World) : (callFunc 108 args).run Tryz.prog w = (((Extern.ReflectliteType.method fun t => do Rtype.noPackHeld "Comparable" t; pure (.bool (← typeInfo t).comparable)) args).run Tryz.prog w).andThen fun v w' => .ok (.value v) w' :=
  run_callFunc_extern (e := Extern.ReflectliteType.method fun t => do Rtype.noPackHeld "Comparable" t; pure (.bool (← typeInfo t).comparable)) Tryz.func108 (by kernel_rfl) (by kernel_rfl) (by kernel_rfl) (by kernel_rfl) args w
theorem xValueOf (args : Array Value) (w : World) : (callFunc 54 args).run Tryz.prog w = (((fun args => ReflectliteValue.unpack (args.getD 0 (.tuple #[]))) args).run Tryz.prog w).andThen fun v w' => .ok (.value v) w' :=
  run_callFunc_extern (e := fun args => ReflectliteValue.unpack (args.getD 0 (.tuple #[]))) Tryz.func54 (by kernel_rfl) (by kernel_rfl) (by kernel_rfl) (by kernel_rfl) args w
theorem xType (args : Array Value) (w : World) : (callFunc 55 args).run Tryz.prog w = (((ReflectliteValue.methodAny (ReflectliteValue.valueError "reflectlite.Value.Type" 0) (fun t _ _ _ => ReflectliteType.toType t)) args).run Tryz.prog w).andThen fun v w' => .ok (.value v) w' :=
  run_callFunc_extern (e := ReflectliteValue.methodAny (ReflectliteValue.valueError "reflectlite.Value.Type" 0) (fun t _ _ _ => ReflectliteType.toType t)) Tryz.func55 (by kernel_rfl) (by kernel_rfl) (by kernel_rfl) (by kernel_rfl) args w
theorem xIsNil (args : Array Value) (w : World) : (callFunc 56 args).run Tryz.prog w = (((ReflectliteValue.method (ReflectliteValue.valueError "reflectlite.Value.IsNil" 0) ReflectliteValue.isNil) args).run Tryz.prog w).andThen fun v w' => .ok (.value v) w' :=
  run_callFunc_extern (e := ReflectliteValue.method (ReflectliteValue.valueError "reflectlite.Value.IsNil" 0) ReflectliteValue.isNil) Tryz.func56 (by kernel_rfl) (by kernel_rfl) (by kernel_rfl) (by kernel_rfl) args w
theorem xKind (args : Array Value) (w : World) : (callFunc 99 args).run Tryz.prog w = (((ReflectliteType.abiMethod fun t => do pure (.int .u8 (← Rtype.kind t))) args).run Tryz.prog w).andThen fun v w' => .ok (.value v) w' :=
  run_callFunc_extern (e := ReflectliteType.abiMethod fun t => do pure (.int .u8 (← Rtype.kind t))) Tryz.func99 (by kernel_rfl) (by kernel_rfl) (by kernel_rfl) (by kernel_rfl) args w
theorem xElem (args : Array Value) (w : World) : (callFunc 109 args).run Tryz.prog w = (((ReflectliteType.method ReflectliteType.elem) args).run Tryz.prog w).andThen fun v w' => .ok (.value v) w' :=
  run_callFunc_extern (e := ReflectliteType.method ReflectliteType.elem) Tryz.func109 (by kernel_rfl) (by kernel_rfl) (by kernel_rfl) (by kernel_rfl) args w
theorem xImplements (args : Array Value) (w : World) : (callFunc 110 args).run Tryz.prog w = (((ReflectliteType.relation "Implements" ReflectliteType.implements_) args).run Tryz.prog w).andThen fun v w' => .ok (.value v) w' :=
  run_callFunc_extern (e := ReflectliteType.relation "Implements" ReflectliteType.implements_) Tryz.func110 (by kernel_rfl) (by kernel_rfl) (by kernel_rfl) (by kernel_rfl) args w
theorem xAssignable (args : Array Value) (w : World) : (callFunc 107 args).run Tryz.prog w = (((ReflectliteType.relation "AssignableTo" ReflectliteType.assignableTo) args).run Tryz.prog w).andThen fun v w' => .ok (.value v) w' :=
  run_callFunc_extern (e := ReflectliteType.relation "AssignableTo" ReflectliteType.assignableTo) Tryz.func107 (by kernel_rfl) (by kernel_rfl) (by kernel_rfl) (by kernel_rfl) args w
theorem xElemV (args : Array Value) (w : World) : (callFunc 70 args).run Tryz.prog w = (((ReflectliteValue.method (ReflectliteValue.valueError "reflectlite.Value.Elem" 0) ReflectliteValue.elem) args).run Tryz.prog w).andThen fun v w' => .ok (.value v) w' :=
  run_callFunc_extern (e := ReflectliteValue.method (ReflectliteValue.valueError "reflectlite.Value.Elem" 0) ReflectliteValue.elem) Tryz.func70 (by kernel_rfl) (by kernel_rfl) (by kernel_rfl) (by kernel_rfl) args w
theorem xSet (args : Array Value) (w : World) : (callFunc 71 args).run Tryz.prog w = (((ReflectliteValue.set) args).run Tryz.prog w).andThen fun v w' => .ok (.value v) w' :=
  run_callFunc_extern (e := ReflectliteValue.set) Tryz.func71 (by kernel_rfl) (by kernel_rfl) (by kernel_rfl) (by kernel_rfl) args w
end Er
end Go.Proofs.YtigljihohpdpeaaGreatDoor
