/-
  Identities and entries in memory; Of, Last, meets.
  Last, meets, row.
  A row of entries that follow.
  errors.Is and errors.As at the entries' own errors.
  What the functions of reflectlite are, that have no body.
  errors.Is of what row tells.
  errors.As at the entries' errors: a number is found.
-/
import Derived.Test.YtjnllilmimngoaaGreatDoorM3
namespace Go.Proofs.YtjnllilmimngoaaGreatDoor
open Go.RowKit

structure Id where
  i : Int
  t : Int
  k : Int
def Id.v (p : Id) : Value := idV p.i p.t p.k
def Id.zero : Id := ⟨0, 0, 0⟩
def Id.right (p : Id) : Bool := rightI p.i p.t p.k
def Id.some_ (p : Id) : Bool := someI p.i p.t p.k
def IdsIn (w : World) (A : Option Addr) (ps : List Id) : Prop := ∀ j p, ps[j]? = some p → ∃ b f, A = some ⟨b, f, none⟩ ∧
  w.cell? ⟨b, f + j * 3, none⟩ = some (.int .i64 p.i) ∧ w.cell? ⟨b, f + j * 3 + 1, none⟩ = some (.int .i64 p.t) ∧ w.cell? ⟨b, f + j * 3 + 2, none⟩ = some (.int .i64 p.k)
theorem IdsIn.ext {w w' : World} {A : Option Addr} {ps : List Id} (h : IdsIn w A ps) (he : Ext w w') : IdsIn w' A ps := fun j p hj => by
  obtain ⟨b, f, ha, h1, h2, h3⟩ := h j p hj
  exact ⟨b, f, ha, he.cell h1, he.cell h2, he.cell h3⟩
theorem IdsIn.at_ {w : World} {A : Option Addr} {ps : List Id} (h : IdsIn w A ps) {k : Nat} (hk : k < ps.length) : ∃ b f p, A = some ⟨b, f, none⟩ ∧ ps[k]? = some p ∧
    w.cell? ⟨b, f + k * 3, none⟩ = some (.int .i64 p.i) ∧ w.cell? ⟨b, f + k * 3 + 1, none⟩ = some (.int .i64 p.t) ∧ w.cell? ⟨b, f + k * 3 + 2, none⟩ = some (.int .i64 p.k) := by
  obtain ⟨b, f, ha, h1⟩ := h k _ (List.getElem?_eq_getElem hk)
  exact ⟨b, f, ps[k], ha, List.getElem?_eq_getElem hk, h1⟩

structure Ent where
  i : Int
  t : Int
  k : Int
  bA : Option Addr
  bc : Nat
  bs : List Int
def Ent.v (e : Ent) : Value := .agg #[.int .i64 e.i, .int .i64 e.t, .int .i64 e.k, .slice e.bA e.bs.length e.bc]
def Ent.id (e : Ent) : Id := ⟨e.i, e.t, e.k⟩
def Ent.good (e : Ent) : Bool := goodE e.i e.t e.k e.bs
def Ent.inW (w : World) (e : Ent) : Prop := Rd w e.bA (e.bs.map (.int .u8)) ∧ okBytes e.bs ∧ e.bs.length ≤ maxLen
theorem Ent.inW.ext {w w' : World} {e : Ent} (h : e.inW w) (he : Ext w w') : e.inW w' := ⟨h.1.ext he, h.2⟩
def EntsIn (w : World) (A : Option Addr) (es : List Ent) : Prop := ∀ j e, es[j]? = some e → ∃ b f, A = some ⟨b, f, none⟩ ∧
  w.cell? ⟨b, f + j * 4, none⟩ = some (.int .i64 e.i) ∧ w.cell? ⟨b, f + j * 4 + 1, none⟩ = some (.int .i64 e.t) ∧ w.cell? ⟨b, f + j * 4 + 2, none⟩ = some (.int .i64 e.k) ∧ w.cell? ⟨b, f + j * 4 + 3, none⟩ = some (.slice e.bA e.bs.length e.bc) ∧ e.inW w
theorem EntsIn.ext {w w' : World} {A : Option Addr} {es : List Ent} (h : EntsIn w A es) (he : Ext w w') : EntsIn w' A es := fun j e hj => by
  obtain ⟨b, f, ha, h1, h2, h3, h4, h5⟩ := h j e hj
  exact ⟨b, f, ha, he.cell h1, he.cell h2, he.cell h3, he.cell h4, h5.ext he⟩
theorem EntsIn.at_ {w : World} {A : Option Addr} {es : List Ent} (h : EntsIn w A es) {k : Nat} (hk : k < es.length) : ∃ b f e, A = some ⟨b, f, none⟩ ∧ es[k]? = some e ∧
    w.cell? ⟨b, f + k * 4, none⟩ = some (.int .i64 e.i) ∧ w.cell? ⟨b, f + k * 4 + 1, none⟩ = some (.int .i64 e.t) ∧ w.cell? ⟨b, f + k * 4 + 2, none⟩ = some (.int .i64 e.k) ∧ w.cell? ⟨b, f + k * 4 + 3, none⟩ = some (.slice e.bA e.bs.length e.bc) ∧ e.inW w := by
  obtain ⟨b, f, ha, h1⟩ := h k _ (List.getElem?_eq_getElem hk)
  exact ⟨b, f, es[k], ha, List.getElem?_eq_getElem hk, h1⟩

theorem Ext.blk {W w1 : World} (h : Ext W w1) {b : Nat} {o : Obj} (hb : W.heap[b]? = some o) : w1.heap[b]? = some o := by
  have hl : b < W.heap.size := by
    rcases Nat.lt_or_ge b W.heap.size with h' | h'
    · exact h'
    · rw [Array.getElem?_eq_none h'] at hb; cases hb
  rw [h.below.block b hl]; exact hb
theorem heap1 (w : World) (a b : Obj) : ((w.alloc a).alloc b).heap[w.heap.size + 1]? = some b := by
  have h := heap_alloc_new (w.alloc a) b
  rwa [World.size_alloc] at h
theorem heap0 (w : World) (a b : Obj) : ((w.alloc a).alloc b).heap[w.heap.size]? = some a := by
  rw [heap_alloc_old _ _ (by rw [World.size_alloc]; omega)]
  exact heap_alloc_new w a
theorem heap_lt {w : World} {b : Nat} {o : Obj} (hb : w.heap[b]? = some o) : b < w.heap.size := by
  rcases Nat.lt_or_ge b w.heap.size with h' | h'
  · exact h'
  · rw [Array.getElem?_eq_none h'] at hb; cases hb
theorem of_any (i t k : Int) (x : Value) (w : World) : Calls Tryz.prog 171 #[.agg #[.int .i64 i, .int .i64 t, .int .i64 k, x]] w fun e w' => e = .returned (idV i t k) ∧ Ext w w' := by
  unfold idV
  go_enter Tryz.func171, Tryz.ntmps171
  go_wp2
  exact bodyPost_ret (v := .agg #[.int .i64 i, .int .i64 t, .int .i64 k]) (by simp [results, Tryz.results171, go_sem]) rfl ⟨rfl, ((Ext.refl _).alloc _).alloc _⟩
end Go.Proofs.YtjnllilmimngoaaGreatDoor
namespace Go.Proofs.YtjnllilmimngoaaGreatDoor
open Go.RowKit

def lastId (p : Id) (es : List Ent) : Id := if h : 0 < es.length then (es[es.length - 1]).id else p
set_option maxHeartbeats 400000 in
theorem last_any (p : Id) (A : Option Addr) (c : Nat) (es : List Ent) (w : World) (hA : EntsIn w A es) (hl : es.length ≤ maxLen) :
    Calls Tryz.prog 157 #[p.v, .slice A es.length c] w fun e w' => e = .returned (lastId p es).v ∧ Ext w w' := by
  unfold maxLen at hl
  by_cases h0 : 0 < es.length
  · obtain ⟨b, f, e, rfl, he, c0, c1, c2, c3, _⟩ := hA.at_ (k := es.length - 1) (by omega)
    have hv : Hid ((lastId p es).v = idV e.i e.t e.k) := Lib.hid (by
      have h : es[es.length - 1] = e := by
        have h2 := List.getElem?_eq_getElem (l := es) (i := es.length - 1) (by omega)
        rw [h2] at he; injection he
      simp [lastId, h0, h, Id.v, Ent.id])
    clear he
    have hbl : b < w.heap.size := World.block_lt_of_cell? w _ c0
    have d0 : decide ((0 : Int) < (es.length : Int)) = true := by simp; omega
    rw [hv.out]
    have hT : ((es.length : Int) - 1).toNat = es.length - 1 := by omega
    have hOf := of_any
    unfold idV at hOf
    unfold idV Id.v idV
    have HOF := Lib.hid hOf
    clear hOf
    go_enter Tryz.func157, Tryz.ntmps157
    go_wp2_with (go_at_call 171; refine (HOF.out _ _ _ _ _).mono ?_; rintro e w1 ⟨rfl, hE1⟩; have hb1 := hE1.blk (heap1 w _ _); have hr0 := cell_of_heap hb1 0; have hr1 := cell_of_heap hb1 1; have hr2 := cell_of_heap hb1 2; have hq0 := frozen_of_heap hb1; have hz := heap_lt hb1; simp at hr0 hr1 hr2; clear hb1)
    exact bodyPost_ret (v := .agg #[.int .i64 e.i, .int .i64 e.t, .int .i64 e.k]) (by simp [results, Tryz.results157, go_sem, hr0, hr1, hr2]) rfl ⟨rfl, ((((((Ext.refl _).alloc _).alloc _).trans hE1).set (by simp) _).set (by simp) _).set (by simp) _⟩
  · obtain rfl : es = [] := List.eq_nil_of_length_eq_zero (by omega)
    have hv : Hid ((lastId p []).v = idV p.i p.t p.k) := Lib.hid (by simp [lastId, Id.v])
    rw [hv.out]
    unfold Id.v idV
    go_enter Tryz.func157, Tryz.ntmps157
    go_wp2
    exact bodyPost_ret (v := .agg #[.int .i64 p.i, .int .i64 p.t, .int .i64 p.k]) (by simp [results, Tryz.results157, go_sem]) rfl ⟨rfl, ((Ext.refl _).alloc _).alloc _⟩

def numE (n : Int) : Value := .iface 255 (.int .i64 n)
def meetsN (a : Id) (e : Ent) : Int := if e.good = false then 4 else if e.i - 1 = a.i ∧ a.t ≤ e.t then 0 else 12
def meetsV (a : Id) (e : Ent) : Value := if meetsN a e = 0 then .nilIface else numE (meetsN a e)
theorem good_i {e : Ent} (h : e.good = true) : 1 ≤ e.i ∧ e.i ≤ 1099511627776 := by
  unfold Ent.good goodE at h
  simp only [Bool.and_eq_true] at h
  exact (rightE_iff.1 h.1).1
set_option maxRecDepth 100000 in
set_option maxHeartbeats 800000 in
theorem meets_any (a : Id) (e : Ent) (w : World) (hin : e.inW w) :
    Calls Tryz.prog 176 #[.agg #[.int .i64 a.i, .int .i64 a.t, .int .i64 a.k], .agg #[.int .i64 e.i, .int .i64 e.t, .int .i64 e.k, .slice e.bA e.bs.length e.bc]] w fun ev w' => ev = .returned (meetsV a e) ∧ Ext w w' := by
  obtain ⟨hD, hb, hl⟩ := hin
  have HB := Lib.hid hb
  clear hb
  cases hg : e.good with
  | false =>
    have hv : Hid (meetsV a e = numE 4) := Lib.hid (by simp [meetsV, meetsN, hg])
    have hg' : goodE e.i e.t e.k e.bs = false := hg
    clear hg
    rw [hv.out]
    unfold numE
    go_enter Tryz.func176, Tryz.ntmps176
    go_wp2_with (go_at_call 175; refine (good_any e.i e.t e.k e.bA e.bc e.bs _ (hD.ext (((Ext.refl w).alloc _).alloc _)) HB.out hl).mono ?_; rintro ev w1 ⟨rfl, hE1⟩; have HE1 := Lib.hid hE1; clear hE1)
    go_ret
    exact ⟨rfl, (((Ext.refl _).alloc _).alloc _).trans HE1.out⟩
  | true =>
    obtain ⟨b1, b2⟩ := good_i hg
    have hg' : goodE e.i e.t e.k e.bs = true := hg
    by_cases h1 : e.i - 1 = a.i
    · have d1 : (e.i - 1 != a.i) = false := by simp; omega
      by_cases h2 : a.t ≤ e.t
      · have d2 : decide (e.t < a.t) = false := by simp; omega
        have hv : Hid (meetsV a e = .nilIface) := Lib.hid (by simp [meetsV, meetsN, hg, h1, h2])
        clear hg h1
        rw [hv.out]
        go_enter Tryz.func176, Tryz.ntmps176
        go_wp2_with (go_at_call 175; refine (good_any e.i e.t e.k e.bA e.bc e.bs _ (hD.ext (((Ext.refl w).alloc _).alloc _)) HB.out hl).mono ?_; rintro ev w1 ⟨rfl, hE1⟩; have hb0 := hE1.blk (heap0 w _ _); have hb1 := hE1.blk (heap1 w _ _); have r0 := cell_of_heap hb0 0; have r1 := cell_of_heap hb0 1; have q0 := cell_of_heap hb1 0; have q1 := cell_of_heap hb1 1; simp at r0 r1 q0 q1; have HE1 := Lib.hid hE1; clear hE1 hb0 hb1)
        go_ret
        exact ⟨rfl, (((Ext.refl _).alloc _).alloc _).trans HE1.out⟩
      · have d2 : decide (e.t < a.t) = true := by simp; omega
        have hv : Hid (meetsV a e = numE 12) := Lib.hid (by simp [meetsV, meetsN, hg, h2])
        clear hg h1
        rw [hv.out]
        unfold numE
        go_enter Tryz.func176, Tryz.ntmps176
        go_wp2_with (go_at_call 175; refine (good_any e.i e.t e.k e.bA e.bc e.bs _ (hD.ext (((Ext.refl w).alloc _).alloc _)) HB.out hl).mono ?_; rintro ev w1 ⟨rfl, hE1⟩; have hb0 := hE1.blk (heap0 w _ _); have hb1 := hE1.blk (heap1 w _ _); have r0 := cell_of_heap hb0 0; have r1 := cell_of_heap hb0 1; have q0 := cell_of_heap hb1 0; have q1 := cell_of_heap hb1 1; simp at r0 r1 q0 q1; have HE1 := Lib.hid hE1; clear hE1 hb0 hb1)
        go_ret
        exact ⟨rfl, (((Ext.refl _).alloc _).alloc _).trans HE1.out⟩
    · have d1 : (e.i - 1 != a.i) = true := by simp; omega
      have hv : Hid (meetsV a e = numE 12) := Lib.hid (by simp [meetsV, meetsN, hg, h1])
      clear hg h1
      rw [hv.out]
      unfold numE
      go_enter Tryz.func176, Tryz.ntmps176
      go_wp2_with (go_at_call 175; refine (good_any e.i e.t e.k e.bA e.bc e.bs _ (hD.ext (((Ext.refl w).alloc _).alloc _)) HB.out hl).mono ?_; rintro ev w1 ⟨rfl, hE1⟩; have hb0 := hE1.blk (heap0 w _ _); have hb1 := hE1.blk (heap1 w _ _); have r0 := cell_of_heap hb0 0; have r1 := cell_of_heap hb0 1; have q0 := cell_of_heap hb1 0; have q1 := cell_of_heap hb1 1; simp at r0 r1 q0 q1; have HE1 := Lib.hid hE1; clear hE1 hb0 hb1)
      go_ret
      exact ⟨rfl, (((Ext.refl _).alloc _).alloc _).trans HE1.out⟩
end Go.Proofs.YtjnllilmimngoaaGreatDoor
namespace Go.Proofs.YtjnllilmimngoaaGreatDoor
open Go.RowKit

def brokenV (j : Nat) (n : Int) : Value := .iface 260 (.agg #[.int .i64 (j : Int), .iface 255 (.int .i64 n)])
def rowE (a : Id) (j : Nat) : List Ent → Option (Nat × Int)
  | [] => none
  | e :: es => if meetsN a e = 0 then rowE e.id (j + 1) es else some (j, meetsN a e)
def rowV : Option (Nat × Int) → Value
  | none => .nilIface
  | some (j, n) => brokenV j n
theorem rowE_step {a : Id} {k : Nat} {es : List Ent} {e : Ent} (h : es[k]? = some e) (hm : meetsN a e = 0) : rowE a k (es.drop k) = rowE e.id (k + 1) (es.drop (k + 1)) := by
  rw [drop_at h, rowE, if_pos hm]
theorem rowE_stop {a : Id} {k : Nat} {es : List Ent} {e : Ent} (h : es[k]? = some e) (hm : meetsN a e ≠ 0) : rowE a k (es.drop k) = some (k, meetsN a e) := by
  rw [drop_at h, rowE, if_neg hm]
theorem rowE_end {a : Id} {es : List Ent} : rowE a es.length (es.drop es.length) = none := by
  rw [List.drop_length]; rfl

def RowRel (es : List Ent) (a : Id) (w0 : World) (cb : Nat) (i : Value) (wr : World) : Prop :=
  ∃ (k : Nat) (a' : Id), k ≤ es.length ∧ i = .int .i64 k ∧ wr.heap[cb]? = some (.cells #[.int .i64 a'.i, .int .i64 a'.t, .int .i64 a'.k] 254) ∧ rowE a' k (es.drop k) = rowE a 0 es ∧ Ext w0 wr

set_option maxRecDepth 100000 in
set_option maxHeartbeats 2000000 in
theorem erow_any (w0 : World) (cb : Nat) (a : Id) (A : Option Addr) (c : Nat) (es : List Ent) (w : World) (hE0 : Ext w0 w) (hcb : w0.heap.size ≤ cb) (hA : EntsIn w0 A es) (hl : es.length ≤ maxLen)
    (hblk : w.heap[cb]? = some (.cells #[.int .i64 a.i, .int .i64 a.t, .int .i64 a.k] 254)) :
    Calls Tryz.prog 169 #[.pointer (some ⟨cb, 0, none⟩), .slice A es.length c] w fun ev w' => ev = .returned (rowV (rowE a 0 es)) ∧ Ext w0 w' := by
  unfold maxLen at hl
  have HBLK := Lib.hid hblk
  clear hblk
  go_enter Tryz.func169, Tryz.ntmps169
  go_wp2
  go_loopw [10] (fun i wr => RowRel es a w0 cb i wr) (fun i _ => es.length - (intOf i).toNat)
  case atStart => exact ⟨0, a, Nat.zero_le _, rfl, HBLK.out, rfl, hE0⟩
  case round =>
    clear hE0
    obtain ⟨k, a', hk, rfl, hb, hr, hE⟩ := hrel
    have HR := Lib.hid hr
    have HB := Lib.hid hb
    clear hr hb
    by_cases hlt : k < es.length
    · obtain ⟨b, f, e, rfl, he, c0, c1, c2, c3, hin⟩ := (hA.ext hE).at_ hlt
      have hbl : b < wr.heap.size := World.block_lt_of_cell? wr _ c0
      have HE := Lib.hid hE
      have HIN := Lib.hid hin
      have HEk := Lib.hid he
      clear hE hin he
      go_wp2_with fail
      have hbc := heap_lt HB.out
      have eb := heap_alloc_new wr (.cells #[.int .i64 e.i, .int .i64 e.t, .int .i64 e.k, .slice e.bA e.bs.length e.bc] 121)
      have ec := (heap_alloc_old wr (.cells #[.int .i64 e.i, .int .i64 e.t, .int .i64 e.k, .slice e.bA e.bs.length e.bc] 121) hbc).trans HB.out
      have EB := Lib.hid eb
      have EC := Lib.hid ec
      clear eb ec
      refine Stab.wp_region_lex Ext (Ext _) (fun _ => True) (by kernel_rfl) (by kernel_rfl) (fun _ _ h => h) (fun _ _ h k => Ext.trans h k) (fun _ _ _ _ => trivial) ((Ext.refl _).drew) trivial ?_
      simp only [Stab.zipL, Nat.reduceAdd]
      repeat (first
        | (refine Stab.wpX_val rfl rfl ?_; apply Exists.intro; refine ⟨fun wx hC _ => ?_, ?_⟩; (have g1 := hC.blk EB.out; have g2 := hC.blk EC.out; have r0 := cell_of_heap g1 0; have r1 := cell_of_heap g1 1; have r2 := cell_of_heap g1 2; have r3 := cell_of_heap g1 3; have q0 := cell_of_heap g2 0; have q1 := cell_of_heap g2 1; have q2 := cell_of_heap g2 2; simp at r0 r1 r2 r3 q0 q1 q2; clear g1 g2; go_simp; exact ⟨Ext.refl _, rfl⟩); simp only [Act.put, List.setIfInBounds_toArray, List.set_cons_zero, List.set_cons_succ])
        | (refine Stab.wpX_call1 rfl rfl (fun _ _ _ _ => trivial) ?_; apply Exists.intro; refine ⟨fun wx hC _ _ => ?_, ?_⟩; (go_simp; refine ⟨rfl, ?_⟩; refine (meets_any a' e _ (HIN.out.ext (((Ext.refl _).alloc _).trans hC))).mono ?_; rintro ev w9 ⟨rfl, hb9⟩; (first | exact ⟨hb9, rfl, trivial⟩ | exact ⟨hb9, rfl⟩)); simp only [Act.put, List.setIfInBounds_toArray, List.set_cons_zero, List.set_cons_succ]))
      refine Stab.wpX_end fun w8 hC8 _ _ => ?_
      have g1 := hC8.blk EB.out
      have g2 := hC8.blk EC.out
      have hE8 : Ext w0 w8 := (HE.out.alloc _).trans hC8
      have HC8 := Lib.hid hE8
      have r0 := cell_of_heap g1 0
      have r1 := cell_of_heap g1 1
      have r2 := cell_of_heap g1 2
      have r3 := cell_of_heap g1 3
      have hz := heap_lt g1
      have HG2 := Lib.hid g2
      simp at r0 r1 r2 r3
      clear g1 g2 hC8 hE8
      by_cases hm : meetsN a' e = 0
      · have hv : meetsV a' e = .nilIface := by simp [meetsV, hm]
        have HV := Lib.hid (rowE_step HEk.out hm)
        clear hm
        rw [hv]
        clear hv
        go_wp2_with (go_at_call 171; refine (of_any e.i e.t e.k (.slice e.bA e.bs.length e.bc) _).mono ?_; unfold idV; rintro ev w9 ⟨rfl, hE9⟩; have g3 := hE9.blk HG2.out; have q0 := cell_of_heap g3 0; have q1 := cell_of_heap g3 1; have q2 := cell_of_heap g3 2; have q9 := frozen_of_heap g3; simp at q0 q1 q2; have HG3 := Lib.hid g3; have HE9 := Lib.hid hE9; clear g3 hE9)
        go_roundw
        case rel =>
          refine ⟨k + 1, e.id, by omega, by go_num, ?_, by rw [← HV.out]; exact HR.out, (((HC8.out.trans HE9.out).set hcb _).set hcb _).set hcb _⟩
          rw [heap_set (heap_set (heap_set HG3.out))]
          rfl
        case measure => simp [intOf]; omega
      · have hv : meetsV a' e = numE (meetsN a' e) := by simp [meetsV, hm]
        have HV := Lib.hid (rowE_stop HEk.out hm)
        clear hm
        rw [hv]
        clear hv
        unfold numE
        have hp : Hid (rowV (rowE a 0 es) = brokenV k (meetsN a' e)) := Lib.hid (by rw [← HR.out, HV.out]; rfl)
        go_wp2
        go_ret
        exact ⟨by rw [hp.out]; rfl, HC8.out⟩
    · obtain rfl : k = es.length := by omega
      have hp : Hid (rowV (rowE a 0 es) = .nilIface) := Lib.hid (by rw [← HR.out, rowE_end]; rfl)
      go_wp2
      go_ret
      exact ⟨by rw [hp.out]; rfl, hE⟩
end Go.Proofs.YtjnllilmimngoaaGreatDoor
namespace Go.Proofs.YtjnllilmimngoaaGreatDoor
open Go.RowKit Go.Extern.Stop Go.Stop Go.Extern

namespace Er
theorem typeOfE (v : Value) (w : World) : (Extern.ReflectliteType.typeOf #[.iface 255 v]).run Tryz.prog w = .ok (.iface 216 (.agg #[.pointer (some ⟨1, 255, none⟩)])) w := by kernel_rfl
theorem noIsB (v : Value) (xT : TypeId) (w : World) : (Instr.typeAssert (.iface 260 v) xT 218 true).run Tryz.prog w = .ok (.tuple #[.nilIface, .bool false]) w := run_typeAssert_lacksB Tryz.underlying218 (by kernel_rfl) (by kernel_rfl) v xT w
theorem noIsE (v : Value) (xT : TypeId) (w : World) : (Instr.typeAssert (.iface 255 v) xT 218 true).run Tryz.prog w = .ok (.tuple #[.nilIface, .bool false]) w := run_typeAssert_lacksB Tryz.underlying218 (by kernel_rfl) (by kernel_rfl) v xT w
theorem hasUnwrapB (v : Value) (xT : TypeId) (w : World) : (Instr.typeAssert (.iface 260 v) xT 221 true).run Tryz.prog w = .ok (.tuple #[.iface 260 v, .bool true]) w := run_typeAssert_hasB Tryz.underlying221 (by kernel_rfl) v xT w
theorem noUnwrapE (v : Value) (xT : TypeId) (w : World) : (Instr.typeAssert (.iface 255 v) xT 221 true).run Tryz.prog w = .ok (.tuple #[.nilIface, .bool false]) w := run_typeAssert_lacksB Tryz.underlying221 (by kernel_rfl) (by kernel_rfl) v xT w
theorem noUnwrapsE (v : Value) (xT : TypeId) (w : World) : (Instr.typeAssert (.iface 255 v) xT 223 true).run Tryz.prog w = .ok (.tuple #[.nilIface, .bool false]) w := run_typeAssert_lacksB Tryz.underlying223 (by kernel_rfl) (by kernel_rfl) v xT w
theorem methodUnwrapB (v : Value) (w : World) : (Go.method 393 260 v "Unwrap").run Tryz.prog w = .ok (223, v) w := by kernel_rfl
theorem eqE12 (w : World) : (binOp .eql 101 (.iface 255 (.int .i64 12)) (.iface 255 (.int .i64 12))).run Tryz.prog w = .ok (.bool true) w := by kernel_rfl
theorem eqE4 (w : World) : (binOp .eql 101 (.iface 255 (.int .i64 4)) (.iface 255 (.int .i64 12))).run Tryz.prog w = .ok (.bool false) w := by kernel_rfl
end Er

theorem unwrapB (x v : Value) (w : World) (_hx : x.cells = #[x]) : Calls Tryz.prog 223 #[.agg #[x, v]] w fun e w' => e = .returned v ∧ Ext w w' := by
  go_enter Tryz.func223, Tryz.ntmps223
  go_wp2
  go_ret
  exact ⟨rfl, (Ext.refl w).alloc _⟩

set_option maxRecDepth 100000 in
theorem is_broken12 (j : Nat) (w : World) : Calls Tryz.prog 94 #[brokenV j 12, numE 12, .bool true] w fun e w' => e = .returned (.bool true) ∧ Ext w w' := by
  have nP := Er.noIsB
  have uP := Er.hasUnwrapB
  have mP := Er.methodUnwrapB
  have heq := Er.eqE12
  have hty := run_eql_iface_types (P := Tryz.prog) 260 255 (.agg #[.int .i64 (j : Int), .iface 255 (.int .i64 12)]) (.int .i64 12) Tryz.underlying101 (by decide) w
  unfold brokenV numE
  go_enter Tryz.func94, Tryz.ntmps94
  go_wp2
  refine wp_loop_rounds 2 ?_
  rw [rounds_succ]
  go_wp2_with (go_at_call 223; refine (unwrapB _ _ _ rfl).mono ?_; rintro e w1 ⟨rfl, hE1⟩)
  rw [rounds_succ]
  go_wp2
  go_ret
  exact ⟨rfl, hE1⟩
set_option maxRecDepth 100000 in
theorem is_broken4 (j : Nat) (w : World) : Calls Tryz.prog 94 #[brokenV j 4, numE 12, .bool true] w fun e w' => e = .returned (.bool false) ∧ Ext w w' := by
  have nP := Er.noIsB
  have uP := Er.hasUnwrapB
  have nE := Er.noIsE
  have uE := Er.noUnwrapE
  have usE := Er.noUnwrapsE
  have mP := Er.methodUnwrapB
  have heq := Er.eqE4
  have hty := run_eql_iface_types (P := Tryz.prog) 260 255 (.agg #[.int .i64 (j : Int), .iface 255 (.int .i64 4)]) (.int .i64 12) Tryz.underlying101 (by decide) w
  unfold brokenV numE
  go_enter Tryz.func94, Tryz.ntmps94
  go_wp2
  refine wp_loop_rounds 2 ?_
  rw [rounds_succ]
  go_wp2_with (go_at_call 223; refine (unwrapB _ _ _ rfl).mono ?_; rintro e w1 ⟨rfl, hE1⟩)
  rw [rounds_succ]
  go_wp2
  go_ret
  exact ⟨rfl, hE1⟩
set_option maxRecDepth 100000 in
theorem Is_nilE (n : Int) (w : World) : Calls Tryz.prog 50 #[.nilIface, numE n] w fun e w' => e = .returned (.bool false) ∧ w = w' := by
  have hn := fun w => run_eql_iface_nil_left (P := Tryz.prog) w 255 (.int .i64 n) Tryz.underlying101
  unfold numE
  go_enter Tryz.func50, Tryz.ntmps50
  go_wp2
  go_ret
  exact ⟨rfl, rfl⟩
end Go.Proofs.YtjnllilmimngoaaGreatDoor
namespace Go.Proofs.YtjnllilmimngoaaGreatDoor
open Go.RowKit Go.Extern.Stop Go.Stop Go.Extern

namespace Er
theorem xTypeOf (args : Array Value) (w : World) : (callFunc 93 args).run Tryz.prog w = (((Extern.ReflectliteType.typeOf) args).run Tryz.prog w).andThen fun v w' => .ok (.value v) w' :=
  run_callFunc_extern (e := Extern.ReflectliteType.typeOf) Tryz.func93 (by kernel_rfl) (by kernel_rfl) (by kernel_rfl) (by kernel_rfl) args w
theorem xComparable (args : Array Value) (w : World) : (callFunc 208 args).run Tryz.prog w = (((Extern.ReflectliteType.method fun t => do Rtype.noPackHeld "Comparable" t; pure (.bool (← typeInfo t).comparable)) args).run Tryz.prog w).andThen fun v w' => .ok (.value v) w' :=
  run_callFunc_extern (e := Extern.ReflectliteType.method fun t => do Rtype.noPackHeld "Comparable" t; pure (.bool (← typeInfo t).comparable)) Tryz.func208 (by kernel_rfl) (by kernel_rfl) (by kernel_rfl) (by kernel_rfl) args w
theorem xValueOf (args : Array Value) (w : World) : (callFunc 134 args).run Tryz.prog w = (((fun args => ReflectliteValue.unpack (args.getD 0 (.tuple #[]))) args).run Tryz.prog w).andThen fun v w' => .ok (.value v) w' :=
  run_callFunc_extern (e := fun args => ReflectliteValue.unpack (args.getD 0 (.tuple #[]))) Tryz.func134 (by kernel_rfl) (by kernel_rfl) (by kernel_rfl) (by kernel_rfl) args w
theorem xType (args : Array Value) (w : World) : (callFunc 135 args).run Tryz.prog w = (((ReflectliteValue.methodAny (ReflectliteValue.valueError "reflectlite.Value.Type" 0) (fun t _ _ _ => ReflectliteType.toType t)) args).run Tryz.prog w).andThen fun v w' => .ok (.value v) w' :=
  run_callFunc_extern (e := ReflectliteValue.methodAny (ReflectliteValue.valueError "reflectlite.Value.Type" 0) (fun t _ _ _ => ReflectliteType.toType t)) Tryz.func135 (by kernel_rfl) (by kernel_rfl) (by kernel_rfl) (by kernel_rfl) args w
theorem xIsNil (args : Array Value) (w : World) : (callFunc 136 args).run Tryz.prog w = (((ReflectliteValue.method (ReflectliteValue.valueError "reflectlite.Value.IsNil" 0) ReflectliteValue.isNil) args).run Tryz.prog w).andThen fun v w' => .ok (.value v) w' :=
  run_callFunc_extern (e := ReflectliteValue.method (ReflectliteValue.valueError "reflectlite.Value.IsNil" 0) ReflectliteValue.isNil) Tryz.func136 (by kernel_rfl) (by kernel_rfl) (by kernel_rfl) (by kernel_rfl) args w
theorem xKind (args : Array Value) (w : World) : (callFunc 196 args).run Tryz.prog w = (((ReflectliteType.abiMethod fun t => do pure (.int .u8 (← Rtype.kind t))) args).run Tryz.prog w).andThen fun v w' => .ok (.value v) w' :=
  run_callFunc_extern (e := ReflectliteType.abiMethod fun t => do pure (.int .u8 (← Rtype.kind t))) Tryz.func196 (by kernel_rfl) (by kernel_rfl) (by kernel_rfl) (by kernel_rfl) args w
theorem xElem (args : Array Value) (w : World) : (callFunc 209 args).run Tryz.prog w = (((ReflectliteType.method ReflectliteType.elem) args).run Tryz.prog w).andThen fun v w' => .ok (.value v) w' :=
  run_callFunc_extern (e := ReflectliteType.method ReflectliteType.elem) Tryz.func209 (by kernel_rfl) (by kernel_rfl) (by kernel_rfl) (by kernel_rfl) args w
theorem xImplements (args : Array Value) (w : World) : (callFunc 210 args).run Tryz.prog w = (((ReflectliteType.relation "Implements" ReflectliteType.implements_) args).run Tryz.prog w).andThen fun v w' => .ok (.value v) w' :=
  run_callFunc_extern (e := ReflectliteType.relation "Implements" ReflectliteType.implements_) Tryz.func210 (by kernel_rfl) (by kernel_rfl) (by kernel_rfl) (by kernel_rfl) args w
theorem xAssignable (args : Array Value) (w : World) : (callFunc 207 args).run Tryz.prog w = (((ReflectliteType.relation "AssignableTo" ReflectliteType.assignableTo) args).run Tryz.prog w).andThen fun v w' => .ok (.value v) w' :=
  run_callFunc_extern (e := ReflectliteType.relation "AssignableTo" ReflectliteType.assignableTo) Tryz.func207 (by kernel_rfl) (by kernel_rfl) (by kernel_rfl) (by kernel_rfl) args w
theorem xElemV (args : Array Value) (w : World) : (callFunc 163 args).run Tryz.prog w = (((ReflectliteValue.method (ReflectliteValue.valueError "reflectlite.Value.Elem" 0) ReflectliteValue.elem) args).run Tryz.prog w).andThen fun v w' => .ok (.value v) w' :=
  run_callFunc_extern (e := ReflectliteValue.method (ReflectliteValue.valueError "reflectlite.Value.Elem" 0) ReflectliteValue.elem) Tryz.func163 (by kernel_rfl) (by kernel_rfl) (by kernel_rfl) (by kernel_rfl) args w
theorem xSet (args : Array Value) (w : World) : (callFunc 164 args).run Tryz.prog w = (((ReflectliteValue.set) args).run Tryz.prog w).andThen fun v w' => .ok (.value v) w' :=
  run_callFunc_extern (e := ReflectliteValue.set) Tryz.func164 (by kernel_rfl) (by kernel_rfl) (by kernel_rfl) (by kernel_rfl) args w
end Er
end Go.Proofs.YtjnllilmimngoaaGreatDoor
namespace Go.Proofs.YtjnllilmimngoaaGreatDoor
open Go.RowKit Go.Extern.Stop Go.Stop Go.Extern

namespace Er
theorem comparableE2 (w : World) : ((Extern.ReflectliteType.method fun t => do Rtype.noPackHeld "Comparable" t; (fun a => Value.bool a.comparable) <$> typeInfo t) #[.agg #[.pointer (some ⟨1, 255, none⟩)]]).run Tryz.prog w = .ok (.bool true) w := by kernel_rfl
theorem methodComparableR (v : Value) (w : World) : (Go.method 393 216 v "Comparable").run Tryz.prog w = .ok (208, v) w := by kernel_rfl
end Er

set_option maxRecDepth 100000 in
theorem Is_broken12 (j : Nat) (w : World) : Calls Tryz.prog 50 #[brokenV j 12, numE 12] w fun e w' => e = .returned (.bool true) ∧ Ext w w' := by
  have h1 := Er.xTypeOf
  have h2 := Er.xComparable
  have h3 := Er.typeOfE
  have h4 := Er.comparableE2
  have h5 := Er.methodComparableR
  have hI := fun w => is_broken12 j w
  have HI := Lib.hid hI
  clear hI
  unfold brokenV numE at HI ⊢
  go_enter Tryz.func50, Tryz.ntmps50
  go_wp2_with (go_at_call 94; refine (HI.out _).mono ?_; rintro e w1 ⟨rfl, hE1⟩)
  go_ret
  exact ⟨rfl, hE1⟩
set_option maxRecDepth 100000 in
theorem Is_broken4 (j : Nat) (w : World) : Calls Tryz.prog 50 #[brokenV j 4, numE 12] w fun e w' => e = .returned (.bool false) ∧ Ext w w' := by
  have h1 := Er.xTypeOf
  have h2 := Er.xComparable
  have h3 := Er.typeOfE
  have h4 := Er.comparableE2
  have h5 := Er.methodComparableR
  have hI := fun w => is_broken4 j w
  have HI := Lib.hid hI
  clear hI
  unfold brokenV numE at HI ⊢
  go_enter Tryz.func50, Tryz.ntmps50
  go_wp2_with (go_at_call 94; refine (HI.out _).mono ?_; rintro e w1 ⟨rfl, hE1⟩)
  go_ret
  exact ⟨rfl, hE1⟩
end Go.Proofs.YtjnllilmimngoaaGreatDoor
namespace Go.Proofs.YtjnllilmimngoaaGreatDoor
open Go.RowKit Go.Extern.Stop Go.Stop Go.Extern

namespace Er
theorem valueOfPE (t : Addr) (w : World) : (ReflectliteValue.unpack (.iface 261 (.pointer (some t)))).run Tryz.prog w
    = .ok (.agg #[.pointer (some ⟨1, 261, none⟩), .pointer (some ⟨w.heap.size, 0, none⟩), .int .u64 150]) (w.alloc (.cells #[.pointer (some t)] 261)) := by kernel_rfl
theorem valueOfE (n : Int) (w : World) : (ReflectliteValue.unpack (.iface 255 (.int .i64 n))).run Tryz.prog w
    = .ok (.agg #[.pointer (some ⟨1, 255, none⟩), .pointer (some ⟨w.heap.size, 0, none⟩), .int .u64 130]) (w.alloc (.cells #[.int .i64 n] 255)) := by kernel_rfl
theorem typePE (a : Addr) (w : World) : (ReflectliteValue.methodAny (ReflectliteValue.valueError "reflectlite.Value.Type" 0) (fun t _ _ _ => ReflectliteType.toType t) #[.agg #[.pointer (some ⟨1, 261, none⟩), .pointer (some a), .int .u64 150]]).run Tryz.prog w
    = .ok (.iface 216 (.agg #[.pointer (some ⟨1, 261, none⟩)])) w := by kernel_rfl
theorem methodKindR (h : Value) (w : World) : (Go.method 393 216 (.agg #[h]) "Kind").run Tryz.prog w = .ok (196, h) w := by kernel_rfl
theorem methodElemR (h : Value) (w : World) : (Go.method 393 216 (.agg #[h]) "Elem").run Tryz.prog w = .ok (209, .agg #[h]) w := by kernel_rfl
theorem methodImplementsR (h : Value) (w : World) : (Go.method 393 216 (.agg #[h]) "Implements").run Tryz.prog w = .ok (210, .agg #[h]) w := by kernel_rfl
theorem methodAssignableR (h : Value) (w : World) : (Go.method 393 216 (.agg #[h]) "AssignableTo").run Tryz.prog w = .ok (207, .agg #[h]) w := by kernel_rfl
theorem kindPE (w : World) : ((ReflectliteType.abiMethod fun t => (fun a : Nat => Value.int IntKind.u8 (a : Int)) <$> Rtype.kind t) #[.pointer (some ⟨1, 261, none⟩)]).run Tryz.prog w = .ok (.int .u8 22) w := by kernel_rfl
theorem kindE (w : World) : ((ReflectliteType.abiMethod fun t => (fun a : Nat => Value.int IntKind.u8 (a : Int)) <$> Rtype.kind t) #[.pointer (some ⟨1, 255, none⟩)]).run Tryz.prog w = .ok (.int .u8 2) w := by kernel_rfl
theorem elemPE (w : World) : (ReflectliteType.method ReflectliteType.elem #[.agg #[.pointer (some ⟨1, 261, none⟩)]]).run Tryz.prog w = .ok (.iface 216 (.agg #[.pointer (some ⟨1, 255, none⟩)])) w := by kernel_rfl
theorem implementsE (w : World) : (ReflectliteType.relation "Implements" ReflectliteType.implements_ #[.agg #[.pointer (some ⟨1, 255, none⟩)], .iface 216 (.agg #[.pointer (some ⟨1, 101, none⟩)])]).run Tryz.prog w = .ok (.bool true) w := by kernel_rfl
theorem typeOfB (v : Value) (w : World) : (ReflectliteType.typeOf #[.iface 260 v]).run Tryz.prog w = .ok (.iface 216 (.agg #[.pointer (some ⟨1, 260, none⟩)])) w := by kernel_rfl
theorem assignableE (w : World) : (ReflectliteType.relation "AssignableTo" ReflectliteType.assignableTo #[.agg #[.pointer (some ⟨1, 255, none⟩)], .iface 216 (.agg #[.pointer (some ⟨1, 255, none⟩)])]).run Tryz.prog w = .ok (.bool true) w := by kernel_rfl
theorem assignableB (w : World) : (ReflectliteType.relation "AssignableTo" ReflectliteType.assignableTo #[.agg #[.pointer (some ⟨1, 260, none⟩)], .iface 216 (.agg #[.pointer (some ⟨1, 255, none⟩)])]).run Tryz.prog w = .ok (.bool false) w := by kernel_rfl
theorem noAsB (v : Value) (xT : TypeId) (w : World) : (Instr.typeAssert (.iface 260 v) xT 243 true).run Tryz.prog w = .ok (.tuple #[.nilIface, .bool false]) w := run_typeAssert_lacksB Tryz.underlying243 (by kernel_rfl) (by kernel_rfl) v xT w

theorem rlm (z : Sem Value) (f : TypeId → Addr → Nat → Nat → Sem Value) (v : Value) :
    ReflectliteValue.method z f #[v] = (do match ← ReflectliteValue.parts v with | none => z | some (t, a, fl) => f t a fl (fl % 32)) := rfl
theorem partsPE (a : Addr) (w : World) : (ReflectliteValue.parts (.agg #[.pointer (some ⟨1, 261, none⟩), .pointer (some a), .int .u64 150])).run Tryz.prog w = .ok (some (261, a, 150)) w := by kernel_rfl
theorem isNilPE (a p : Addr) (W : World) (ha : W.cell? a = some (.pointer (some p))) :
    (ReflectliteValue.method (ReflectliteValue.valueError "reflectlite.Value.IsNil" 0) ReflectliteValue.isNil #[.agg #[.pointer (some ⟨1, 261, none⟩), .pointer (some a), .int .u64 150]]).run Tryz.prog W = .ok (.bool false) W := by
  rw [rlm]
  simp only [Sem.run_bind, partsPE, Result.andThen]
  simp [ReflectliteValue.isNil, loadVar, isAgg, underlying, Tryz.underlying261, ha, Result.andThen]
theorem elemOfPE (w : World) : (Rtype.elem? 261).run Tryz.prog w = .ok (some 255) w := by kernel_rfl
theorem mkE (p : Addr) (w : World) : (ReflectliteValue.mk 255 p ReflectliteValue.flagAddr).run Tryz.prog w = .ok (.agg #[.pointer (some ⟨1, 255, none⟩), .pointer (some p), .int .u64 386]) w := by kernel_rfl
theorem elemVPE (a p : Addr) (W : World) (ha : W.cell? a = some (.pointer (some p))) :
    (ReflectliteValue.method (ReflectliteValue.valueError "reflectlite.Value.Elem" 0) ReflectliteValue.elem #[.agg #[.pointer (some ⟨1, 261, none⟩), .pointer (some a), .int .u64 150]]).run Tryz.prog W
      = .ok (.agg #[.pointer (some ⟨1, 255, none⟩), .pointer (some p), .int .u64 386]) W := by
  rw [rlm]
  simp only [Sem.run_bind, partsPE, Result.andThen]
  simp [ReflectliteValue.elem, loadVar, isAgg, underlying, Tryz.underlying261, ha, Result.andThen, elemOfPE, mkE]
theorem rls (v x : Value) : ReflectliteValue.set #[v, x] = (do
    let (some (dst, a, fl), some (src, b, _)) := (← ReflectliteValue.parts v, ← ReflectliteValue.parts x)
      | unsupported (.noEntry "extern/(internal/reflectlite.Value).Set.zeroValue")
    if fl / ReflectliteValue.flagAddr % 2 == 0 then unsupported (.noEntry "extern/(internal/reflectlite.Value).Set.unaddressable")
    let val ← loadVar src b
    if ← Rtype.directlyAssignable dst src then storeVar dst a val
    else if ← Rtype.implements dst src then
      if (← Rtype.kind src) == 20 then
        match val with
        | .nilIface => unsupported (.noEntry "extern/reflectlite: a nil value of one interface type handed on as a value of another")
        | _ => storeVar dst a val
      else storeVar dst a (.iface src val)
    else panicString ("reflectlite.Set: value of type " ++ (← Rtype.spelt src) ++ " is not assignable to type " ++ (← Rtype.spelt dst))
    pure (.tuple #[])) := rfl
theorem partsEa (a : Addr) (w : World) : (ReflectliteValue.parts (.agg #[.pointer (some ⟨1, 255, none⟩), .pointer (some a), .int .u64 386])).run Tryz.prog w = .ok (some (255, a, 386)) w := by kernel_rfl
theorem partsE (a : Addr) (w : World) : (ReflectliteValue.parts (.agg #[.pointer (some ⟨1, 255, none⟩), .pointer (some a), .int .u64 130])).run Tryz.prog w = .ok (some (255, a, 130)) w := by kernel_rfl
theorem directE (w : World) : (Rtype.directlyAssignable 255 255).run Tryz.prog w = .ok true w := by kernel_rfl
theorem setE (ta b : Addr) (n : Int) (old : Value) (W : World) (hb : W.cell? b = some (.int .i64 n)) (ht : W.cell? ta = some old) (hf : W.frozen? ta = false) :
    (ReflectliteValue.set #[.agg #[.pointer (some ⟨1, 255, none⟩), .pointer (some ta), .int .u64 386], .agg #[.pointer (some ⟨1, 255, none⟩), .pointer (some b), .int .u64 130]]).run Tryz.prog W
      = .ok (.tuple #[]) (W.setCell ta (.int .i64 n)) := by
  rw [rls]
  simp only [Sem.run_bind, partsEa, partsE, Result.andThen]
  simp [ReflectliteValue.flagAddr, loadVar, isAgg, underlying, Tryz.underlying255, hb, Result.andThen, directE, storeVar, Value.cells, storeCells, Addr.add]
  rw [run_store Tryz.prog W ta _ _ (by rfl)]
  simp [ht, hf]
end Er

theorem As_nil (t : Value) (w : World) :
    Calls Tryz.prog 91 #[.nilIface, t] w fun e w' => e = .returned (.bool false) ∧ w = w' := by
  go_enter Tryz.func91, Tryz.ntmps91
  go_wp2
  go_ret
  exact ⟨rfl, rfl⟩
end Go.Proofs.YtjnllilmimngoaaGreatDoor
