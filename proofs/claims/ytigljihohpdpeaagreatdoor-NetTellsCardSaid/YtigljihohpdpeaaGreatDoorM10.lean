/-
  Members of bytes; what a good entry is.
  Identities and entries in memory; Of, Last, meets.
-/
import Derived.Test.YtigljihohpdpeaaGreatDoorM9
namespace Go.Proofs.YtigljihohpdpeaaGreatDoor
open Go.RowKit

theorem mkInts (n : Nat) (hn : n ≤ 1000000000) (w : World) : (Instr.makeSlice 38 (.int .i64 (n : Int)) (.int .i64 (n : Int))).run Tryz.prog w = .ok (.slice (some ⟨w.heap.size, 0, none⟩) n n) (w.alloc (.cells (madeCells #[.int .i64 0] n) 3)) := by
  obtain ⟨i0, hi, hz0, hz1, hz2⟩ := info_parts Tryz.infoEInts
  exact run_mk0 (P := Tryz.prog) 38 3 i0 _ Tryz.underlying38 hi hz0 hz1 n n (n : Int) rfl (by omega) (by omega) (by omega) w
theorem own_ints (w : World) (n : Nat) (hn : n ≤ 1000000000) : Own (w.alloc (.cells (madeCells #[.int .i64 0] n) 3)) w.heap.size 3 (some ⟨w.heap.size, 0, none⟩) n ((List.replicate n 0).map (.int .i64)) := by
  refine Own.mk (Nat.le_refl _) (heap_alloc_new w _) (by simp) (by unfold maxLen; omega) (size_madeCells _ _) ?_
  rw [toList_madeCells_one]
  simp

def okBytes (bs : List Int) : Prop := ∀ x ∈ bs, 0 ≤ x ∧ x ≤ 255
def memsB (bs : List Int) : Bool := decide (bs.length ≤ 7) && memR bs
def MemRel (bs : List Int) (w0 : World) (g : Nat) (i : Value) (wr : World) : Prop :=
  ∃ k : Nat, k ≤ bs.length ∧ i = .int .i64 k ∧ Own wr w0.heap.size 3 (some ⟨g, 0, none⟩) bs.length ((bs.take k ++ List.replicate (bs.length - k) 0).map (.int .i64)) ∧ Ext w0 wr
theorem fill_step {bs : List Int} {k : Nat} {x : Int} (hk : k < bs.length) (hx : bs[k]? = some x) :
    ((bs.take k ++ List.replicate (bs.length - k) 0).map (Value.int .i64)).set k (.int .i64 x) = (bs.take (k + 1) ++ List.replicate (bs.length - (k + 1)) 0).map (Value.int .i64) := by
  rw [take_snoc' hx]
  obtain ⟨m, hm⟩ : ∃ m, bs.length - k = m + 1 := ⟨bs.length - k - 1, by omega⟩
  have hm' : bs.length - (k + 1) = m := by omega
  rw [hm, hm', List.replicate_succ, List.map_append, List.map_append, List.map_append]
  rw [set_app0 (l := List.map (Value.int .i64) (bs.take k)) (by simp; omega)]
  simp
def MemPost (ok : Bool) (w : World) (e : Ending) (w' : World) : Prop := ∃ v, e = .returned (.tuple #[v, .int .i64 (if ok = true then 0 else 4)]) ∧ Ext w w'
set_option maxHeartbeats 1000000 in
theorem ofBytes_any (A : Option Addr) (c : Nat) (bs : List Int) (w : World) (hA : Rd w A (bs.map (.int .u8))) (hb : okBytes bs) (hl : bs.length ≤ maxLen) :
    Calls Tryz.prog 83 #[.slice A bs.length c] w (MemPost (memsB bs) w) := by
  unfold maxLen at hl
  by_cases h7 : bs.length ≤ 7
  · have d7 : decide (7 < (bs.length : Int)) = false := by simp; omega
    have hmk := mkInts bs.length (by omega)
    have hb' : Hid (okBytes bs) := Lib.hid hb
    clear hb
    go_enter Tryz.func83, Tryz.ntmps83
    go_wp2
    go_loopw [15] (fun i wr => MemRel bs w w.heap.size i wr) (fun i _ => bs.length - (intOf i).toNat)
    case atStart => exact ⟨0, Nat.zero_le _, rfl, by simpa using own_ints w bs.length (by omega), (Ext.refl w).alloc _⟩
    case round =>
      obtain ⟨k, hk, rfl, hown, hE⟩ := hrel
      have hf := fun j => hown.frozen j
      by_cases hlt : k < bs.length
      · obtain ⟨ad, x, rfl, hc, hx⟩ := (hA.ext hE).int hlt
        have hb2 := hb'.out x (List.mem_of_getElem? hx)
        obtain ⟨hb3, hb4⟩ := hb2
        have HX := Lib.hid hx
        have HE := Lib.hid hE
        obtain ⟨ad2, ha2, hc2⟩ := hown.rd.at_ (k := k) (by simp; omega)
        injection ha2 with ha2
        subst ha2
        rw [add_lit', Nat.zero_add] at hc2
        clear hx hE
        have hfk := hf k
        clear hf
        go_wp2
        go_roundw
        case rel =>
          refine ⟨k + 1, by omega, by go_num, ?_, HE.out.set (Nat.le_refl _) _⟩
          rw [← fill_step hlt HX.out]
          exact hown.set k _
        case measure => simp [intOf]; omega
      · obtain rfl : k = bs.length := by omega
        rw [List.take_length, Nat.sub_self, List.replicate_zero, List.append_nil] at hown
        have HE := Lib.hid hE
        clear hE hf
        cases hm : memR bs with
        | true =>
          have hv : Hid (memsB bs = true) := Lib.hid (by simp [memsB, h7, hm])
          go_wp2_with (go_at_call 80; refine (members_any _ _ bs _ hown.rd (by unfold maxLen; omega)).mono ?_; rintro e w' ⟨rfl, rfl⟩)
          go_ret2
          exact ⟨_, by rw [hv.out]; rfl, HE.out⟩
        | false =>
          have hv : Hid (memsB bs = false) := Lib.hid (by simp [memsB, hm])
          go_wp2_with (go_at_call 80; refine (members_any _ _ bs _ hown.rd (by unfold maxLen; omega)).mono ?_; rintro e w' ⟨rfl, rfl⟩)
          go_ret2
          exact ⟨_, by rw [hv.out]; rfl, HE.out⟩
  · have d7 : decide (7 < (bs.length : Int)) = true := by simp; omega
    have hv : Hid (memsB bs = false) := Lib.hid (by simp [memsB, h7])
    go_enter Tryz.func83, Tryz.ntmps83
    go_wp2
    go_ret2
    exact ⟨_, by rw [hv.out]; rfl, Ext.refl _⟩

/-- Whether an entry is good. -/
def goodE (i t k : Int) (bs : List Int) : Bool := rightE i t k bs.length && (if k = 1 then decide (bs.length = 0) else if k = 2 then true else memsB bs)
set_option maxHeartbeats 1000000 in
theorem good_any (i t k : Int) (D : Option Addr) (d : Nat) (bs : List Int) (w : World) (hD : Rd w D (bs.map (.int .u8))) (hb : okBytes bs) (hl : bs.length ≤ maxLen) :
    Calls Tryz.prog 78 #[.agg #[.int .i64 i, .int .i64 t, .int .i64 k, .slice D bs.length d]] w fun e w' => e = .returned (.bool (goodE i t k bs)) ∧ Ext w w' := by
  cases hR : rightE i t k bs.length with
  | false =>
    have hv : Hid (goodE i t k bs = false) := Lib.hid (by simp [goodE, hR])
    clear hb hl
    go_enter Tryz.func78, Tryz.ntmps78
    go_wp2_with (go_at_call 82; refine (right_any _ _ _ _ _ _ _).mono ?_; rintro e w1 ⟨rfl, hE1⟩; have hb := cell_of_heap (hE1.below.block w.heap.size (by simp) |>.trans (heap_alloc_new w _)); have hc2 := hb 2; have hc3 := hb 3; clear hb; simp at hc2 hc3; have HE1 := Lib.hid hE1; clear hE1)
    go_ret
    exact ⟨by rw [hv.out]; rfl, ((Ext.refl _).alloc _).trans HE1.out⟩
  | true =>
    by_cases h1 : k = 1
    · subst h1
      by_cases h0 : bs.length = 0
      · obtain rfl : bs = [] := List.eq_nil_of_length_eq_zero h0
        have hv : Hid (goodE i t 1 [] = true) := Lib.hid (by simp [goodE]; exact hR)
        have hR0 : rightE i t 1 0 = true := hR
        clear hb hl h0
        go_enter Tryz.func78, Tryz.ntmps78
        go_wp2_with (go_at_call 82; refine (right_any _ _ _ _ _ _ _).mono ?_; rintro e w1 ⟨rfl, hE1⟩; have hb := cell_of_heap (hE1.below.block w.heap.size (by simp) |>.trans (heap_alloc_new w _)); have hc2 := hb 2; have hc3 := hb 3; clear hb; simp at hc2 hc3; have HE1 := Lib.hid hE1; clear hE1)
        go_ret
        exact ⟨by rw [hv.out]; rfl, ((Ext.refl _).alloc _).trans HE1.out⟩
      · have d0 : decide (0 < bs.length) = true := by simp; omega
        have hv : Hid (goodE i t 1 bs = false) := Lib.hid (by simp [goodE]; intro _ h; subst h; exact h0 rfl)
        clear hb hl h0
        go_enter Tryz.func78, Tryz.ntmps78
        go_wp2_with (go_at_call 82; refine (right_any _ _ _ _ _ _ _).mono ?_; rintro e w1 ⟨rfl, hE1⟩; have hb := cell_of_heap (hE1.below.block w.heap.size (by simp) |>.trans (heap_alloc_new w _)); have hc2 := hb 2; have hc3 := hb 3; clear hb; simp at hc2 hc3; have HE1 := Lib.hid hE1; clear hE1)
        go_ret
        exact ⟨by rw [hv.out]; rfl, ((Ext.refl _).alloc _).trans HE1.out⟩
    · have e1 : (k == 1) = false := by simpa using h1
      by_cases h2 : k = 2
      · subst h2
        have hv : Hid (goodE i t 2 bs = true) := Lib.hid (by simp [goodE, hR])
        clear hb hl h1 e1
        go_enter Tryz.func78, Tryz.ntmps78
        go_wp2_with (go_at_call 82; refine (right_any _ _ _ _ _ _ _).mono ?_; rintro e w1 ⟨rfl, hE1⟩; have hb := cell_of_heap (hE1.below.block w.heap.size (by simp) |>.trans (heap_alloc_new w _)); have hc2 := hb 2; have hc3 := hb 3; clear hb; simp at hc2 hc3; have HE1 := Lib.hid hE1; clear hE1)
        go_ret
        exact ⟨by rw [hv.out]; rfl, ((Ext.refl _).alloc _).trans HE1.out⟩
      · have e2 : (k == 2) = false := by simpa using h2
        have hv : Hid (goodE i t k bs = memsB bs) := Lib.hid (by simp [goodE, hR, h1, h2])
        clear h1 h2
        cases hm : memsB bs with
        | true =>
          go_enter Tryz.func78, Tryz.ntmps78
          go_wp2_with (first | (go_at_call 82; refine (right_any _ _ _ _ _ _ _).mono ?_; rintro e w1 ⟨rfl, hE1⟩; have hb := cell_of_heap (hE1.below.block w.heap.size (by simp) |>.trans (heap_alloc_new w _)); have hc2 := hb 2; have hc3 := hb 3; clear hb; simp at hc2 hc3; have HE1 := Lib.hid hE1; clear hE1) | (go_at_call 83; refine (ofBytes_any D d bs _ (hD.ext (((Ext.refl w).alloc _).trans HE1.out)) hb hl).mono ?_; rintro e w2 ⟨v, rfl, hE2⟩; have HE2 := Lib.hid hE2; clear hE2))
          go_ret
          exact ⟨by rw [hv.out, hm]; rfl, (((Ext.refl _).alloc _).trans HE1.out).trans HE2.out⟩
        | false =>
          go_enter Tryz.func78, Tryz.ntmps78
          go_wp2_with (first | (go_at_call 82; refine (right_any _ _ _ _ _ _ _).mono ?_; rintro e w1 ⟨rfl, hE1⟩; have hb := cell_of_heap (hE1.below.block w.heap.size (by simp) |>.trans (heap_alloc_new w _)); have hc2 := hb 2; have hc3 := hb 3; clear hb; simp at hc2 hc3; have HE1 := Lib.hid hE1; clear hE1) | (go_at_call 83; refine (ofBytes_any D d bs _ (hD.ext (((Ext.refl w).alloc _).trans HE1.out)) hb hl).mono ?_; rintro e w2 ⟨v, rfl, hE2⟩; have HE2 := Lib.hid hE2; clear hE2))
          go_ret
          exact ⟨by rw [hv.out, hm]; rfl, (((Ext.refl _).alloc _).trans HE1.out).trans HE2.out⟩
end Go.Proofs.YtigljihohpdpeaaGreatDoor
namespace Go.Proofs.YtigljihohpdpeaaGreatDoor
open Go.RowKit

structure Id where
  i : Int
  t : Int
  k : Int
def Id.v (p : Id) : Value := idV p.i p.t p.k
def Id.zero : Id := ⟨0, 0, 0⟩
def Id.right (p : Id) : Bool := rightI p.i p.t p.k
def Id.some_ (p : Id) : Bool := someI p.i p.t p.k
def IdsIn (w : World) (A : Option Addr) (ps : List Id) : Prop := ∀ j p, ps[j]? = some p → ∃ b f, A = some ⟨b, f, none⟩ ∧
  w.cell? ⟨b, f + j * 3, none⟩ = some (.int .i64 p.i) ∧ w.cell? ⟨b, f + j * 3 + 1, none⟩ = some (.int .i64 p.t) ∧ w.cell? ⟨b, f + j * 3 + 2, none⟩ = some (.int .i64 p.k)
theorem IdsIn.ext {w w' : World} {A : Option Addr} {ps : List Id} (h : IdsIn w A ps) (he : Ext w w') : IdsIn w' A ps := fun j p hj => by
  obtain ⟨b, f, ha, h1, h2, h3⟩ := h j p hj
  exact ⟨b, f, ha, he.cell h1, he.cell h2, he.cell h3⟩
theorem IdsIn.at_ {w : World} {A : Option Addr} {ps : List Id} (h : IdsIn w A ps) {k : Nat} (hk : k < ps.length) : ∃ b f p, A = some ⟨b, f, none⟩ ∧ ps[k]? = some p ∧
    w.cell? ⟨b, f + k * 3, none⟩ = some (.int .i64 p.i) ∧ w.cell? ⟨b, f + k * 3 + 1, none⟩ = some (.int .i64 p.t) ∧ w.cell? ⟨b, f + k * 3 + 2, none⟩ = some (.int .i64 p.k) := by
  obtain ⟨b, f, ha, h1⟩ := h k _ (List.getElem?_eq_getElem hk)
  exact ⟨b, f, ps[k], ha, List.getElem?_eq_getElem hk, h1⟩

structure Ent where
  i : Int
  t : Int
  k : Int
  bA : Option Addr
  bc : Nat
  bs : List Int
def Ent.v (e : Ent) : Value := .agg #[.int .i64 e.i, .int .i64 e.t, .int .i64 e.k, .slice e.bA e.bs.length e.bc]
def Ent.id (e : Ent) : Id := ⟨e.i, e.t, e.k⟩
def Ent.good (e : Ent) : Bool := goodE e.i e.t e.k e.bs
def Ent.inW (w : World) (e : Ent) : Prop := Rd w e.bA (e.bs.map (.int .u8)) ∧ okBytes e.bs ∧ e.bs.length ≤ maxLen
theorem Ent.inW.ext {w w' : World} {e : Ent} (h : e.inW w) (he : Ext w w') : e.inW w' := ⟨h.1.ext he, h.2⟩
def EntsIn (w : World) (A : Option Addr) (es : List Ent) : Prop := ∀ j e, es[j]? = some e → ∃ b f, A = some ⟨b, f, none⟩ ∧
  w.cell? ⟨b, f + j * 4, none⟩ = some (.int .i64 e.i) ∧ w.cell? ⟨b, f + j * 4 + 1, none⟩ = some (.int .i64 e.t) ∧ w.cell? ⟨b, f + j * 4 + 2, none⟩ = some (.int .i64 e.k) ∧ w.cell? ⟨b, f + j * 4 + 3, none⟩ = some (.slice e.bA e.bs.length e.bc) ∧ e.inW w
theorem EntsIn.ext {w w' : World} {A : Option Addr} {es : List Ent} (h : EntsIn w A es) (he : Ext w w') : EntsIn w' A es := fun j e hj => by
  obtain ⟨b, f, ha, h1, h2, h3, h4, h5⟩ := h j e hj
  exact ⟨b, f, ha, he.cell h1, he.cell h2, he.cell h3, he.cell h4, h5.ext he⟩
theorem EntsIn.at_ {w : World} {A : Option Addr} {es : List Ent} (h : EntsIn w A es) {k : Nat} (hk : k < es.length) : ∃ b f e, A = some ⟨b, f, none⟩ ∧ es[k]? = some e ∧
    w.cell? ⟨b, f + k * 4, none⟩ = some (.int .i64 e.i) ∧ w.cell? ⟨b, f + k * 4 + 1, none⟩ = some (.int .i64 e.t) ∧ w.cell? ⟨b, f + k * 4 + 2, none⟩ = some (.int .i64 e.k) ∧ w.cell? ⟨b, f + k * 4 + 3, none⟩ = some (.slice e.bA e.bs.length e.bc) ∧ e.inW w := by
  obtain ⟨b, f, ha, h1⟩ := h k _ (List.getElem?_eq_getElem hk)
  exact ⟨b, f, es[k], ha, List.getElem?_eq_getElem hk, h1⟩

theorem Ext.blk {W w1 : World} (h : Ext W w1) {b : Nat} {o : Obj} (hb : W.heap[b]? = some o) : w1.heap[b]? = some o := by
  have hl : b < W.heap.size := by
    rcases Nat.lt_or_ge b W.heap.size with h' | h'
    · exact h'
    · rw [Array.getElem?_eq_none h'] at hb; cases hb
  rw [h.below.block b hl]; exact hb
theorem heap1 (w : World) (a b : Obj) : ((w.alloc a).alloc b).heap[w.heap.size + 1]? = some b := by
  have h := heap_alloc_new (w.alloc a) b
  rwa [World.size_alloc] at h
theorem heap0 (w : World) (a b : Obj) : ((w.alloc a).alloc b).heap[w.heap.size]? = some a := by
  rw [heap_alloc_old _ _ (by rw [World.size_alloc]; omega)]
  exact heap_alloc_new w a
theorem heap_lt {w : World} {b : Nat} {o : Obj} (hb : w.heap[b]? = some o) : b < w.heap.size := by
  rcases Nat.lt_or_ge b w.heap.size with h' | h'
  · exact h'
  · rw [Array.getElem?_eq_none h'] at hb; cases hb
theorem of_any (i t k : Int) (x : Value) (w : World) : Calls Tryz.prog 74 #[.agg #[.int .i64 i, .int .i64 t, .int .i64 k, x]] w fun e w' => e = .returned (idV i t k) ∧ Ext w w' := by
  unfold idV
  go_enter Tryz.func74, Tryz.ntmps74
  go_wp2
  exact bodyPost_ret (v := .agg #[.int .i64 i, .int .i64 t, .int .i64 k]) (by simp [results, Tryz.results74, go_sem]) rfl ⟨rfl, ((Ext.refl _).alloc _).alloc _⟩
end Go.Proofs.YtigljihohpdpeaaGreatDoor
