/-
  aheads.
  A letter; snap, carried.
-/
import Derived.Test.YtcapapnhlkmeaaaDoorM20
namespace Go.Proofs.YtcapapnhlkmeaaaDoor
open Go.RowKit

def aheadAt (e : Ent) (p : Id) : Bool := p.right && (!(p.i != IntKind.i64.wrap (e.i - 1)) && !(decide (e.t < p.t)))
def aheadsL : List Ent → List Id → Bool
  | e :: es, p :: ps => aheadAt e p && aheadsL es ps
  | _, _ => true
def aheadsOk (es : List Ent) (ps : List Id) : Bool := decide (ps.length = es.length) && aheadsL es ps
def AheadRel (es : List Ent) (ps : List Id) (w0 : World) (i : Value) (wr : World) : Prop := ∃ k : Nat, k ≤ es.length ∧ i = .int .i64 k ∧ aheadsL (es.drop k) (ps.drop k) = aheadsL es ps ∧ Ext w0 wr

set_option maxRecDepth 100000 in
set_option maxHeartbeats 4000000 in
theorem aheads_any (A : Option Addr) (c : Nat) (es : List Ent) (D : Option Addr) (d : Nat) (ps : List Id) (w : World) (hA : EntsIn w A es) (hD : IdsIn w D ps) (hl : es.length ≤ maxLen) (hl2 : ps.length ≤ maxLen) :
    Calls Tryd.prog 48 #[.slice A es.length c, .slice D ps.length d] w (ErrPost 0 (aheadsOk es ps) w) := by
  unfold maxLen at hl hl2
  by_cases hn : ps.length = es.length
  · have dn : ((ps.length : Int) != (es.length : Int)) = false := by simp; omega
    have HN := Lib.hid hn
    have hv0 : Hid (aheadsOk es ps = aheadsL es ps) := Lib.hid (by simp [aheadsOk, hn])
    clear hn
    go_enter Tryd.func48, Tryd.ntmps48
    go_wp2_with fail
    go_loopw [15] (fun i wr => AheadRel es ps w i wr) (fun i _ => es.length - (intOf i).toNat)
    case atStart => exact ⟨0, Nat.zero_le _, rfl, rfl, Ext.refl _⟩
    case round =>
      obtain ⟨k, hk, rfl, hr, hE⟩ := hrel
      have HR := Lib.hid hr
      clear hr
      by_cases hlt : k < es.length
      · have hlt2 : k < ps.length := by have := HN.out; omega
        obtain ⟨b, f, e, rfl, he, c0, c1, c2, c3, hin⟩ := (hA.ext hE).at_ hlt
        obtain ⟨b2, f2, p, rfl, hp, d0, d1, d2⟩ := (hD.ext hE).at_ hlt2
        have hbl : b < wr.heap.size := World.block_lt_of_cell? wr _ c0
        have hbl2 : b2 < wr.heap.size := World.block_lt_of_cell? wr _ d0
        have HE := Lib.hid hE
        have HD := Lib.hid (show aheadsL (es.drop k) (ps.drop k) = (aheadAt e p && aheadsL (es.drop (k + 1)) (ps.drop (k + 1))) by rw [drop_at he, drop_at hp, aheadsL])
        have HRI := Lib.hid (fun w => rightId_any p.i p.t p.k w)
        unfold idV at HRI
        clear hE hin he hp
        go_wp2_with fail
        have EB := Lib.hid (heap_alloc_new wr (.cells #[.int .i64 e.i, .int .i64 e.t, .int .i64 e.k, .slice e.bA e.bs.length e.bc] 71))
        have D0 := Lib.hid (((Ext.refl wr).alloc (.cells #[.int .i64 e.i, .int .i64 e.t, .int .i64 e.k, .slice e.bA e.bs.length e.bc] 71)).cell d0)
        have D1 := Lib.hid (((Ext.refl wr).alloc (.cells #[.int .i64 e.i, .int .i64 e.t, .int .i64 e.k, .slice e.bA e.bs.length e.bc] 71)).cell d1)
        have D2 := Lib.hid (((Ext.refl wr).alloc (.cells #[.int .i64 e.i, .int .i64 e.t, .int .i64 e.k, .slice e.bA e.bs.length e.bc] 71)).cell d2)
        clear c0 c1 c2 c3 d0 d1 d2
        cases h1 : rightI p.i p.t p.k with
        | false =>
          have hv : Hid (aheadsOk es ps = false) := Lib.hid (by rw [hv0.out, ← HR.out, HD.out]; simp [aheadAt, Id.right, h1])
          simp only [h1] at HRI
          clear h1
          refine Stab.wp_region_lex Ext (Ext _) (fun _ => True) (by kernel_rfl) (by kernel_rfl) (fun _ _ h => h) (fun _ _ h k => Ext.trans h k) (fun _ _ _ _ => trivial) ((Ext.refl _).drew) trivial ?_
          simp only [Stab.zipL, Nat.reduceAdd]
          repeat (first
            | (refine Stab.wpX_skip rfl ?_; simp only [Act.put, List.setIfInBounds_toArray, List.set_cons_zero, List.set_cons_succ])
            | (refine Stab.wpX_val rfl rfl ?_; apply Exists.intro; refine ⟨fun wx hC _ => ?_, ?_⟩; (have g1 := hC.blk EB.out; have r0 := cell_of_heap g1 0; have r1 := cell_of_heap g1 1; have q0 := hC.cell D0.out; have q1 := hC.cell D1.out; have q2 := hC.cell D2.out; simp at r0 r1; clear g1; go_simp; exact ⟨Ext.refl _, rfl⟩); simp only [Act.put, List.setIfInBounds_toArray, List.set_cons_zero, List.set_cons_succ])
            | (refine Stab.wpX_call1 rfl rfl (fun _ _ _ _ => trivial) ?_; apply Exists.intro; refine ⟨fun wx hC _ _ => ?_, ?_⟩; (go_simp; refine ⟨rfl, ?_⟩; refine (HRI.out _).mono ?_; rintro ev w9 ⟨rfl, hb9⟩; (first | exact ⟨hb9, rfl, trivial⟩ | exact ⟨hb9, rfl⟩)); simp only [Act.put, List.setIfInBounds_toArray, List.set_cons_zero, List.set_cons_succ]))
          refine Stab.wpX_end fun w8 hC8 _ _ => ?_
          have HC8 := Lib.hid (HE.out.trans (((Ext.refl _).alloc _).trans hC8))
          clear hC8
          go_wp2_with (go_at_call 24; refine (holds_part _ _ _).mono ?_; rintro e w' ⟨rfl, rfl⟩)
          go_ret
          exact ⟨_, rfl, .part _ hv.out, HC8.out⟩
        | true =>
          cases h2 : (p.i != IntKind.i64.wrap (e.i - 1)) with
          | true =>
            have hv : Hid (aheadsOk es ps = false) := Lib.hid (by rw [hv0.out, ← HR.out, HD.out]; simp only [aheadAt, h2]; simp)
            simp only [h1] at HRI
            clear h1
            refine Stab.wp_region_lex Ext (Ext _) (fun _ => True) (by kernel_rfl) (by kernel_rfl) (fun _ _ h => h) (fun _ _ h k => Ext.trans h k) (fun _ _ _ _ => trivial) ((Ext.refl _).drew) trivial ?_
            simp only [Stab.zipL, Nat.reduceAdd]
            repeat (first
              | (refine Stab.wpX_skip rfl ?_; simp only [Act.put, List.setIfInBounds_toArray, List.set_cons_zero, List.set_cons_succ])
              | (refine Stab.wpX_val rfl rfl ?_; apply Exists.intro; refine ⟨fun wx hC _ => ?_, ?_⟩; (have g1 := hC.blk EB.out; have r0 := cell_of_heap g1 0; have r1 := cell_of_heap g1 1; have q0 := hC.cell D0.out; have q1 := hC.cell D1.out; have q2 := hC.cell D2.out; simp at r0 r1; clear g1; go_simp; exact ⟨Ext.refl _, rfl⟩); simp only [Act.put, List.setIfInBounds_toArray, List.set_cons_zero, List.set_cons_succ])
              | (refine Stab.wpX_call1 rfl rfl (fun _ _ _ _ => trivial) ?_; apply Exists.intro; refine ⟨fun wx hC _ _ => ?_, ?_⟩; (go_simp; refine ⟨rfl, ?_⟩; refine (HRI.out _).mono ?_; rintro ev w9 ⟨rfl, hb9⟩; (first | exact ⟨hb9, rfl, trivial⟩ | exact ⟨hb9, rfl⟩)); simp only [Act.put, List.setIfInBounds_toArray, List.set_cons_zero, List.set_cons_succ]))
            refine Stab.wpX_end fun w8 hC8 _ _ => ?_
            have HC8 := Lib.hid (HE.out.trans (((Ext.refl _).alloc _).trans hC8))
            clear hC8
            go_wp2_with (go_at_call 24; refine (holds_part _ _ _).mono ?_; rintro e w' ⟨rfl, rfl⟩)
            go_ret
            exact ⟨_, rfl, .part _ hv.out, HC8.out⟩
          | false =>
            cases h3 : decide (e.t < p.t) with
            | true =>
              have hv : Hid (aheadsOk es ps = false) := Lib.hid (by rw [hv0.out, ← HR.out, HD.out]; simp only [aheadAt, h3]; simp)
              simp only [h1] at HRI
              clear h1
              refine Stab.wp_region_lex Ext (Ext _) (fun _ => True) (by kernel_rfl) (by kernel_rfl) (fun _ _ h => h) (fun _ _ h k => Ext.trans h k) (fun _ _ _ _ => trivial) ((Ext.refl _).drew) trivial ?_
              simp only [Stab.zipL, Nat.reduceAdd]
              repeat (first
                | (refine Stab.wpX_skip rfl ?_; simp only [Act.put, List.setIfInBounds_toArray, List.set_cons_zero, List.set_cons_succ])
                | (refine Stab.wpX_val rfl rfl ?_; apply Exists.intro; refine ⟨fun wx hC _ => ?_, ?_⟩; (have g1 := hC.blk EB.out; have r0 := cell_of_heap g1 0; have r1 := cell_of_heap g1 1; have q0 := hC.cell D0.out; have q1 := hC.cell D1.out; have q2 := hC.cell D2.out; simp at r0 r1; clear g1; go_simp; exact ⟨Ext.refl _, rfl⟩); simp only [Act.put, List.setIfInBounds_toArray, List.set_cons_zero, List.set_cons_succ])
                | (refine Stab.wpX_call1 rfl rfl (fun _ _ _ _ => trivial) ?_; apply Exists.intro; refine ⟨fun wx hC _ _ => ?_, ?_⟩; (go_simp; refine ⟨rfl, ?_⟩; refine (HRI.out _).mono ?_; rintro ev w9 ⟨rfl, hb9⟩; (first | exact ⟨hb9, rfl, trivial⟩ | exact ⟨hb9, rfl⟩)); simp only [Act.put, List.setIfInBounds_toArray, List.set_cons_zero, List.set_cons_succ]))
              refine Stab.wpX_end fun w8 hC8 _ _ => ?_
              have HC8 := Lib.hid (HE.out.trans (((Ext.refl _).alloc _).trans hC8))
              clear hC8
              go_wp2_with (go_at_call 24; refine (holds_part _ _ _).mono ?_; rintro e w' ⟨rfl, rfl⟩)
              go_ret
              exact ⟨_, rfl, .part _ hv.out, HC8.out⟩
            | false =>
              have hv : Hid (aheadsL (es.drop k) (ps.drop k) = aheadsL (es.drop (k + 1)) (ps.drop (k + 1))) := Lib.hid (by rw [HD.out]; simp only [aheadAt, Id.right, h1, h2, h3]; simp)
              simp only [h1] at HRI
              clear h1
              refine Stab.wp_region_lex Ext (Ext _) (fun _ => True) (by kernel_rfl) (by kernel_rfl) (fun _ _ h => h) (fun _ _ h k => Ext.trans h k) (fun _ _ _ _ => trivial) ((Ext.refl _).drew) trivial ?_
              simp only [Stab.zipL, Nat.reduceAdd]
              repeat (first
                | (refine Stab.wpX_skip rfl ?_; simp only [Act.put, List.setIfInBounds_toArray, List.set_cons_zero, List.set_cons_succ])
                | (refine Stab.wpX_val rfl rfl ?_; apply Exists.intro; refine ⟨fun wx hC _ => ?_, ?_⟩; (have g1 := hC.blk EB.out; have r0 := cell_of_heap g1 0; have r1 := cell_of_heap g1 1; have q0 := hC.cell D0.out; have q1 := hC.cell D1.out; have q2 := hC.cell D2.out; simp at r0 r1; clear g1; go_simp; exact ⟨Ext.refl _, rfl⟩); simp only [Act.put, List.setIfInBounds_toArray, List.set_cons_zero, List.set_cons_succ])
                | (refine Stab.wpX_call1 rfl rfl (fun _ _ _ _ => trivial) ?_; apply Exists.intro; refine ⟨fun wx hC _ _ => ?_, ?_⟩; (go_simp; refine ⟨rfl, ?_⟩; refine (HRI.out _).mono ?_; rintro ev w9 ⟨rfl, hb9⟩; (first | exact ⟨hb9, rfl, trivial⟩ | exact ⟨hb9, rfl⟩)); simp only [Act.put, List.setIfInBounds_toArray, List.set_cons_zero, List.set_cons_succ]))
              refine Stab.wpX_end fun w8 hC8 _ _ => ?_
              have HC8 := Lib.hid (HE.out.trans (((Ext.refl _).alloc _).trans hC8))
              clear hC8
              go_wp2_with fail
              go_roundw
              case rel => exact ⟨k + 1, by omega, by go_num, by rw [← hv.out]; exact HR.out, HC8.out⟩
              case measure => simp [intOf]; omega
      · obtain rfl : k = es.length := by omega
        have hv : Hid (aheadsOk es ps = true) := Lib.hid (by rw [hv0.out, ← HR.out, List.drop_length]; cases List.drop es.length ps <;> rfl)
        go_wp2_with fail
        go_ret
        exact ⟨_, rfl, .nil hv.out, hE⟩
  · have dn : ((ps.length : Int) != (es.length : Int)) = true := by simp; omega
    have hv : Hid (aheadsOk es ps = false) := Lib.hid (by simp [aheadsOk, hn])
    clear hn
    go_enter Tryd.func48, Tryd.ntmps48
    go_wp2_with (go_at_call 24; refine (holds_part _ _ _).mono ?_; rintro e w' ⟨rfl, rfl⟩)
    go_ret
    exact ⟨_, rfl, .part _ hv.out, Ext.refl _⟩
end Go.Proofs.YtcapapnhlkmeaaaDoor
namespace Go.Proofs.YtcapapnhlkmeaaaDoor
open Go.RowKit

structure Let where
  kind : Int
  frm : Int
  too : Int
  term : Int
  index : Int
  last : Id
  prev : Id
  wA : Option Addr
  wc : Nat
  want : List Id
  commit : Int
  yes : Bool
  eA : Option Addr
  ec : Nat
  ents : List Ent
  slast : Id
  mA : Option Addr
  mc : Nat
  mems : List Int
  size : Int
  uA : Option Addr
  uc : Nat
  sums : List Int
  piece : Int
  bA : Option Addr
  bc : Nat
  bs : List Int
def Let.arr (l : Let) : Array Value := #[.int .i64 l.kind, .int .i64 l.frm, .int .i64 l.too, .int .i64 l.term, .int .i64 l.index, .int .i64 l.last.i, .int .i64 l.last.t, .int .i64 l.last.k, .int .i64 l.prev.i, .int .i64 l.prev.t, .int .i64 l.prev.k, .slice l.wA l.want.length l.wc, .int .i64 l.commit, .bool l.yes, .slice l.eA l.ents.length l.ec, .int .i64 l.slast.i, .int .i64 l.slast.t, .int .i64 l.slast.k, .slice l.mA l.mems.length l.mc, .int .i64 l.size, .slice l.uA l.sums.length l.uc, .int .i64 l.piece, .slice l.bA l.bs.length l.bc]
def Let.v (l : Let) : Value := .agg l.arr
structure Let.inW (w : World) (l : Let) : Prop where
  w1 : IdsIn w l.wA l.want
  e1 : EntsIn w l.eA l.ents
  m1 : Rd w l.mA (l.mems.map (.int .i64))
  u1 : Rd w l.uA (l.sums.map (.int .u32))
  b1 : Rd w l.bA (l.bs.map (.int .u8))
  w2 : l.want.length ≤ 140737488355328
  e2 : l.ents.length ≤ 140737488355328
  m2 : l.mems.length ≤ 140737488355328
  u2 : l.sums.length ≤ 140737488355328
  b2 : l.bs.length ≤ 140737488355328
  u3 : ∀ x ∈ l.sums, 0 ≤ x ∧ x ≤ 4294967295
theorem Let.inW.ext {w w' : World} {l : Let} (h : l.inW w) (he : Ext w w') : l.inW w' :=
  ⟨h.w1.ext he, h.e1.ext he, h.m1.ext he, h.u1.ext he, h.b1.ext he, h.w2, h.e2, h.m2, h.u2, h.b2, h.u3⟩

theorem rd_heap {w : World} {b : Nat} {vs : List Value} {t : TypeId} (h : w.heap[b]? = some (.cells vs.toArray t)) : Rd w (some ⟨b, 0, none⟩) vs := fun j u hj => by
  refine ⟨_, rfl, ?_⟩
  rw [add_lit', Nat.zero_add, cell_of_heap h]
  simpa using hj

def Errs (d : Nat) (w : World) : List Bool → List Value → Prop
  | [], [] => True
  | ok :: oks, v :: vs => Err d w ok v ∧ Errs d w oks vs
  | _, _ => False
theorem Err.nilOr {d : Nat} {w : World} {ok : Bool} {v : Value} (h : Err d w ok v) : NilOr v := by
  cases ok
  · have h' : Bad d w v := h
    clear h
    induction d generalizing v with
    | zero => obtain ⟨s, rfl⟩ := h'; exact .inr ⟨_, _, rfl⟩
    | succ d ih =>
      rcases h' with h' | ⟨j, a, n, c, v0, rfl, _⟩
      · exact ih h'
      · exact .inr ⟨_, _, rfl⟩
  · exact .inl h
theorem Err.no {d : Nat} {w : World} {v : Value} (h : Err d w false v) : ∃ T x, v = .iface T x := by
  have h' : Bad d w v := h
  clear h
  induction d generalizing v with
  | zero => obtain ⟨s, rfl⟩ := h'; exact ⟨_, _, rfl⟩
  | succ d ih =>
    rcases h' with h' | ⟨j, a, n, c, v0, rfl, _⟩
    · exact ih h'
    · exact ⟨_, _, rfl⟩
theorem Errs.nilOr {d : Nat} {w : World} {oks : List Bool} {vs : List Value} (h : Errs d w oks vs) : ∀ v ∈ vs, NilOr v := by
  induction oks generalizing vs with
  | nil => cases vs with
    | nil => simp
    | cons v vs => exact h.elim
  | cons ok oks ih => cases vs with
    | nil => exact h.elim
    | cons v vs =>
      intro x hx
      rcases List.mem_cons.1 hx with rfl | hx
      · exact h.1.nilOr
      · exact ih h.2 x hx
theorem Errs.all {d : Nat} {w : World} {oks : List Bool} {vs : List Value} (h : Errs d w oks vs) (ha : oks.all id = true) : ∀ v ∈ vs, v = .nilIface := by
  induction oks generalizing vs with
  | nil => cases vs with
    | nil => simp
    | cons v vs => exact h.elim
  | cons ok oks ih => cases vs with
    | nil => exact h.elim
    | cons v vs =>
      simp only [List.all_cons, Bool.and_eq_true, id] at ha
      intro x hx
      rcases List.mem_cons.1 hx with rfl | hx
      · have h1 := h.1; rw [ha.1] at h1; exact h1
      · exact ih h.2 ha.2 x hx
theorem Errs.some_ {d : Nat} {w : World} {oks : List Bool} {vs : List Value} (h : Errs d w oks vs) (ha : oks.all id = false) : ∃ v0 r, errsOf vs = v0 :: r ∧ Bad d w v0 := by
  induction oks generalizing vs with
  | nil => simp at ha
  | cons ok oks ih => cases vs with
    | nil => exact h.elim
    | cons v vs =>
      cases ok with
      | false =>
        obtain ⟨T, x, hx⟩ := h.1.no
        refine ⟨v, errsOf vs, ?_, h.1⟩
        subst hx
        simp [errsOf, isNil]
      | true =>
        have h1 : v = .nilIface := h.1
        subst h1
        obtain ⟨v0, r, h2, h3⟩ := ih h.2 (by simpa using ha)
        exact ⟨v0, r, by simpa [errsOf, isNil] using h2, h3⟩

theorem join_errs (d : Nat) (A : Option Addr) (c : Nat) (vs : List Value) (oks : List Bool) (ok : Bool) (w : World) (hA : Rd w A vs) (hl : vs.length ≤ 1000000) (hok : oks.all id = ok) (h : Errs d w oks vs) :
    Calls Tryd.prog 23 #[.slice A vs.length c] w (ErrPost (d + 1) ok w) := by
  subst hok
  cases ha : oks.all id with
  | true => exact (join_none A c vs w hA hl (h.all ha)).mono fun e w' ⟨he, hE⟩ => ⟨_, he, rfl, hE⟩
  | false =>
    obtain ⟨v0, r, h2, h3⟩ := h.some_ ha
    refine (join_some A c vs w hA hl h.nilOr (by rw [h2]; simp)).mono fun e w' ⟨j, a, c', he, hc, hr, hE⟩ => ⟨_, he, ?_, hE⟩
    show Bad (d + 1) w' _
    refine .inr ⟨j, a, (errsOf vs).length, c', v0, rfl, hc, by rw [h2]; simp, ?_, h3.ext hE⟩
    obtain ⟨ad, had, hcell⟩ := hr 0 v0 (by rw [h2]; rfl)
    injection had with had
    subst had
    simpa [Addr.add] using hcell

theorem holdsV_cells (s : ByteArray) (ok : Bool) : (holdsV s ok).cells = #[holdsV s ok] := by cases ok <;> rfl
theorem Err.cells {d : Nat} {w : World} {ok : Bool} {v : Value} (h : Err d w ok v) : v.cells = #[v] := by
  rcases h.nilOr with rfl | ⟨T, x, rfl⟩ <;> rfl
theorem build2 (a b : Value) (w : World) (ha : a.cells = #[a]) (hb : b.cells = #[b]) : (Instr.buildSlice 116 2 #[(0, a), (1, b)]).run Tryd.prog w = .ok (.slice (some ⟨w.heap.size, 0, none⟩) 2 2) (w.alloc (.cells #[a, b] 48)) := by
  obtain ⟨i0, hi, hz0, hz1, hz2⟩ := info_parts Tryd.infoErr
  simp [Instr.buildSlice, run_underlying Tryd.underlying116, sizeOf, typeInfo, hi, hz1, zeroValue, hz0, Instr.fill, ha, hb, newRow, show Value.nilIface.cells = #[Value.nilIface] from rfl, show Array.range 2 = #[0, 1] from by decide, show Array.range 3 = #[0, 1, 2] from by decide, show Array.range 4 = #[0, 1, 2, 3] from by decide]
theorem build3 (a b c : Value) (w : World) (ha : a.cells = #[a]) (hb : b.cells = #[b]) (hc : c.cells = #[c]) : (Instr.buildSlice 116 3 #[(0, a), (1, b), (2, c)]).run Tryd.prog w = .ok (.slice (some ⟨w.heap.size, 0, none⟩) 3 3) (w.alloc (.cells #[a, b, c] 48)) := by
  obtain ⟨i0, hi, hz0, hz1, hz2⟩ := info_parts Tryd.infoErr
  simp [Instr.buildSlice, run_underlying Tryd.underlying116, sizeOf, typeInfo, hi, hz1, zeroValue, hz0, Instr.fill, ha, hb, hc, newRow, show Value.nilIface.cells = #[Value.nilIface] from rfl, show Array.range 2 = #[0, 1] from by decide, show Array.range 3 = #[0, 1, 2] from by decide, show Array.range 4 = #[0, 1, 2, 3] from by decide]
theorem build4 (a b c d : Value) (w : World) (ha : a.cells = #[a]) (hb : b.cells = #[b]) (hc : c.cells = #[c]) (hd : d.cells = #[d]) : (Instr.buildSlice 116 4 #[(0, a), (1, b), (2, c), (3, d)]).run Tryd.prog w = .ok (.slice (some ⟨w.heap.size, 0, none⟩) 4 4) (w.alloc (.cells #[a, b, c, d] 48)) := by
  obtain ⟨i0, hi, hz0, hz1, hz2⟩ := info_parts Tryd.infoErr
  simp [Instr.buildSlice, run_underlying Tryd.underlying116, sizeOf, typeInfo, hi, hz1, zeroValue, hz0, Instr.fill, ha, hb, hc, hd, newRow, show Value.nilIface.cells = #[Value.nilIface] from rfl, show Array.range 2 = #[0, 1] from by decide, show Array.range 3 = #[0, 1, 2] from by decide, show Array.range 4 = #[0, 1, 2, 3] from by decide]
theorem yields_build {o : Oper} {a : Act} {w : World} (n : Nat) (parts : Array (Nat × Operand)) (ho : o.op = .buildSlice 116 n parts) (q : Array (Nat × Value)) (hq : (parts.map fun (i, x) => (i, a.eval x)) = q) (cs : Array Value)
    (hrun : (Instr.buildSlice 116 n q).run Tryd.prog w = .ok (.slice (some ⟨w.heap.size, 0, none⟩) n n) (w.alloc (.cells cs 48))) :
    Stab.yields Tryd.prog o a w (fun u w' => Ext w w' ∧ ∃ b, u = .slice (some ⟨b, 0, none⟩) n n ∧ w'.heap[b]? = some (.cells cs 48)) := by
  subst hq
  unfold Stab.yields execOp
  simp only [ho, Sem.run_bind, hrun, Result.andThen_ok, Sem.run_pure, Stab.yieldsUpon_value]
  first | exact ⟨(Ext.refl _).alloc _, _, rfl, heap_alloc_new w _⟩ | skip
end Go.Proofs.YtcapapnhlkmeaaaDoor
