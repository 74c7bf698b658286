/-
  puts: the walk.
-/
import Derived.Test.YtfpabbhgmncjdaaBy
import Derived.Deep.CutBlock
import Derived.Deep.CutRange
namespace Go.Proofs.Ytfpabbhgmncjdaa
open Go.RowKit

def PutRel (ps : List Pt) (w : World) (b i : Value) (wr : World) : Prop :=
  ∃ (k : Nat) (a r : List Int × Bool) (A : Option Addr) (c : Nat) (A' : Option Addr) (c' : Nat) (bA : Option Addr) (bn bc : Nat), k ≤ ps.length ∧ i = .int .i64 k ∧ b = .slice bA bn bc ∧ SRel a r ∧ a.1.length ≤ 40000 * k ∧ r.1.length ≤ 40000 * k ∧
    TwoG w.heap.size w.heap.size (w.heap.size + 1) w wr (fun _ => False) a r A c A' c' wr

theorem TwoG.start (w : World) (W : World) : TwoG w.heap.size w.heap.size (w.heap.size + 1) w W (fun _ => False) ([], false) ([], false) none 0 none 0
    ((w.alloc (.cells #[.slice none 0 0, .bool false] 37)).alloc (.cells #[.slice none 0 0, .bool false] 48)) := by
  have h2 := heap_alloc_new (w.alloc (.cells #[.slice none 0 0, .bool false] 37)) (.cells #[.slice none 0 0, .bool false] 48)
  rw [World.size_alloc] at h2
  exact ⟨(Wr.new _ w).ext ((Ext.refl _).alloc _), ⟨h2, by omega, Own.nil _ _ _⟩, fun i h => by simp [blk] at h, ((Ext.refl w).alloc _).alloc _, rfl, fun _ h => h.elim⟩

def CutI (k : Nat) (w wr W5 W : World) : Prop := ∃ (a r : List Int × Bool) (A : Option Addr) (c : Nat) (A' : Option Addr) (c' : Nat), SRel a r ∧ a.1.length ≤ 40000 * k + 30000 ∧ r.1.length ≤ 40000 * k + 30000 ∧
  TwoG w.heap.size w.heap.size (w.heap.size + 1) w W5 (fun i => wr.heap.size ≤ i ∧ i < W5.heap.size) a r A c A' c' W
theorem lens_mem {ps : List Pt} {k : Nat} {p : Pt} (h : ps[k]? = some p) : p.len ≤ lens ps := by
  induction ps generalizing k with
  | nil => simp at h
  | cons q qs ih =>
    simp only [lens, List.map_cons, List.sum_cons]
    cases k with
    | zero => simp at h; subst h; omega
    | succ k => have := ih (k := k) (by simpa using h); unfold lens at this; omega

/-- A lent row, from z on. -/
def LentR (kd : IntKind) (mk : Nat → Int) (zs : List Int) (z : Nat) (u : Value) (w : World) : Prop :=
  ∃ g c', u = .slice (some ⟨g, 0, none⟩) zs.length c' ∧ zs.length + 12 ≤ c' ∧ z ≤ g ∧ g < w.heap.size ∧ Rd w (some ⟨g, 0, none⟩) ((zs ++ mks mk 12).map (Value.int kd))
theorem LentR.up {kd : IntKind} {mk : Nat → Int} {zs : List Int} {z : Nat} {u : Value} {w w' : World} (h : LentR kd mk zs z u w) (he : Ext w w') : LentR kd mk zs z u w' := by
  obtain ⟨g, c', h1, h2, h3, h4, h5⟩ := h
  exact ⟨g, c', h1, h2, h3, Nat.lt_of_lt_of_le h4 he.sz, h5.ext he⟩
theorem Lent.toR {kd : IntKind} {mk : Nat → Int} {zs : List Int} {w w' : World} {u : Value} {z : Nat} (h : Lent kd mk zs w (.returned u) w') (hz : z ≤ w.heap.size) : LentR kd mk zs z u w' := by
  obtain ⟨g, c', h1, h2, h3, h4, h5, h6⟩ := h
  injection h1 with h1
  have hlt : g < w'.heap.size := by
    obtain ⟨ad, ha, hc⟩ := h5 zs.length (.int kd (mk 0)) (by simp [mks])
    injection ha with ha
    subst ha
    have := World.block_lt_of_cell? w' _ hc
    rwa [add_block] at this
  exact ⟨g, c', h1, h2, Nat.le_trans hz h4, hlt, h5⟩
theorem Lent.ext {kd : IntKind} {mk : Nat → Int} {zs : List Int} {w w' : World} {e : Ending} (h : Lent kd mk zs w e w') : ∃ u, e = .returned u ∧ Ext w w' := by
  obtain ⟨g, c', h1, h2, h3, h4, h5, h6⟩ := h
  exact ⟨_, h1, h6⟩

set_option maxRecDepth 100000 in
set_option maxHeartbeats 20000000 in
theorem puts_any (A : Option Addr) (c : Nat) (ps : List Pt) (w : World) (hA : PtsIn w A ps) (hl : ps.length + lens ps ≤ 3000) :
    Calls Try.prog 6 #[.slice A ps.length c] w fun e w' => (∃ x, e = .returned (.tuple #[x, .bool true])) ∧ Ext w w' := by
  have hst := fun W => TwoG.start w W
  go_enter Try.func6, Try.ntmps6
  go_wp2_with fail
  go_loopw [6, 7] (fun b i wr => PutRel ps w b i wr) (fun _ i _ => ps.length - (intOf i).toNat)
  case atStart => exact ⟨0, _, _, _, _, _, _, _, _, _, Nat.zero_le _, rfl, rfl, SRel.same _, by simp, by simp, hst _⟩
  case round =>
    clear hst
    obtain ⟨k, a, r, A1, c1, A2, c2, bA, bn, bc, hk, rfl, rfl, hS, hla, hlr, hT⟩ := hrel
    by_cases hlt : k < ps.length
    · obtain ⟨b, f, p, rfl, hp, d0, d1, d2, d3, d4, d5, d6, d7, ⟨r1, r2, r3⟩, b1, b2, b3⟩ := hA.at_ hlt
      have hlen : p.len ≤ 3000 := by have := lens_mem hp; omega
      unfold Pt.len at hlen
      have z1 := hT.e.sz
      go_wp2_with fail
      refine Stab.wp_region_lex Ext (Ext wr) (fun _ => True) (by kernel_rfl) (by kernel_rfl) (fun _ _ h => h) (fun _ _ h k => Ext.trans h k) (fun _ _ _ _ => trivial) ((Ext.refl _).drew) trivial ?_
      simp only [Stab.zipL, Nat.reduceAdd]
      iterate 5 (refine Stab.wpX_val rfl rfl ?_; apply Exists.intro; refine ⟨fun wx hC _ => ?_, ?_⟩; (have d2 := (hT.e.trans hC).cell d2; have d3 := (hT.e.trans hC).cell d3; have d7 := (hT.e.trans hC).cell d7; go_simp; (try simp (disch := omega) only [↓IntWalk.iteOmega, Stab.yieldsUpon_value, IntWalk.rem_in, IntWalk.i64_quo, IntWalk.i64_in]); exact ⟨Ext.refl _, rfl⟩); simp only [Act.put, List.setIfInBounds_toArray, List.set_cons_zero, List.set_cons_succ])
      refine Stab.wpX_call (LentR .i64 (markI 1) p.ns wr.heap.size) (fun _ _ => True) rfl rfl (fun _ _ _ h he => h.up he) (fun _ _ _ _ _ => trivial) ?_ ?_
      · intro wx hC _ _
        go_simp
        refine ⟨rfl, ?_⟩
        refine (lentInts_any p.nA p.nc p.ns wx (r1.ext (hT.e.trans hC)) (by omega)).mono ?_
        intro e w9 h
        obtain ⟨u, rfl, hE⟩ := h.ext
        exact ⟨hE, h.toR hC.sz⟩
      rintro u1 ⟨_, _, ⟨g1, cc1, rfl, hcc1, hz1, _, _⟩, _⟩
      simp only [Act.put, List.setIfInBounds_toArray, List.set_cons_zero, List.set_cons_succ]
      iterate 5 (refine Stab.wpX_val rfl rfl ?_; apply Exists.intro; refine ⟨fun wx hC _ => ?_, ?_⟩; (have d2 := (hT.e.trans hC).cell d2; have d3 := (hT.e.trans hC).cell d3; have d7 := (hT.e.trans hC).cell d7; go_simp; (try simp (disch := omega) only [↓IntWalk.iteOmega, Stab.yieldsUpon_value, IntWalk.rem_in, IntWalk.i64_quo, IntWalk.i64_in]); exact ⟨Ext.refl _, rfl⟩); simp only [Act.put, List.setIfInBounds_toArray, List.set_cons_zero, List.set_cons_succ])
      refine Stab.wpX_call (LentR .u8 (markB 1) p.ts wr.heap.size) (fun _ _ => True) rfl rfl (fun _ _ _ h he => h.up he) (fun _ _ _ _ _ => trivial) ?_ ?_
      · intro wx hC _ _
        go_simp
        refine ⟨rfl, ?_⟩
        refine (lentBytes_any p.tA p.tc p.ts wx (r2.ext (hT.e.trans hC)) (by omega)).mono ?_
        intro e w9 h
        obtain ⟨u, rfl, hE⟩ := h.ext
        exact ⟨hE, h.toR hC.sz⟩
      rintro u2 ⟨_, _, ⟨g2, cc2, rfl, hcc2, hz2, _, _⟩, _⟩
      simp only [Act.put, List.setIfInBounds_toArray, List.set_cons_zero, List.set_cons_succ]
      iterate 6 (refine Stab.wpX_val rfl rfl ?_; apply Exists.intro; refine ⟨fun wx hC _ => ?_, ?_⟩; (have d2 := (hT.e.trans hC).cell d2; have d3 := (hT.e.trans hC).cell d3; have d7 := (hT.e.trans hC).cell d7; go_simp; (try simp (disch := omega) only [↓IntWalk.iteOmega, Stab.yieldsUpon_value, IntWalk.rem_in, IntWalk.i64_quo, IntWalk.i64_in]); exact ⟨Ext.refl _, rfl⟩); simp only [Act.put, List.setIfInBounds_toArray, List.set_cons_zero, List.set_cons_succ])
      refine Stab.wpX_call (LentR .u8 (markB 1) p.bs wr.heap.size) (fun _ _ => True) rfl rfl (fun _ _ _ h he => h.up he) (fun _ _ _ _ _ => trivial) ?_ ?_
      · intro wx hC _ _
        go_simp
        refine ⟨rfl, ?_⟩
        refine (lentBytes_any p.bA p.bc p.bs wx (r3.ext (hT.e.trans hC)) (by omega)).mono ?_
        intro e w9 h
        obtain ⟨u, rfl, hE⟩ := h.ext
        exact ⟨hE, h.toR hC.sz⟩
      rintro u3 ⟨_, _, ⟨g3, cc3, rfl, hcc3, hz3, _, _⟩, _⟩
      simp only [Act.put, List.setIfInBounds_toArray, List.set_cons_zero, List.set_cons_succ]
      iterate 3 (refine Stab.wpX_val rfl rfl ?_; apply Exists.intro; refine ⟨fun wx hC _ => ?_, ?_⟩; (have d2 := (hT.e.trans hC).cell d2; have d3 := (hT.e.trans hC).cell d3; have d7 := (hT.e.trans hC).cell d7; go_simp; (try simp (disch := omega) only [↓IntWalk.iteOmega, Stab.yieldsUpon_value, IntWalk.rem_in, IntWalk.i64_quo, IntWalk.i64_in]); exact ⟨Ext.refl _, rfl⟩); simp only [Act.put, List.setIfInBounds_toArray, List.set_cons_zero, List.set_cons_succ])
      refine Stab.wpX_end fun w8 hC8 _ hF => ?_
      obtain ⟨g1', cc1', he1, _, _, hlt1, R1⟩ := (hF 5).1.1.2 rfl
      obtain ⟨g2', cc2', he2, _, _, hlt2, R2⟩ := (hF 11).1.2 rfl
      obtain ⟨g3', cc3', he3, _, _, hlt3, R3⟩ := (hF 18).2 rfl
      obtain rfl : g1 = g1' := by simp at he1; exact he1.1
      obtain rfl : g2 = g2' := by simp at he2; exact he2.1
      obtain rfl : g3 = g3' := by simp at he3; exact he3.1
      clear hF he1 he2 he3
      have e0 := (hT.e.trans hC8).cell d0
      have e1 := (hT.e.trans hC8).cell d1
      have e2 := (hT.e.trans hC8).cell d2
      have e3 := (hT.e.trans hC8).cell d3
      have e4 := (hT.e.trans hC8).cell d4
      have e5 := (hT.e.trans hC8).cell d5
      have e6 := (hT.e.trans hC8).cell d6
      have e7 := (hT.e.trans hC8).cell d7
      have hbl := World.block_lt_of_cell? w8 _ e0
      simp at hbl
      go_upto_block 2 with (go_at_call 16; refine (pick_any _ 4 _ (by decide) (by decide)).mono ?_; rintro e w' ⟨rfl, rfl⟩)
      have hE5 := hC8.alloc (.cells #[.int .i64 p.i, .int .i64 p.t, .int .i64 p.k, .slice (some ⟨g3, 0, none⟩) p.bs.length cc3] 32)
      have hX5 := heap_alloc_new w8 (.cells #[.int .i64 p.i, .int .i64 p.t, .int .i64 p.k, .slice (some ⟨g3, 0, none⟩) p.bs.length cc3] 32)
      have T5 := hT.base hE5 rfl
      have hs5 : (w8.alloc (.cells #[.int .i64 p.i, .int .i64 p.t, .int .i64 p.k, .slice (some ⟨g3, 0, none⟩) p.bs.length cc3] 32)).heap.size = w8.heap.size + 1 := World.size_alloc _ _
      have q1 := R1.ext ((Ext.refl w8).alloc (.cells #[.int .i64 p.i, .int .i64 p.t, .int .i64 p.k, .slice (some ⟨g3, 0, none⟩) p.bs.length cc3] 32))
      have q2 := R2.ext ((Ext.refl w8).alloc (.cells #[.int .i64 p.i, .int .i64 p.t, .int .i64 p.k, .slice (some ⟨g3, 0, none⟩) p.bs.length cc3] 32))
      have q3 := R3.ext ((Ext.refl w8).alloc (.cells #[.int .i64 p.i, .int .i64 p.t, .int .i64 p.k, .slice (some ⟨g3, 0, none⟩) p.bs.length cc3] 32))
      have hx8 := hC8.sz
      generalize w8.alloc (.cells #[.int .i64 p.i, .int .i64 p.t, .int .i64 p.k, .slice (some ⟨g3, 0, none⟩) p.bs.length cc3] 32) = W5 at *
      generalize w8.heap.size = xb at *
      clear e0 e1 e2 e3 e4 e5 e6 e7 hbl R1 R2 R3 hE5
      have G1 : wr.heap.size ≤ g1 ∧ g1 < W5.heap.size := ⟨hz1, by omega⟩
      have G2 : wr.heap.size ≤ g2 ∧ g2 < W5.heap.size := ⟨hz2, by omega⟩
      have G3 : wr.heap.size ≤ g3 ∧ g3 < W5.heap.size := ⟨hz3, by omega⟩
      have GX : wr.heap.size ≤ xb ∧ xb < W5.heap.size := ⟨by omega, by omega⟩
      have n1 : Rd W5 (some ⟨g1, 0, none⟩) (p.ns.map (.int .i64)) := by rw [List.map_append] at q1; exact q1.pre
      have n2 : Rd W5 (some ⟨g2, 0, none⟩) (p.ts.map (.int .u8)) := by rw [List.map_append] at q2; exact q2.pre
      have n3 : Rd W5 (some ⟨g3, 0, none⟩) (p.bs.map (.int .u8)) := by rw [List.map_append] at q3; exact q3.pre
      go_cut [] (fun W => CutI k w wr W5 W)
      case first =>
        have y0 := T5.e.cell d0
        have y1 := T5.e.cell d1
        have y2 := T5.e.cell d2
        have y3 := T5.e.cell d3
        have y4 := T5.e.cell d4
        have y5 := T5.e.cell d5
        have y6 := T5.e.cell d6
        have y7 := T5.e.cell d7
        have E0 := cell_of_heap hX5 0
        have E1 := cell_of_heap hX5 1
        have E2 := cell_of_heap hX5 2
        have E3 := cell_of_heap hX5 3
        simp at E0 E1 E2 E3
        have sz5 := T5.sz
        have hmod0 := Int.emod_nonneg p.kind (show (4 : Int) ≠ 0 by decide)
        have hmod1 := Int.emod_lt_of_pos p.kind (show (0 : Int) < 4 by decide)
        by_cases k0 : p.kind % 4 = 0
        · have hb0 : (p.kind % 4 == 0) = true := by simpa using k0
          clear k0
          go_wp2_with fail
          refine (field_any _ _ A1 c1 a.1 a.2 p.width _ _ p.ns _ T5.l sz5 n1 (fun _ => T5.offL G1) (by omega)).mono ?_
          rintro e w6 ⟨rfl, hS6⟩
          obtain ⟨A6, c6, T6, _⟩ := T5.left hS6
          go_wp2_with fail
          refine Stab.wp_region_lex (fun W W' => Ext w W → Ext w W') (Ext w) (fun W => TwoG w.heap.size w.heap.size (w.heap.size + 1) w W5 (fun i => wr.heap.size ≤ i ∧ i < W5.heap.size) (fieldS p.width a.1 a.2 p.ns) r A6 c6 A2 c2 W) (by kernel_rfl) (by kernel_rfl) (fun _ _ h k => k.trans h) (fun _ _ h k => k h) (fun _ _ h k => h.ext k) (T6.e.drew) (T6.ext (Ext.refl _).drew) ?_
          simp only [Stab.zipL, Nat.reduceAdd]
          iterate 11 (refine Stab.wpX_val rfl rfl ?_; apply Exists.intro; refine ⟨fun wx hC _ => ?_, ?_⟩; (have d1 := hC.cell d1; have d2 := hC.cell d2; go_simp; (try simp (disch := omega) only [↓IntWalk.iteOmega, Stab.yieldsUpon_value, IntWalk.rem_in, IntWalk.i64_quo, IntWalk.i64_in]); exact ⟨Ext.refl _, rfl⟩); simp only [Act.put, List.setIfInBounds_toArray, List.set_cons_zero, List.set_cons_succ])
          refine Stab.wpX_call (fun u _ => u = .tuple #[]) (fun _ W => ∃ A7 c7, TwoG w.heap.size w.heap.size (w.heap.size + 1) w W5 (fun i => wr.heap.size ≤ i ∧ i < W5.heap.size) (fieldS p.width a.1 a.2 p.ns) (rfieldsS p.width r.1 r.2 p.ns) A6 c6 A7 c7 W) rfl rfl (fun _ _ _ h _ => h) (fun _ _ _ ⟨A7, c7, h⟩ he => ⟨A7, c7, h.ext he⟩) ?_ ?_
          · intro wx hC hTx _
            clear hs5
            go_simp
            refine ⟨rfl, ?_⟩
            refine (rfields_any _ _ A2 c2 r.1 r.2 p.width _ _ p.ns _ hTx.r hTx.sz (r1.ext hTx.e) (hTx.offR r1) (by omega)).mono ?_
            rintro e w9 ⟨rfl, hS9⟩
            obtain ⟨A9, c9, T9, _⟩ := hTx.right hS9
            exact ⟨T9.e, rfl, A9, c9, T9⟩
          rintro u9 ⟨_, _, rfl, _⟩
          simp only [Act.put, List.setIfInBounds_toArray, List.set_cons_zero, List.set_cons_succ]
          refine Stab.wpX_end fun w7 _ hT7 _ => ?_
          obtain ⟨A7, c7, T7⟩ := hT7
          go_wp2_with fail
          go_meet
          case rel => exact ⟨_, _, _, _, _, _, field_rel hS, by have := fieldS_len p.width a.1 a.2 p.ns; omega, by have := rfieldsS_len p.width r.1 r.2 p.ns; omega, T7⟩
        by_cases k1 : p.kind % 4 = 1
        · have hb0 : (p.kind % 4 == 0) = false := by simp; omega
          have hb1 : (p.kind % 4 == 1) = true := by simpa using k1
          clear k0 k1
          go_wp2_with fail
          refine (text_any _ _ A1 c1 a.1 a.2 _ _ p.ts _ T5.l sz5 n2 (fun _ => T5.offL G2) (by omega) (by omega)).mono ?_
          rintro e w6 ⟨rfl, hS6⟩
          obtain ⟨A6, c6, T6, _⟩ := T5.left hS6
          have x3 := T6.e.cell d3
          go_wp2_with fail
          refine (rtext_any _ _ A2 c2 r.1 r.2 _ _ p.ts _ T6.r T6.sz (r2.ext T6.e) (T6.offR r2) (by omega)).mono ?_
          rintro e w7 ⟨rfl, hS7⟩
          obtain ⟨A7, c7, T7, _⟩ := T6.right hS7
          go_wp2_with fail
          go_meet
          case rel => exact ⟨_, _, _, _, _, _, text_rel hS, by have := textS_len a.1 a.2 p.ts; omega, by have := rtextS_len r.1 r.2 p.ts; omega, T7⟩
        by_cases k2 : p.kind % 4 = 2
        · have hb0 : (p.kind % 4 == 0) = false := by simp; omega
          have hb1 : (p.kind % 4 == 1) = false := by simp; omega
          have hb2 : (p.kind % 4 == 2) = true := by simpa using k2
          clear k0 k1 k2
          go_wp2_with fail
          refine (row_any _ _ A1 c1 a.1 a.2 _ _ p.ns _ T5.l sz5 n1 (fun _ => T5.offL G1) (by omega) (by omega)).mono ?_
          rintro e w6 ⟨rfl, hS6⟩
          obtain ⟨A6, c6, T6, _⟩ := T5.left hS6
          have x2 := T6.e.cell d2
          go_wp2_with fail
          refine (rrow_any _ _ A2 c2 r.1 r.2 _ _ p.ns _ T6.r T6.sz (r1.ext T6.e) (T6.offR r1) (by omega)).mono ?_
          rintro e w7 ⟨rfl, hS7⟩
          obtain ⟨A7, c7, T7, _⟩ := T6.right hS7
          go_wp2_with fail
          go_meet
          case rel => exact ⟨_, _, _, _, _, _, row_rel hS, by have := rowS_len a.1 a.2 p.ns; omega, by have := rrowS_len r.1 r.2 p.ns; omega, T7⟩
        · have hb0 : (p.kind % 4 == 0) = false := by simp; omega
          have hb1 : (p.kind % 4 == 1) = false := by simp; omega
          have hb2 : (p.kind % 4 == 2) = false := by simp; omega
          clear k0 k1 k2
          go_wp2_with fail
          refine (entry_any _ _ A1 c1 a.1 a.2 p.i p.t p.k _ _ p.bs _ T5.l sz5 n3 (fun _ => T5.offL G3) (by omega) (by omega)).mono ?_
          rintro e w6 ⟨rfl, hS6⟩
          obtain ⟨A6, c6, T6, _⟩ := T5.left hS6
          have x4 := T6.e.cell d4
          have x5 := T6.e.cell d5
          have x6 := T6.e.cell d6
          have x7 := T6.e.cell d7
          go_wp2_with fail
          refine (rentry_any _ _ A2 c2 r.1 r.2 p.i p.t p.k _ _ p.bs _ T6.r T6.sz (r3.ext T6.e) (T6.offR r3) (by omega) (by omega)).mono ?_
          rintro e w7 ⟨rfl, hS7⟩
          obtain ⟨A7, c7, T7, _⟩ := T6.right hS7
          go_wp2_with fail
          go_meet
          case rel => exact ⟨_, _, _, _, _, _, entry_rel hS, by have := entryS_len a.1 a.2 p.i p.t p.k p.bs; omega, by have := rentryS_len r.1 r.2 p.i p.t p.k p.bs; omega, T7⟩
      case rest =>
        clear hS hla hlr T5 hT
        obtain ⟨a', r', A3, c3, A4, c4, hS, hla, hlr, T0⟩ := hcut
        go_wp2_with fail
        have z0 := T0.old
        have sz0 := T0.sz
        obtain ⟨X, q, hXl, hB, hR⟩ : ∃ (X : List Int) (q : Bool), X.length ≤ 1000000000 ∧ (∀ W, Wr 37 w.heap.size W w.heap.size A3 c3 a'.1 a'.2 → Calls Try.prog 10 #[.pointer (some ⟨w.heap.size, 0, none⟩)] W (BytesX 37 w.heap.size w.heap.size A3 c3 a'.1 a'.2 X q W)) ∧ (∀ W, Wr 48 w.heap.size W (w.heap.size + 1) A4 c4 r'.1 r'.2 → Calls Try.prog 22 #[.pointer (some ⟨w.heap.size + 1, 0, none⟩)] W (BytesX 48 w.heap.size (w.heap.size + 1) A4 c4 r'.1 r'.2 X q W)) :=
          ⟨_, _, by split <;> (try simp) <;> omega, bytes_any3 _ _ _ _ _ _ _ _ rfl rfl (by omega), rbytes_any3 _ _ _ _ _ _ _ _ (bytes_same hS).symm (by rw [hS.1]) (by omega)⟩
        refine (hB _ T0.l).mono ?_
        rintro e w1 ⟨Aa, ca, rfl, O1, W1, F1⟩
        have T1 := T0.leftS W1 F1
        go_wp2_with fail
        refine (hR _ T1.r).mono ?_
        rintro e w2 ⟨Ac, cc, rfl, O2, W2, F2⟩
        have T2 := T1.rightS W2 F2
        go_wp2_with fail
        refine (hB _ T2.l).mono ?_
        rintro e w3 ⟨Ag, cg, rfl, O3, W3, F3⟩
        have T3 := T2.leftS W3 F3
        have s1 := F1.size
        have s2 := F2.size
        have s3 := F3.size
        have O1' := (O1.fr F2 (fun i hi ht => by have := (O1.lt hi).1; have := z0.2.1 i ht; omega)).fr F3 (fun i hi ht => by have := (O1.lt hi).1; have := z0.1 i ht; omega)
        have O2' := O2.fr F3 (fun i hi ht => by have := (O2.lt hi).1; have := z0.1 i ht; omega)
        have k1 : ∀ i, blk Aa i → wc.heap.size ≤ i ∧ i < w1.heap.size := fun i hi => O1.lt hi
        have k2 : ∀ i, blk Ac i → w1.heap.size ≤ i ∧ i < w2.heap.size := fun i hi => O2.lt hi
        have k3 : ∀ i, blk Ag i → w2.heap.size ≤ i ∧ i < w3.heap.size := fun i hi => O3.lt hi
        have E0 := cell_of_heap hX5 0
        have E1 := cell_of_heap hX5 1
        have E2 := cell_of_heap hX5 2
        have E3 := cell_of_heap hX5 3
        simp at E0 E1 E2 E3
        clear O1 O2 W1 W2 W3 F1 F2 F3 T1 T2 hX5
        obtain ⟨Af, hAf⟩ := At2.mk' Aa Ag
        obtain ⟨cf, hcf⟩ := At2.mk' ca cg
        have hS3 : ∀ i, RB 2 Af i → wc.heap.size ≤ i ∧ i < w3.heap.size ∧ ¬ blk Ac i := by
          rintro i ⟨j, hj, hb⟩
          match j, hj with
          | 0, _ => rw [hAf.z] at hb; exact ⟨(k1 i hb).1, by have := (k1 i hb).2; omega, fun h => by have := (k1 i hb).2; have := (k2 i h).1; omega⟩
          | 1, _ => rw [hAf.o] at hb; exact ⟨by have := (k3 i hb).1; omega, (k3 i hb).2, fun h => by have := (k3 i hb).1; have := (k2 i h).2; omega⟩
        have T3fr : ∀ W, Fr (RB 2 Af) w3 W → TwoG w.heap.size w.heap.size (w.heap.size + 1) w W5 (fun i => wr.heap.size ≤ i ∧ i < W5.heap.size) a' r' A3 c3 A4 c4 W := fun W hC => T3.fr hC (fun i hi => by
          have h1 := (hS3 i hi).1
          exact ⟨by omega, fun ht => by have := z0.1 i ht; omega, fun ht => by have := z0.2.1 i ht; omega, fun hg => by have := z0.2.2 i hg; omega⟩)
        go_wp2_with fail
        refine Stab.wp_region_lex (Fr (RB 2 Af)) (Fr (RB 2 Af) w3) (fun W => Own W wc.heap.size 5 Aa ca (X.map (.int .u8)) ∧ Own W w2.heap.size 5 Ag cg (X.map (.int .u8))) (by kernel_rfl) (by kernel_rfl) (fun _ _ h => Fr.ofExt _ h) (fun _ _ h k => h.trans k (fun _ _ x => x)) (fun _ _ h k => ⟨h.1.ext k, h.2.ext k⟩) ((Fr.refl _ _).drew) ⟨O1'.ext (Ext.refl _).drew, O3.ext (Ext.refl _).drew⟩ ?_
        simp only [Stab.zipL, Nat.reduceAdd]
        refine Stab.wpX_val rfl rfl ⟨.bool q, fun wx hC _ => ⟨Ext.refl _, rfl⟩, ?_⟩
        simp only [Act.put, List.setIfInBounds_toArray, List.set_cons_zero, List.set_cons_succ]
        refine Stab.wpX_val rfl rfl ⟨.bool q, fun wx hC _ => ⟨Ext.refl _, rfl⟩, ?_⟩
        simp only [Act.put, List.setIfInBounds_toArray, List.set_cons_zero, List.set_cons_succ]
        refine Stab.wpX_val rfl rfl ⟨.bool false, fun wx hC _ => by go_simp; (try simp (disch := omega) only [↓IntWalk.iteOmega, Stab.yieldsUpon_value, IntWalk.rem_in, IntWalk.i64_quo, IntWalk.i64_in]); (first | done | exact Ext.refl _ | exact ⟨Ext.refl _, rfl⟩ | exact ⟨Ext.refl _, by simp⟩), ?_⟩
        simp only [Act.put, List.setIfInBounds_toArray, List.set_cons_zero, List.set_cons_succ]
        refine Stab.wpX_val rfl rfl ⟨.bool false, fun wx hC _ => ⟨Ext.refl _, rfl⟩, ?_⟩
        simp only [Act.put, List.setIfInBounds_toArray, List.set_cons_zero, List.set_cons_succ]
        refine Stab.wpX_val rfl rfl ⟨.slice Aa X.length ca, fun wx hC _ => ⟨Ext.refl _, rfl⟩, ?_⟩
        simp only [Act.put, List.setIfInBounds_toArray, List.set_cons_zero, List.set_cons_succ]
        refine Stab.wpX_val rfl rfl ⟨.slice Ac X.length cc, fun wx hC _ => ⟨Ext.refl _, rfl⟩, ?_⟩
        simp only [Act.put, List.setIfInBounds_toArray, List.set_cons_zero, List.set_cons_succ]
        refine Stab.wpX_call1 rfl rfl (fun _ _ h k => ⟨h.1.ext k, h.2.ext k⟩) ?_
        apply Exists.intro
        refine ⟨fun wx hC hTT _ => ?_, ?_⟩
        · have T9 := T3fr wx hC
          have hr1 := hTT.1.rd
          have hr2 := (O2'.fr hC (fun i hi h => (hS3 i h).2.2 hi)).rd
          have hml : X.length ≤ maxLen := by unfold maxLen; omega
          go_simp
          refine ⟨rfl, ?_⟩
          with_reducible refine (sameBytes_eq _ _ _ _ X _ hr1 hr2 hml).mono ?_
          rintro e w9 ⟨rfl, hE9⟩
          exact ⟨Fr.ofExt _ hE9, rfl, hTT.1.ext hE9, hTT.2.ext hE9⟩
        simp only [Act.put, List.setIfInBounds_toArray, List.set_cons_zero, List.set_cons_succ]
        refine Stab.wpX_val rfl rfl ⟨.bool false, fun wx hC _ => by go_simp; (try simp (disch := omega) only [↓IntWalk.iteOmega, Stab.yieldsUpon_value, IntWalk.rem_in, IntWalk.i64_quo, IntWalk.i64_in]); (first | done | exact Ext.refl _ | exact ⟨Ext.refl _, rfl⟩ | exact ⟨Ext.refl _, by simp⟩), ?_⟩
        simp only [Act.put, List.setIfInBounds_toArray, List.set_cons_zero, List.set_cons_succ]
        refine Stab.wpX_val rfl rfl ⟨.bool false, fun wx hC _ => by go_simp; (try simp (disch := omega) only [↓IntWalk.iteOmega, Stab.yieldsUpon_value, IntWalk.rem_in, IntWalk.i64_quo, IntWalk.i64_in]); (first | done | exact Ext.refl _ | exact ⟨Ext.refl _, rfl⟩ | exact ⟨Ext.refl _, by simp⟩), ?_⟩
        simp only [Act.put, List.setIfInBounds_toArray, List.set_cons_zero, List.set_cons_succ]
        refine Stab.wpX_val rfl rfl ⟨.bool false, fun wx hC _ => ⟨Ext.refl _, rfl⟩, ?_⟩
        simp only [Act.put, List.setIfInBounds_toArray, List.set_cons_zero, List.set_cons_succ]
        refine Stab.wpX_val rfl rfl ⟨.slice Aa X.length ca, fun wx hC _ => ⟨Ext.refl _, rfl⟩, ?_⟩
        simp only [Act.put, List.setIfInBounds_toArray, List.set_cons_zero, List.set_cons_succ]
        refine Stab.wpX_val rfl rfl ⟨.slice Ag X.length cg, fun wx hC _ => ⟨Ext.refl _, rfl⟩, ?_⟩
        simp only [Act.put, List.setIfInBounds_toArray, List.set_cons_zero, List.set_cons_succ]
        refine Stab.wpX_new (fun u W => ∃ b, u = .slice (some ⟨b, 0, none⟩) 2 2 ∧ w3.heap.size ≤ b ∧ b < W.heap.size ∧ W.heap[b]? = some (.cells #[.slice Aa X.length ca, .slice Ag X.length cg] 25)) rfl rfl (by kernel_rfl) (fun u W W' ⟨b, h1, h2, h3, h4⟩ hle => ⟨b, h1, h2, Nat.lt_of_lt_of_le h3 hle.size, (hle.block b h3 (fun h => by have := (hS3 b h).2.1; omega)).trans h4⟩) (fun _ _ h k => ⟨h.1.ext k, h.2.ext k⟩) ?_ ?_
        · intro wx hC _
          have := hC.size
          go_simp
          first | exact ⟨(Ext.refl _).alloc _, by omega, heap_alloc_new wx _⟩ | exact ⟨(Ext.refl _).alloc _, (Array.getElem?_eq_some_iff.1 (heap_alloc_new wx _)).2⟩
        rintro ul ⟨_, _, ⟨lb, rfl, hlb, _, _⟩, _⟩
        simp only [Act.put, List.setIfInBounds_toArray, List.set_cons_zero, List.set_cons_succ]
        refine Stab.wpX_call (fun u _ => u = .bool true) (fun _ _ => True) rfl rfl (fun _ _ _ h _ => h) (fun _ _ _ _ _ => trivial) ?_ ?_
        · intro wx hC hTT hF
          obtain ⟨lb', hl1, _, _, hl4⟩ := (hF 12 (by kernel_rfl)).2 rfl
          obtain rfl : lb = lb' := by simpa using hl1
          have hD : Rd wx (some ⟨lb, 0, none⟩) ((List.range 2).map (rowV Af (fun _ => X.length) cf)) := fun j u hj => by
            refine ⟨_, rfl, ?_⟩
            rw [add_lit', Nat.zero_add, cell_of_heap hl4]
            match j, hj with
            | 0, hj => simpa [rowV, List.range_succ, hAf.z, hcf.z] using hj
            | 1, hj => simpa [rowV, List.range_succ, hAf.o, hcf.o] using hj
            | j + 2, hj => simp [List.range_succ] at hj
          have hRw : Rows_ wx wc.heap.size 2 Af cf (fun _ => X) := fun j hj => by
            match j, hj with
            | 0, _ => rw [hAf.z, hcf.z]; exact hTT.1
            | 1, _ => rw [hAf.o, hcf.o]; exact hTT.2.lower (by omega)
          have hDi : Dis 2 Af := by
            intro x y hx hy hxy i h1 h2
            have hc : (x = 0 ∧ y = 1) ∨ (x = 1 ∧ y = 0) := by omega
            rcases hc with ⟨rfl, rfl⟩ | ⟨rfl, rfl⟩
            · rw [hAf.z] at h1; rw [hAf.o] at h2; have := (k1 i h1).2; have := (k3 i h2).1; omega
            · rw [hAf.o] at h1; rw [hAf.z] at h2; have := (k1 i h2).2; have := (k3 i h1).1; omega
          have hsx := hC.size
          go_simp
          refine ⟨rfl, ?_⟩
          refine (apartBytes_any wc.heap.size (some ⟨lb, 0, none⟩) 2 2 Af (fun _ => X.length) cf (fun _ => X) wx hD (fun _ _ => rfl) hRw hDi (by decide) (fun _ _ => hXl) (by omega)).mono ?_
          rintro e w9 ⟨rfl, hF9⟩
          first | exact ⟨hF9, rfl, trivial⟩ | exact ⟨hF9, rfl⟩
        rintro ua ⟨_, _, rfl, _⟩
        simp only [Act.put, List.setIfInBounds_toArray, List.set_cons_zero, List.set_cons_succ]
        refine Stab.wpX_val rfl rfl ⟨.bool false, fun wx hC _ => by go_simp; (try simp (disch := omega) only [↓IntWalk.iteOmega, Stab.yieldsUpon_value, IntWalk.rem_in, IntWalk.i64_quo, IntWalk.i64_in]); (first | done | exact Ext.refl _ | exact ⟨Ext.refl _, rfl⟩ | exact ⟨Ext.refl _, by simp⟩), ?_⟩
        simp only [Act.put, List.setIfInBounds_toArray, List.set_cons_zero, List.set_cons_succ]
        refine Stab.wpX_val rfl rfl ⟨.bool false, fun wx hC _ => by go_simp; (try simp (disch := omega) only [↓IntWalk.iteOmega, Stab.yieldsUpon_value, IntWalk.rem_in, IntWalk.i64_quo, IntWalk.i64_in]); (first | done | exact Ext.refl _ | exact ⟨Ext.refl _, rfl⟩ | exact ⟨Ext.refl _, by simp⟩), ?_⟩
        simp only [Act.put, List.setIfInBounds_toArray, List.set_cons_zero, List.set_cons_succ]
        refine Stab.wpX_val rfl rfl ⟨.bool false, fun wx hC _ => ⟨Ext.refl _, rfl⟩, ?_⟩
        simp only [Act.put, List.setIfInBounds_toArray, List.set_cons_zero, List.set_cons_succ]
        refine Stab.wpX_val rfl rfl ⟨.slice (some ⟨g1, 0, none⟩) p.ns.length cc1, fun wx hC _ => ⟨Ext.refl _, rfl⟩, ?_⟩
        simp only [Act.put, List.setIfInBounds_toArray, List.set_cons_zero, List.set_cons_succ]
        refine Stab.wpX_val rfl rfl ⟨.slice (some ⟨b, f, none⟩) ps.length c, fun wx hC _ => ⟨Ext.refl _, rfl⟩, ?_⟩
        simp only [Act.put, List.setIfInBounds_toArray, List.set_cons_zero, List.set_cons_succ]
        refine Stab.wpX_val rfl rfl ⟨.int .i64 k, fun wx hC _ => ⟨Ext.refl _, rfl⟩, ?_⟩
        simp only [Act.put, List.setIfInBounds_toArray, List.set_cons_zero, List.set_cons_succ]
        refine Stab.wpX_val rfl rfl ⟨.pointer (some ⟨b, f + k * 9, none⟩), fun wx hC _ => by go_simp; (try simp (disch := omega) only [↓IntWalk.iteOmega, Stab.yieldsUpon_value, IntWalk.rem_in, IntWalk.i64_quo, IntWalk.i64_in]); (first | done | exact Ext.refl _ | exact ⟨Ext.refl _, rfl⟩ | exact ⟨Ext.refl _, by simp⟩), ?_⟩
        simp only [Act.put, List.setIfInBounds_toArray, List.set_cons_zero, List.set_cons_succ]
        refine Stab.wpX_val rfl rfl ⟨.pointer (some ⟨b, f + k * 9 + 2, none⟩), fun wx hC _ => by go_simp; (try simp (disch := omega) only [↓IntWalk.iteOmega, Stab.yieldsUpon_value, IntWalk.rem_in, IntWalk.i64_quo, IntWalk.i64_in]); (first | done | exact Ext.refl _ | exact ⟨Ext.refl _, rfl⟩ | exact ⟨Ext.refl _, by simp⟩), ?_⟩
        simp only [Act.put, List.setIfInBounds_toArray, List.set_cons_zero, List.set_cons_succ]
        refine Stab.wpX_val rfl rfl ⟨.slice p.nA p.ns.length p.nc, fun wx hC _ => by have T9 := T3fr wx hC; have d2 := T9.e.cell d2; go_simp; (try simp (disch := omega) only [↓IntWalk.iteOmega, Stab.yieldsUpon_value, IntWalk.rem_in, IntWalk.i64_quo, IntWalk.i64_in]); (first | done | exact Ext.refl _ | exact ⟨Ext.refl _, rfl⟩ | exact ⟨Ext.refl _, by simp⟩), ?_⟩
        simp only [Act.put, List.setIfInBounds_toArray, List.set_cons_zero, List.set_cons_succ]
        refine Stab.wpX_call1 rfl rfl (fun _ _ _ _ => trivial) ?_
        apply Exists.intro
        refine ⟨fun wx hC _ _ => ?_, ?_⟩
        · have T9 := T3fr wx hC
          have hk1 := T9.rd q1 G1; have hk2 := r1.ext T9.e
          go_simp
          refine ⟨rfl, ?_⟩
          with_reducible refine (keptInts_any g1 p.nA cc1 p.nc p.ns wx hk1 hk2 (by omega) hcc1).mono ?_
          rintro e w9 ⟨rfl, hE9⟩
          first | exact ⟨Fr.ofExt _ hE9, rfl, trivial⟩ | exact ⟨Fr.ofExt _ hE9, rfl⟩
        simp only [Act.put, List.setIfInBounds_toArray, List.set_cons_zero, List.set_cons_succ]
        refine Stab.wpX_val rfl rfl ⟨.bool false, fun wx hC _ => by go_simp; (try simp (disch := omega) only [↓IntWalk.iteOmega, Stab.yieldsUpon_value, IntWalk.rem_in, IntWalk.i64_quo, IntWalk.i64_in]); (first | done | exact Ext.refl _ | exact ⟨Ext.refl _, rfl⟩ | exact ⟨Ext.refl _, by simp⟩), ?_⟩
        simp only [Act.put, List.setIfInBounds_toArray, List.set_cons_zero, List.set_cons_succ]
        refine Stab.wpX_val rfl rfl ⟨.bool false, fun wx hC _ => by go_simp; (try simp (disch := omega) only [↓IntWalk.iteOmega, Stab.yieldsUpon_value, IntWalk.rem_in, IntWalk.i64_quo, IntWalk.i64_in]); (first | done | exact Ext.refl _ | exact ⟨Ext.refl _, rfl⟩ | exact ⟨Ext.refl _, by simp⟩), ?_⟩
        simp only [Act.put, List.setIfInBounds_toArray, List.set_cons_zero, List.set_cons_succ]
        refine Stab.wpX_val rfl rfl ⟨.bool false, fun wx hC _ => ⟨Ext.refl _, rfl⟩, ?_⟩
        simp only [Act.put, List.setIfInBounds_toArray, List.set_cons_zero, List.set_cons_succ]
        refine Stab.wpX_val rfl rfl ⟨.slice (some ⟨g2, 0, none⟩) p.ts.length cc2, fun wx hC _ => ⟨Ext.refl _, rfl⟩, ?_⟩
        simp only [Act.put, List.setIfInBounds_toArray, List.set_cons_zero, List.set_cons_succ]
        refine Stab.wpX_val rfl rfl ⟨.slice (some ⟨b, f, none⟩) ps.length c, fun wx hC _ => ⟨Ext.refl _, rfl⟩, ?_⟩
        simp only [Act.put, List.setIfInBounds_toArray, List.set_cons_zero, List.set_cons_succ]
        refine Stab.wpX_val rfl rfl ⟨.int .i64 k, fun wx hC _ => ⟨Ext.refl _, rfl⟩, ?_⟩
        simp only [Act.put, List.setIfInBounds_toArray, List.set_cons_zero, List.set_cons_succ]
        refine Stab.wpX_val rfl rfl ⟨.pointer (some ⟨b, f + k * 9, none⟩), fun wx hC _ => by go_simp; (try simp (disch := omega) only [↓IntWalk.iteOmega, Stab.yieldsUpon_value, IntWalk.rem_in, IntWalk.i64_quo, IntWalk.i64_in]); (first | done | exact Ext.refl _ | exact ⟨Ext.refl _, rfl⟩ | exact ⟨Ext.refl _, by simp⟩), ?_⟩
        simp only [Act.put, List.setIfInBounds_toArray, List.set_cons_zero, List.set_cons_succ]
        refine Stab.wpX_val rfl rfl ⟨.pointer (some ⟨b, f + k * 9 + 3, none⟩), fun wx hC _ => by go_simp; (try simp (disch := omega) only [↓IntWalk.iteOmega, Stab.yieldsUpon_value, IntWalk.rem_in, IntWalk.i64_quo, IntWalk.i64_in]); (first | done | exact Ext.refl _ | exact ⟨Ext.refl _, rfl⟩ | exact ⟨Ext.refl _, by simp⟩), ?_⟩
        simp only [Act.put, List.setIfInBounds_toArray, List.set_cons_zero, List.set_cons_succ]
        refine Stab.wpX_val rfl rfl ⟨.slice p.tA p.ts.length p.tc, fun wx hC _ => by have T9 := T3fr wx hC; have d3 := T9.e.cell d3; go_simp; (try simp (disch := omega) only [↓IntWalk.iteOmega, Stab.yieldsUpon_value, IntWalk.rem_in, IntWalk.i64_quo, IntWalk.i64_in]); (first | done | exact Ext.refl _ | exact ⟨Ext.refl _, rfl⟩ | exact ⟨Ext.refl _, by simp⟩), ?_⟩
        simp only [Act.put, List.setIfInBounds_toArray, List.set_cons_zero, List.set_cons_succ]
        refine Stab.wpX_call1 rfl rfl (fun _ _ _ _ => trivial) ?_
        apply Exists.intro
        refine ⟨fun wx hC _ _ => ?_, ?_⟩
        · have T9 := T3fr wx hC
          have hk1 := T9.rd q2 G2; have hk2 := r2.ext T9.e
          go_simp
          refine ⟨rfl, ?_⟩
          with_reducible refine (keptBytes_any g2 p.tA cc2 p.tc p.ts wx hk1 hk2 (by omega) hcc2).mono ?_
          rintro e w9 ⟨rfl, hE9⟩
          first | exact ⟨Fr.ofExt _ hE9, rfl, trivial⟩ | exact ⟨Fr.ofExt _ hE9, rfl⟩
        simp only [Act.put, List.setIfInBounds_toArray, List.set_cons_zero, List.set_cons_succ]
        refine Stab.wpX_val rfl rfl ⟨.bool false, fun wx hC _ => by go_simp; (try simp (disch := omega) only [↓IntWalk.iteOmega, Stab.yieldsUpon_value, IntWalk.rem_in, IntWalk.i64_quo, IntWalk.i64_in]); (first | done | exact Ext.refl _ | exact ⟨Ext.refl _, rfl⟩ | exact ⟨Ext.refl _, by simp⟩), ?_⟩
        simp only [Act.put, List.setIfInBounds_toArray, List.set_cons_zero, List.set_cons_succ]
        refine Stab.wpX_val rfl rfl ⟨.bool false, fun wx hC _ => by go_simp; (try simp (disch := omega) only [↓IntWalk.iteOmega, Stab.yieldsUpon_value, IntWalk.rem_in, IntWalk.i64_quo, IntWalk.i64_in]); (first | done | exact Ext.refl _ | exact ⟨Ext.refl _, rfl⟩ | exact ⟨Ext.refl _, by simp⟩), ?_⟩
        simp only [Act.put, List.setIfInBounds_toArray, List.set_cons_zero, List.set_cons_succ]
        refine Stab.wpX_val rfl rfl ⟨.bool false, fun wx hC _ => ⟨Ext.refl _, rfl⟩, ?_⟩
        simp only [Act.put, List.setIfInBounds_toArray, List.set_cons_zero, List.set_cons_succ]
        refine Stab.wpX_val rfl rfl ⟨.slice (some ⟨g3, 0, none⟩) p.bs.length cc3, fun wx hC _ => ⟨Ext.refl _, rfl⟩, ?_⟩
        simp only [Act.put, List.setIfInBounds_toArray, List.set_cons_zero, List.set_cons_succ]
        refine Stab.wpX_val rfl rfl ⟨.slice (some ⟨b, f, none⟩) ps.length c, fun wx hC _ => ⟨Ext.refl _, rfl⟩, ?_⟩
        simp only [Act.put, List.setIfInBounds_toArray, List.set_cons_zero, List.set_cons_succ]
        refine Stab.wpX_val rfl rfl ⟨.int .i64 k, fun wx hC _ => ⟨Ext.refl _, rfl⟩, ?_⟩
        simp only [Act.put, List.setIfInBounds_toArray, List.set_cons_zero, List.set_cons_succ]
        refine Stab.wpX_val rfl rfl ⟨.pointer (some ⟨b, f + k * 9, none⟩), fun wx hC _ => by go_simp; (try simp (disch := omega) only [↓IntWalk.iteOmega, Stab.yieldsUpon_value, IntWalk.rem_in, IntWalk.i64_quo, IntWalk.i64_in]); (first | done | exact Ext.refl _ | exact ⟨Ext.refl _, rfl⟩ | exact ⟨Ext.refl _, by simp⟩), ?_⟩
        simp only [Act.put, List.setIfInBounds_toArray, List.set_cons_zero, List.set_cons_succ]
        refine Stab.wpX_val rfl rfl ⟨.pointer (some ⟨b, f + k * 9 + 4, none⟩), fun wx hC _ => by go_simp; (try simp (disch := omega) only [↓IntWalk.iteOmega, Stab.yieldsUpon_value, IntWalk.rem_in, IntWalk.i64_quo, IntWalk.i64_in]); (first | done | exact Ext.refl _ | exact ⟨Ext.refl _, rfl⟩ | exact ⟨Ext.refl _, by simp⟩), ?_⟩
        simp only [Act.put, List.setIfInBounds_toArray, List.set_cons_zero, List.set_cons_succ]
        refine Stab.wpX_val rfl rfl ⟨.pointer (some ⟨b, f + k * 9 + 7, none⟩), fun wx hC _ => by go_simp; (try simp (disch := omega) only [↓IntWalk.iteOmega, Stab.yieldsUpon_value, IntWalk.rem_in, IntWalk.i64_quo, IntWalk.i64_in]); (first | done | exact Ext.refl _ | exact ⟨Ext.refl _, rfl⟩ | exact ⟨Ext.refl _, by simp⟩), ?_⟩
        simp only [Act.put, List.setIfInBounds_toArray, List.set_cons_zero, List.set_cons_succ]
        refine Stab.wpX_val rfl rfl ⟨.slice p.bA p.bs.length p.bc, fun wx hC _ => by have T9 := T3fr wx hC; have d7 := T9.e.cell d7; go_simp; (try simp (disch := omega) only [↓IntWalk.iteOmega, Stab.yieldsUpon_value, IntWalk.rem_in, IntWalk.i64_quo, IntWalk.i64_in]); (first | done | exact Ext.refl _ | exact ⟨Ext.refl _, rfl⟩ | exact ⟨Ext.refl _, by simp⟩), ?_⟩
        simp only [Act.put, List.setIfInBounds_toArray, List.set_cons_zero, List.set_cons_succ]
        refine Stab.wpX_call1 rfl rfl (fun _ _ _ _ => trivial) ?_
        apply Exists.intro
        refine ⟨fun wx hC _ _ => ?_, ?_⟩
        · have T9 := T3fr wx hC
          have hk1 := T9.rd q3 G3; have hk2 := r3.ext T9.e
          go_simp
          refine ⟨rfl, ?_⟩
          with_reducible refine (keptBytes_any g3 p.bA cc3 p.bc p.bs wx hk1 hk2 (by omega) hcc3).mono ?_
          rintro e w9 ⟨rfl, hE9⟩
          first | exact ⟨Fr.ofExt _ hE9, rfl, trivial⟩ | exact ⟨Fr.ofExt _ hE9, rfl⟩
        simp only [Act.put, List.setIfInBounds_toArray, List.set_cons_zero, List.set_cons_succ]
        refine Stab.wpX_val rfl rfl ⟨.bool false, fun wx hC _ => by go_simp; (try simp (disch := omega) only [↓IntWalk.iteOmega, Stab.yieldsUpon_value, IntWalk.rem_in, IntWalk.i64_quo, IntWalk.i64_in]); (first | done | exact Ext.refl _ | exact ⟨Ext.refl _, rfl⟩ | exact ⟨Ext.refl _, by simp⟩), ?_⟩
        simp only [Act.put, List.setIfInBounds_toArray, List.set_cons_zero, List.set_cons_succ]
        refine Stab.wpX_val rfl rfl ⟨.bool false, fun wx hC _ => by go_simp; (try simp (disch := omega) only [↓IntWalk.iteOmega, Stab.yieldsUpon_value, IntWalk.rem_in, IntWalk.i64_quo, IntWalk.i64_in]); (first | done | exact Ext.refl _ | exact ⟨Ext.refl _, rfl⟩ | exact ⟨Ext.refl _, by simp⟩), ?_⟩
        simp only [Act.put, List.setIfInBounds_toArray, List.set_cons_zero, List.set_cons_succ]
        refine Stab.wpX_val rfl rfl ⟨.bool false, fun wx hC _ => ⟨Ext.refl _, rfl⟩, ?_⟩
        simp only [Act.put, List.setIfInBounds_toArray, List.set_cons_zero, List.set_cons_succ]
        refine Stab.wpX_val rfl rfl ?_
        apply Exists.intro
        refine ⟨fun wx hC _ => by have T9 := T3fr wx hC; have E0 := T9.cell E0 GX; have E1 := T9.cell E1 GX; have E2 := T9.cell E2 GX; have E3 := T9.cell E3 GX; go_simp; (try simp (disch := omega) only [↓IntWalk.iteOmega, Stab.yieldsUpon_value, IntWalk.rem_in, IntWalk.i64_quo, IntWalk.i64_in]); exact ⟨Ext.refl _, rfl⟩, ?_⟩
        simp only [Act.put, List.setIfInBounds_toArray, List.set_cons_zero, List.set_cons_succ]
        refine Stab.wpX_call1 rfl rfl (fun _ _ _ _ => trivial) ?_
        apply Exists.intro
        refine ⟨fun wx hC _ _ => ?_, ?_⟩
        · have T9 := T3fr wx hC
          skip
          go_simp
          refine ⟨rfl, ?_⟩
          with_reducible refine (right_any p.i p.t p.k _ p.bs.length _ wx).mono ?_
          rintro e w9 ⟨rfl, hE9⟩
          first | exact ⟨Fr.ofExt _ hE9, rfl, trivial⟩ | exact ⟨Fr.ofExt _ hE9, rfl⟩
        simp only [Act.put, List.setIfInBounds_toArray, List.set_cons_zero, List.set_cons_succ]
        refine Stab.wpX_val rfl rfl ⟨.slice (some ⟨b, f, none⟩) ps.length c, fun wx hC _ => ⟨Ext.refl _, rfl⟩, ?_⟩
        simp only [Act.put, List.setIfInBounds_toArray, List.set_cons_zero, List.set_cons_succ]
        refine Stab.wpX_val rfl rfl ⟨.int .i64 k, fun wx hC _ => ⟨Ext.refl _, rfl⟩, ?_⟩
        simp only [Act.put, List.setIfInBounds_toArray, List.set_cons_zero, List.set_cons_succ]
        refine Stab.wpX_val rfl rfl ⟨.pointer (some ⟨b, f + k * 9, none⟩), fun wx hC _ => by go_simp; (try simp (disch := omega) only [↓IntWalk.iteOmega, Stab.yieldsUpon_value, IntWalk.rem_in, IntWalk.i64_quo, IntWalk.i64_in]); (first | done | exact Ext.refl _ | exact ⟨Ext.refl _, rfl⟩ | exact ⟨Ext.refl _, by simp⟩), ?_⟩
        simp only [Act.put, List.setIfInBounds_toArray, List.set_cons_zero, List.set_cons_succ]
        refine Stab.wpX_val rfl rfl ⟨.pointer (some ⟨b, f + k * 9 + 4, none⟩), fun wx hC _ => by go_simp; (try simp (disch := omega) only [↓IntWalk.iteOmega, Stab.yieldsUpon_value, IntWalk.rem_in, IntWalk.i64_quo, IntWalk.i64_in]); (first | done | exact Ext.refl _ | exact ⟨Ext.refl _, rfl⟩ | exact ⟨Ext.refl _, by simp⟩), ?_⟩
        simp only [Act.put, List.setIfInBounds_toArray, List.set_cons_zero, List.set_cons_succ]
        refine Stab.wpX_val rfl rfl ?_
        apply Exists.intro
        refine ⟨fun wx hC _ => by have T9 := T3fr wx hC; have d4 := T9.e.cell d4; have d5 := T9.e.cell d5; have d6 := T9.e.cell d6; have d7 := T9.e.cell d7; go_simp; (try simp (disch := omega) only [↓IntWalk.iteOmega, Stab.yieldsUpon_value, IntWalk.rem_in, IntWalk.i64_quo, IntWalk.i64_in]); exact ⟨Ext.refl _, rfl⟩, ?_⟩
        simp only [Act.put, List.setIfInBounds_toArray, List.set_cons_zero, List.set_cons_succ]
        refine Stab.wpX_call1 rfl rfl (fun _ _ _ _ => trivial) ?_
        apply Exists.intro
        refine ⟨fun wx hC _ _ => ?_, ?_⟩
        · have T9 := T3fr wx hC
          skip
          go_simp
          refine ⟨rfl, ?_⟩
          with_reducible refine (rright_any p.i p.t p.k _ p.bs.length _ wx).mono ?_
          rintro e w9 ⟨rfl, hE9⟩
          first | exact ⟨Fr.ofExt _ hE9, rfl, trivial⟩ | exact ⟨Fr.ofExt _ hE9, rfl⟩
        simp only [Act.put, List.setIfInBounds_toArray, List.set_cons_zero, List.set_cons_succ]
        refine Stab.wpX_val rfl rfl ⟨.bool false, fun wx hC _ => by go_simp; (try simp (disch := omega) only [↓IntWalk.iteOmega, Stab.yieldsUpon_value, IntWalk.rem_in, IntWalk.i64_quo, IntWalk.i64_in]); (first | done | exact Ext.refl _ | exact ⟨Ext.refl _, rfl⟩ | exact ⟨Ext.refl _, by simp⟩), ?_⟩
        simp only [Act.put, List.setIfInBounds_toArray, List.set_cons_zero, List.set_cons_succ]
        refine Stab.wpX_val rfl rfl ⟨.bool false, fun wx hC _ => by go_simp; (try simp (disch := omega) only [↓IntWalk.iteOmega, Stab.yieldsUpon_value, IntWalk.rem_in, IntWalk.i64_quo, IntWalk.i64_in]); (first | done | exact Ext.refl _ | exact ⟨Ext.refl _, rfl⟩ | exact ⟨Ext.refl _, by simp⟩), ?_⟩
        simp only [Act.put, List.setIfInBounds_toArray, List.set_cons_zero, List.set_cons_succ]
        refine Stab.wpX_end fun w4 hC4 _ _ => ?_
        have T4 := T3fr w4 hC4
        go_wp2_with fail
        exact ⟨⟨k + 1, a', r', A3, c3, A4, c4, _, _, _, by omega, by go_num, rfl, hS, by omega, by omega, T4.free _⟩, by simp [intOf]; omega⟩
    · obtain rfl : k = ps.length := by omega
      go_wp2_with fail
      go_ret2
      exact ⟨⟨_, rfl⟩, hT.e⟩
end Go.Proofs.Ytfpabbhgmncjdaa
