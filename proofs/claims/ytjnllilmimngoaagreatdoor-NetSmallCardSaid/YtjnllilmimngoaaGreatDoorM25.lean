/-
  The document: has a letter nothing but what it says that it has (4, 5, 6).
  The document: has a letter nothing but what it says that it has (7a, 7b, 8a).
-/
import Derived.Test.YtjnllilmimngoaaGreatDoorM24
namespace Go.Proofs.YtjnllilmimngoaaGreatDoor
open Go.RowKit

set_option maxRecDepth 100000 in
set_option maxHeartbeats 4000000 in
theorem bare_4 (l : Let) (w : World) : Calls Tryz.prog 105 #[l.v, .bool true, .bool false, .bool false, .bool false, .bool true, .bool false, .bool false, .bool false] w fun e w' => e = .returned (.bool (bareD true false false false true false false false l)) ∧ Ext w w' := by
  have heq1 := eqId l.last.i l.last.t l.last.k 0 0 0
  have heq2 := eqId l.prev.i l.prev.t l.prev.k 0 0 0
  have hz1 : (l.last.i == 0 && (l.last.t == 0 && l.last.k == 0)) = zeroId l.last.i l.last.t l.last.k := rfl
  have hz2 : (l.prev.i == 0 && (l.prev.t == 0 && l.prev.k == 0)) = zeroId l.prev.i l.prev.t l.prev.k := rfl
  rw [hz1] at heq1
  rw [hz2] at heq2
  clear hz1 hz2
  have HNO := Lib.hid (fun w => rnone_any l w)
  unfold Let.sagg at HNO
  have HG0 := Lib.hid (heap_alloc_new w (.cells l.arr 35))
  have hV : l.v = .agg l.arr := rfl
  rw [hV]
  clear hV
  cases h0 : zeroId l.last.i l.last.t l.last.k with
  | false =>
    rw [h0] at heq1
    have hv : Hid (bareD true false false false true false false false l = false) := Lib.hid (by unfold bareD; simp [h0])
    clear h0
    go_enter Tryz.func105, Tryz.ntmps105
    go_upto_region 2 with fail
    simp only [List.append]
    go_wp2_with fail
    go_ret
    exact ⟨by rw [hv.out]; first | rfl | simp, ((Ext.refl w).alloc _).alloc _⟩
  | true =>
    rw [h0] at heq1
    cases h1 : zeroId l.prev.i l.prev.t l.prev.k with
    | false =>
      rw [h1] at heq2
      have hv : Hid (bareD true false false false true false false false l = false) := Lib.hid (by unfold bareD; simp [h0, h1])
      clear h0 h1
      go_enter Tryz.func105, Tryz.ntmps105
      go_upto_region 2 with fail
      simp only [List.append]
      go_wp2_with fail
      go_ret
      exact ⟨by rw [hv.out]; first | rfl | simp, ((Ext.refl w).alloc _).alloc _⟩
    | true =>
      rw [h1] at heq2
      cases h2 : (l.commit == 0) with
      | false =>
        have hv : Hid (bareD true false false false true false false false l = false) := Lib.hid (by unfold bareD; simp [h0, h1, h2])
        clear h0 h1
        go_enter Tryz.func105, Tryz.ntmps105
        go_upto_region 2 with fail
        simp only [List.append]
        go_wp2_with fail
        go_ret
        exact ⟨by rw [hv.out]; first | rfl | simp, ((Ext.refl w).alloc _).alloc _⟩
      | true =>
        cases h3 : ((l.want.length : Int) == 0) with
        | false =>
          have hv : Hid (bareD true false false false true false false false l = false) := Lib.hid (by unfold bareD; simp [h0, h1, h2, h3])
          clear h0 h1
          go_enter Tryz.func105, Tryz.ntmps105
          go_upto_region 2 with fail
          simp only [List.append]
          go_wp2_with fail
          go_ret
          exact ⟨by rw [hv.out]; first | rfl | simp, ((Ext.refl w).alloc _).alloc _⟩
        | true =>
          cases h4 : ((l.ents.length : Int) == 0) with
          | false =>
            have hv : Hid (bareD true false false false true false false false l = false) := Lib.hid (by unfold bareD; simp [h0, h1, h2, h3, h4])
            clear h0 h1
            go_enter Tryz.func105, Tryz.ntmps105
            go_upto_region 2 with fail
            simp only [List.append]
            go_wp2_with fail
            go_ret
            exact ⟨by rw [hv.out]; first | rfl | simp, ((Ext.refl w).alloc _).alloc _⟩
          | true =>
            cases h5 : noneOk l with
            | false =>
              simp only [h5] at HNO
              have hv : Hid (bareD true false false false true false false false l = false) := Lib.hid (by unfold bareD; simp [h0, h1, h2, h3, h4, h5])
              clear h0 h1 h5
              go_enter Tryz.func105, Tryz.ntmps105
              go_upto_region 2 with fail
              simp only [List.append]
              go_wp2_with fail
              refine (HNO.out _).mono ?_
              rintro ev w1 ⟨rfl, hE1⟩
              have r1 := cell_of_heap (hE1.blk (heap0 w _ _))
              have HE1 := Lib.hid ((((Ext.refl w).alloc _).alloc _).trans hE1)
              clear hE1
              go_wp2_with fail
              go_ret
              exact ⟨by rw [hv.out]; first | rfl | simp, HE1.out⟩
            | true =>
              simp only [h5] at HNO
              cases h6 : (l.piece == 0) with
              | false =>
                have hv : Hid (bareD true false false false true false false false l = false) := Lib.hid (by unfold bareD; simp [h0, h1, h2, h3, h4, h5, h6])
                clear h0 h1 h5
                go_enter Tryz.func105, Tryz.ntmps105
                go_upto_region 2 with fail
                simp only [List.append]
                go_wp2_with fail
                refine (HNO.out _).mono ?_
                rintro ev w1 ⟨rfl, hE1⟩
                have r1 := cell_of_heap (hE1.blk (heap0 w _ _))
                have HE1 := Lib.hid ((((Ext.refl w).alloc _).alloc _).trans hE1)
                clear hE1
                go_wp2_with fail
                go_ret
                exact ⟨by rw [hv.out]; first | rfl | simp, HE1.out⟩
              | true =>
                have hv : Hid (bareD true false false false true false false false l = ((l.bs.length : Int) == 0)) := Lib.hid (by unfold bareD; simp [h0, h1, h2, h3, h4, h5, h6])
                clear h0 h1 h5
                go_enter Tryz.func105, Tryz.ntmps105
                go_upto_region 2 with fail
                simp only [List.append]
                go_wp2_with fail
                refine (HNO.out _).mono ?_
                rintro ev w1 ⟨rfl, hE1⟩
                have r1 := cell_of_heap (hE1.blk (heap0 w _ _))
                have HE1 := Lib.hid ((((Ext.refl w).alloc _).alloc _).trans hE1)
                clear hE1
                go_wp2_with fail
                go_ret
                exact ⟨by rw [hv.out]; first | rfl | simp, HE1.out⟩

set_option maxRecDepth 100000 in
set_option maxHeartbeats 4000000 in
theorem bare_5 (l : Let) (w : World) : Calls Tryz.prog 105 #[l.v, .bool false, .bool false, .bool false, .bool false, .bool false, .bool false, .bool true, .bool true] w fun e w' => e = .returned (.bool (bareD false false false false false false true true l)) ∧ Ext w w' := by
  have heq1 := eqId l.last.i l.last.t l.last.k 0 0 0
  have heq2 := eqId l.prev.i l.prev.t l.prev.k 0 0 0
  have hz1 : (l.last.i == 0 && (l.last.t == 0 && l.last.k == 0)) = zeroId l.last.i l.last.t l.last.k := rfl
  have hz2 : (l.prev.i == 0 && (l.prev.t == 0 && l.prev.k == 0)) = zeroId l.prev.i l.prev.t l.prev.k := rfl
  rw [hz1] at heq1
  rw [hz2] at heq2
  clear hz1 hz2
  have HNO := Lib.hid (fun w => rnone_any l w)
  unfold Let.sagg at HNO
  have HG0 := Lib.hid (heap_alloc_new w (.cells l.arr 35))
  have hV : l.v = .agg l.arr := rfl
  rw [hV]
  clear hV
  cases h0 : (l.index == 0) with
  | false =>
    have hv : Hid (bareD false false false false false false true true l = false) := Lib.hid (by unfold bareD; simp [h0])
    go_enter Tryz.func105, Tryz.ntmps105
    go_upto_region 2 with fail
    simp only [List.append]
    go_wp2_with fail
    go_ret
    exact ⟨by rw [hv.out]; first | rfl | simp, ((Ext.refl w).alloc _).alloc _⟩
  | true =>
    cases h1 : zeroId l.last.i l.last.t l.last.k with
    | false =>
      rw [h1] at heq1
      have hv : Hid (bareD false false false false false false true true l = false) := Lib.hid (by unfold bareD; simp [h0, h1])
      clear h1
      go_enter Tryz.func105, Tryz.ntmps105
      go_upto_region 2 with fail
      simp only [List.append]
      go_wp2_with fail
      go_ret
      exact ⟨by rw [hv.out]; first | rfl | simp, ((Ext.refl w).alloc _).alloc _⟩
    | true =>
      rw [h1] at heq1
      cases h2 : zeroId l.prev.i l.prev.t l.prev.k with
      | false =>
        rw [h2] at heq2
        have hv : Hid (bareD false false false false false false true true l = false) := Lib.hid (by unfold bareD; simp [h0, h1, h2])
        clear h1 h2
        go_enter Tryz.func105, Tryz.ntmps105
        go_upto_region 2 with fail
        simp only [List.append]
        go_wp2_with fail
        go_ret
        exact ⟨by rw [hv.out]; first | rfl | simp, ((Ext.refl w).alloc _).alloc _⟩
      | true =>
        rw [h2] at heq2
        cases h3 : (l.commit == 0) with
        | false =>
          have hv : Hid (bareD false false false false false false true true l = false) := Lib.hid (by unfold bareD; simp [h0, h1, h2, h3])
          clear h1 h2
          go_enter Tryz.func105, Tryz.ntmps105
          go_upto_region 2 with fail
          simp only [List.append]
          go_wp2_with fail
          go_ret
          exact ⟨by rw [hv.out]; first | rfl | simp, ((Ext.refl w).alloc _).alloc _⟩
        | true =>
          cases h4 : ((l.want.length : Int) == 0) with
          | false =>
            have hv : Hid (bareD false false false false false false true true l = false) := Lib.hid (by unfold bareD; simp [h0, h1, h2, h3, h4])
            clear h1 h2
            go_enter Tryz.func105, Tryz.ntmps105
            go_upto_region 2 with fail
            simp only [List.append]
            go_wp2_with fail
            go_ret
            exact ⟨by rw [hv.out]; first | rfl | simp, ((Ext.refl w).alloc _).alloc _⟩
          | true =>
            cases h5 : l.yes with
            | true =>
              have hv : Hid (bareD false false false false false false true true l = false) := Lib.hid (by unfold bareD; simp [h0, h1, h2, h3, h4, h5])
              clear h1 h2
              go_enter Tryz.func105, Tryz.ntmps105
              go_upto_region 2 with fail
              simp only [List.append]
              go_wp2_with fail
              go_ret
              exact ⟨by rw [hv.out]; first | rfl | simp, ((Ext.refl w).alloc _).alloc _⟩
            | false =>
              cases h6 : ((l.ents.length : Int) == 0) with
              | false =>
                have hv : Hid (bareD false false false false false false true true l = false) := Lib.hid (by unfold bareD; simp [h0, h1, h2, h3, h4, h5, h6])
                clear h1 h2
                go_enter Tryz.func105, Tryz.ntmps105
                go_upto_region 2 with fail
                simp only [List.append]
                go_wp2_with fail
                go_ret
                exact ⟨by rw [hv.out]; first | rfl | simp, ((Ext.refl w).alloc _).alloc _⟩
              | true =>
                have hv : Hid (bareD false false false false false false true true l = true) := Lib.hid (by unfold bareD; simp [h0, h1, h2, h3, h4, h5, h6])
                clear h1 h2
                go_enter Tryz.func105, Tryz.ntmps105
                go_upto_region 2 with fail
                simp only [List.append]
                go_wp2_with fail
                go_ret
                exact ⟨by rw [hv.out]; first | rfl | simp, ((Ext.refl w).alloc _).alloc _⟩

set_option maxRecDepth 100000 in
set_option maxHeartbeats 4000000 in
theorem bare_6 (l : Let) (w : World) : Calls Tryz.prog 105 #[l.v, .bool false, .bool true, .bool false, .bool false, .bool true, .bool false, .bool false, .bool true] w fun e w' => e = .returned (.bool (bareD false true false false true false false true l)) ∧ Ext w w' := by
  have heq1 := eqId l.last.i l.last.t l.last.k 0 0 0
  have heq2 := eqId l.prev.i l.prev.t l.prev.k 0 0 0
  have hz1 : (l.last.i == 0 && (l.last.t == 0 && l.last.k == 0)) = zeroId l.last.i l.last.t l.last.k := rfl
  have hz2 : (l.prev.i == 0 && (l.prev.t == 0 && l.prev.k == 0)) = zeroId l.prev.i l.prev.t l.prev.k := rfl
  rw [hz1] at heq1
  rw [hz2] at heq2
  clear hz1 hz2
  have HNO := Lib.hid (fun w => rnone_any l w)
  unfold Let.sagg at HNO
  have HG0 := Lib.hid (heap_alloc_new w (.cells l.arr 35))
  have hV : l.v = .agg l.arr := rfl
  rw [hV]
  clear hV
  cases h0 : (l.index == 0) with
  | false =>
    have hv : Hid (bareD false true false false true false false true l = false) := Lib.hid (by unfold bareD; simp [h0])
    go_enter Tryz.func105, Tryz.ntmps105
    go_upto_region 2 with fail
    simp only [List.append]
    go_wp2_with fail
    go_ret
    exact ⟨by rw [hv.out]; first | rfl | simp, ((Ext.refl w).alloc _).alloc _⟩
  | true =>
    cases h1 : zeroId l.prev.i l.prev.t l.prev.k with
    | false =>
      rw [h1] at heq2
      have hv : Hid (bareD false true false false true false false true l = false) := Lib.hid (by unfold bareD; simp [h0, h1])
      clear h1
      go_enter Tryz.func105, Tryz.ntmps105
      go_upto_region 2 with fail
      simp only [List.append]
      go_wp2_with fail
      go_ret
      exact ⟨by rw [hv.out]; first | rfl | simp, ((Ext.refl w).alloc _).alloc _⟩
    | true =>
      rw [h1] at heq2
      cases h2 : (l.commit == 0) with
      | false =>
        have hv : Hid (bareD false true false false true false false true l = false) := Lib.hid (by unfold bareD; simp [h0, h1, h2])
        clear h1
        go_enter Tryz.func105, Tryz.ntmps105
        go_upto_region 2 with fail
        simp only [List.append]
        go_wp2_with fail
        go_ret
        exact ⟨by rw [hv.out]; first | rfl | simp, ((Ext.refl w).alloc _).alloc _⟩
      | true =>
        cases h3 : ((l.want.length : Int) == 0) with
        | false =>
          have hv : Hid (bareD false true false false true false false true l = false) := Lib.hid (by unfold bareD; simp [h0, h1, h2, h3])
          clear h1
          go_enter Tryz.func105, Tryz.ntmps105
          go_upto_region 2 with fail
          simp only [List.append]
          go_wp2_with fail
          go_ret
          exact ⟨by rw [hv.out]; first | rfl | simp, ((Ext.refl w).alloc _).alloc _⟩
        | true =>
          cases h4 : ((l.ents.length : Int) == 0) with
          | false =>
            have hv : Hid (bareD false true false false true false false true l = false) := Lib.hid (by unfold bareD; simp [h0, h1, h2, h3, h4])
            clear h1
            go_enter Tryz.func105, Tryz.ntmps105
            go_upto_region 2 with fail
            simp only [List.append]
            go_wp2_with fail
            go_ret
            exact ⟨by rw [hv.out]; first | rfl | simp, ((Ext.refl w).alloc _).alloc _⟩
          | true =>
            cases h5 : noneOk l with
            | false =>
              simp only [h5] at HNO
              have hv : Hid (bareD false true false false true false false true l = false) := Lib.hid (by unfold bareD; simp [h0, h1, h2, h3, h4, h5])
              clear h1 h5
              go_enter Tryz.func105, Tryz.ntmps105
              go_upto_region 2 with fail
              simp only [List.append]
              go_wp2_with fail
              refine (HNO.out _).mono ?_
              rintro ev w1 ⟨rfl, hE1⟩
              have r1 := cell_of_heap (hE1.blk (heap0 w _ _))
              have HE1 := Lib.hid ((((Ext.refl w).alloc _).alloc _).trans hE1)
              clear hE1
              go_wp2_with fail
              go_ret
              exact ⟨by rw [hv.out]; first | rfl | simp, HE1.out⟩
            | true =>
              simp only [h5] at HNO
              have hv : Hid (bareD false true false false true false false true l = true) := Lib.hid (by unfold bareD; simp [h0, h1, h2, h3, h4, h5])
              clear h1 h5
              go_enter Tryz.func105, Tryz.ntmps105
              go_upto_region 2 with fail
              simp only [List.append]
              go_wp2_with fail
              refine (HNO.out _).mono ?_
              rintro ev w1 ⟨rfl, hE1⟩
              have r1 := cell_of_heap (hE1.blk (heap0 w _ _))
              have HE1 := Lib.hid ((((Ext.refl w).alloc _).alloc _).trans hE1)
              clear hE1
              go_wp2_with fail
              go_ret
              exact ⟨by rw [hv.out]; first | rfl | simp, HE1.out⟩
end Go.Proofs.YtjnllilmimngoaaGreatDoor
namespace Go.Proofs.YtjnllilmimngoaaGreatDoor
open Go.RowKit

set_option maxRecDepth 100000 in
set_option maxHeartbeats 4000000 in
theorem bare_7a (l : Let) (w : World) : Calls Tryz.prog 105 #[l.v, .bool false, .bool false, .bool false, .bool true, .bool false, .bool false, .bool false, .bool false] w fun e w' => e = .returned (.bool (bareD false false false true false false false false l)) ∧ Ext w w' := by
  have heq1 := eqId l.last.i l.last.t l.last.k 0 0 0
  have heq2 := eqId l.prev.i l.prev.t l.prev.k 0 0 0
  have hz1 : (l.last.i == 0 && (l.last.t == 0 && l.last.k == 0)) = zeroId l.last.i l.last.t l.last.k := rfl
  have hz2 : (l.prev.i == 0 && (l.prev.t == 0 && l.prev.k == 0)) = zeroId l.prev.i l.prev.t l.prev.k := rfl
  rw [hz1] at heq1
  rw [hz2] at heq2
  clear hz1 hz2
  have HNO := Lib.hid (fun w => rnone_any l w)
  unfold Let.sagg at HNO
  have HG0 := Lib.hid (heap_alloc_new w (.cells l.arr 35))
  have hV : l.v = .agg l.arr := rfl
  rw [hV]
  clear hV
  cases h0 : (l.index == 0) with
  | false =>
    have hv : Hid (bareD false false false true false false false false l = false) := Lib.hid (by unfold bareD; simp [h0])
    go_enter Tryz.func105, Tryz.ntmps105
    go_upto_region 2 with fail
    simp only [List.append]
    go_wp2_with fail
    go_ret
    exact ⟨by rw [hv.out]; first | rfl | simp, ((Ext.refl w).alloc _).alloc _⟩
  | true =>
    cases h1 : zeroId l.last.i l.last.t l.last.k with
    | false =>
      rw [h1] at heq1
      have hv : Hid (bareD false false false true false false false false l = false) := Lib.hid (by unfold bareD; simp [h0, h1])
      clear h1
      go_enter Tryz.func105, Tryz.ntmps105
      go_upto_region 2 with fail
      simp only [List.append]
      go_wp2_with fail
      go_ret
      exact ⟨by rw [hv.out]; first | rfl | simp, ((Ext.refl w).alloc _).alloc _⟩
    | true =>
      rw [h1] at heq1
      cases h2 : zeroId l.prev.i l.prev.t l.prev.k with
      | false =>
        rw [h2] at heq2
        have hv : Hid (bareD false false false true false false false false l = false) := Lib.hid (by unfold bareD; simp [h0, h1, h2])
        clear h1 h2
        go_enter Tryz.func105, Tryz.ntmps105
        go_upto_region 2 with fail
        simp only [List.append]
        go_wp2_with fail
        go_ret
        exact ⟨by rw [hv.out]; first | rfl | simp, ((Ext.refl w).alloc _).alloc _⟩
      | true =>
        rw [h2] at heq2
        cases h3 : (l.commit == 0) with
        | false =>
          have hv : Hid (bareD false false false true false false false false l = false) := Lib.hid (by unfold bareD; simp [h0, h1, h2, h3])
          clear h1 h2
          go_enter Tryz.func105, Tryz.ntmps105
          go_upto_region 2 with fail
          simp only [List.append]
          go_wp2_with fail
          go_ret
          exact ⟨by rw [hv.out]; first | rfl | simp, ((Ext.refl w).alloc _).alloc _⟩
        | true =>
          cases h4 : l.yes with
          | true =>
            have hv : Hid (bareD false false false true false false false false l = false) := Lib.hid (by unfold bareD; simp [h0, h1, h2, h3, h4])
            clear h1 h2
            go_enter Tryz.func105, Tryz.ntmps105
            go_upto_region 2 with fail
            simp only [List.append]
            go_wp2_with fail
            go_ret
            exact ⟨by rw [hv.out]; first | rfl | simp, ((Ext.refl w).alloc _).alloc _⟩
          | false =>
            cases h5 : ((l.ents.length : Int) == 0) with
            | false =>
              have hv : Hid (bareD false false false true false false false false l = false) := Lib.hid (by unfold bareD; simp [h0, h1, h2, h3, h4, h5])
              clear h1 h2
              go_enter Tryz.func105, Tryz.ntmps105
              go_upto_region 2 with fail
              simp only [List.append]
              go_wp2_with fail
              go_ret
              exact ⟨by rw [hv.out]; first | rfl | simp, ((Ext.refl w).alloc _).alloc _⟩
            | true =>
              cases h6 : noneOk l with
              | false =>
                simp only [h6] at HNO
                have hv : Hid (bareD false false false true false false false false l = false) := Lib.hid (by unfold bareD; simp [h0, h1, h2, h3, h4, h5, h6])
                clear h1 h2 h6
                go_enter Tryz.func105, Tryz.ntmps105
                go_upto_region 2 with fail
                simp only [List.append]
                go_wp2_with fail
                refine (HNO.out _).mono ?_
                rintro ev w1 ⟨rfl, hE1⟩
                have r1 := cell_of_heap (hE1.blk (heap0 w _ _))
                have HE1 := Lib.hid ((((Ext.refl w).alloc _).alloc _).trans hE1)
                clear hE1
                go_wp2_with fail
                go_ret
                exact ⟨by rw [hv.out]; first | rfl | simp, HE1.out⟩
              | true =>
                simp only [h6] at HNO
                cases h7 : (l.piece == 0) with
                | false =>
                  have hv : Hid (bareD false false false true false false false false l = false) := Lib.hid (by unfold bareD; simp [h0, h1, h2, h3, h4, h5, h6, h7])
                  clear h1 h2 h6
                  go_enter Tryz.func105, Tryz.ntmps105
                  go_upto_region 2 with fail
                  simp only [List.append]
                  go_wp2_with fail
                  refine (HNO.out _).mono ?_
                  rintro ev w1 ⟨rfl, hE1⟩
                  have r1 := cell_of_heap (hE1.blk (heap0 w _ _))
                  have HE1 := Lib.hid ((((Ext.refl w).alloc _).alloc _).trans hE1)
                  clear hE1
                  go_wp2_with fail
                  go_ret
                  exact ⟨by rw [hv.out]; first | rfl | simp, HE1.out⟩
                | true =>
                  have hv : Hid (bareD false false false true false false false false l = ((l.bs.length : Int) == 0)) := Lib.hid (by unfold bareD; simp [h0, h1, h2, h3, h4, h5, h6, h7])
                  clear h1 h2 h6
                  go_enter Tryz.func105, Tryz.ntmps105
                  go_upto_region 2 with fail
                  simp only [List.append]
                  go_wp2_with fail
                  refine (HNO.out _).mono ?_
                  rintro ev w1 ⟨rfl, hE1⟩
                  have r1 := cell_of_heap (hE1.blk (heap0 w _ _))
                  have HE1 := Lib.hid ((((Ext.refl w).alloc _).alloc _).trans hE1)
                  clear hE1
                  go_wp2_with fail
                  go_ret
                  exact ⟨by rw [hv.out]; first | rfl | simp, HE1.out⟩

set_option maxRecDepth 100000 in
set_option maxHeartbeats 4000000 in
theorem bare_7b (l : Let) (w : World) : Calls Tryz.prog 105 #[l.v, .bool false, .bool true, .bool false, .bool false, .bool false, .bool false, .bool false, .bool true] w fun e w' => e = .returned (.bool (bareD false true false false false false false true l)) ∧ Ext w w' := by
  have heq1 := eqId l.last.i l.last.t l.last.k 0 0 0
  have heq2 := eqId l.prev.i l.prev.t l.prev.k 0 0 0
  have hz1 : (l.last.i == 0 && (l.last.t == 0 && l.last.k == 0)) = zeroId l.last.i l.last.t l.last.k := rfl
  have hz2 : (l.prev.i == 0 && (l.prev.t == 0 && l.prev.k == 0)) = zeroId l.prev.i l.prev.t l.prev.k := rfl
  rw [hz1] at heq1
  rw [hz2] at heq2
  clear hz1 hz2
  have HNO := Lib.hid (fun w => rnone_any l w)
  unfold Let.sagg at HNO
  have HG0 := Lib.hid (heap_alloc_new w (.cells l.arr 35))
  have hV : l.v = .agg l.arr := rfl
  rw [hV]
  clear hV
  cases h0 : (l.index == 0) with
  | false =>
    have hv : Hid (bareD false true false false false false false true l = false) := Lib.hid (by unfold bareD; simp [h0])
    go_enter Tryz.func105, Tryz.ntmps105
    go_upto_region 2 with fail
    simp only [List.append]
    go_wp2_with fail
    go_ret
    exact ⟨by rw [hv.out]; first | rfl | simp, ((Ext.refl w).alloc _).alloc _⟩
  | true =>
    cases h1 : zeroId l.prev.i l.prev.t l.prev.k with
    | false =>
      rw [h1] at heq2
      have hv : Hid (bareD false true false false false false false true l = false) := Lib.hid (by unfold bareD; simp [h0, h1])
      clear h1
      go_enter Tryz.func105, Tryz.ntmps105
      go_upto_region 2 with fail
      simp only [List.append]
      go_wp2_with fail
      go_ret
      exact ⟨by rw [hv.out]; first | rfl | simp, ((Ext.refl w).alloc _).alloc _⟩
    | true =>
      rw [h1] at heq2
      cases h2 : (l.commit == 0) with
      | false =>
        have hv : Hid (bareD false true false false false false false true l = false) := Lib.hid (by unfold bareD; simp [h0, h1, h2])
        clear h1
        go_enter Tryz.func105, Tryz.ntmps105
        go_upto_region 2 with fail
        simp only [List.append]
        go_wp2_with fail
        go_ret
        exact ⟨by rw [hv.out]; first | rfl | simp, ((Ext.refl w).alloc _).alloc _⟩
      | true =>
        cases h3 : ((l.want.length : Int) == 0) with
        | false =>
          have hv : Hid (bareD false true false false false false false true l = false) := Lib.hid (by unfold bareD; simp [h0, h1, h2, h3])
          clear h1
          go_enter Tryz.func105, Tryz.ntmps105
          go_upto_region 2 with fail
          simp only [List.append]
          go_wp2_with fail
          go_ret
          exact ⟨by rw [hv.out]; first | rfl | simp, ((Ext.refl w).alloc _).alloc _⟩
        | true =>
          cases h4 : l.yes with
          | true =>
            have hv : Hid (bareD false true false false false false false true l = false) := Lib.hid (by unfold bareD; simp [h0, h1, h2, h3, h4])
            clear h1
            go_enter Tryz.func105, Tryz.ntmps105
            go_upto_region 2 with fail
            simp only [List.append]
            go_wp2_with fail
            go_ret
            exact ⟨by rw [hv.out]; first | rfl | simp, ((Ext.refl w).alloc _).alloc _⟩
          | false =>
            cases h5 : ((l.ents.length : Int) == 0) with
            | false =>
              have hv : Hid (bareD false true false false false false false true l = false) := Lib.hid (by unfold bareD; simp [h0, h1, h2, h3, h4, h5])
              clear h1
              go_enter Tryz.func105, Tryz.ntmps105
              go_upto_region 2 with fail
              simp only [List.append]
              go_wp2_with fail
              go_ret
              exact ⟨by rw [hv.out]; first | rfl | simp, ((Ext.refl w).alloc _).alloc _⟩
            | true =>
              cases h6 : noneOk l with
              | false =>
                simp only [h6] at HNO
                have hv : Hid (bareD false true false false false false false true l = false) := Lib.hid (by unfold bareD; simp [h0, h1, h2, h3, h4, h5, h6])
                clear h1 h6
                go_enter Tryz.func105, Tryz.ntmps105
                go_upto_region 2 with fail
                simp only [List.append]
                go_wp2_with fail
                refine (HNO.out _).mono ?_
                rintro ev w1 ⟨rfl, hE1⟩
                have r1 := cell_of_heap (hE1.blk (heap0 w _ _))
                have HE1 := Lib.hid ((((Ext.refl w).alloc _).alloc _).trans hE1)
                clear hE1
                go_wp2_with fail
                go_ret
                exact ⟨by rw [hv.out]; first | rfl | simp, HE1.out⟩
              | true =>
                simp only [h6] at HNO
                have hv : Hid (bareD false true false false false false false true l = true) := Lib.hid (by unfold bareD; simp [h0, h1, h2, h3, h4, h5, h6])
                clear h1 h6
                go_enter Tryz.func105, Tryz.ntmps105
                go_upto_region 2 with fail
                simp only [List.append]
                go_wp2_with fail
                refine (HNO.out _).mono ?_
                rintro ev w1 ⟨rfl, hE1⟩
                have r1 := cell_of_heap (hE1.blk (heap0 w _ _))
                have HE1 := Lib.hid ((((Ext.refl w).alloc _).alloc _).trans hE1)
                clear hE1
                go_wp2_with fail
                go_ret
                exact ⟨by rw [hv.out]; first | rfl | simp, HE1.out⟩

set_option maxRecDepth 100000 in
set_option maxHeartbeats 4000000 in
theorem bare_8a (l : Let) (w : World) : Calls Tryz.prog 105 #[l.v, .bool false, .bool false, .bool false, .bool true, .bool false, .bool true, .bool false, .bool false] w fun e w' => e = .returned (.bool (bareD false false false true false true false false l)) ∧ Ext w w' := by
  have heq1 := eqId l.last.i l.last.t l.last.k 0 0 0
  have heq2 := eqId l.prev.i l.prev.t l.prev.k 0 0 0
  have hz1 : (l.last.i == 0 && (l.last.t == 0 && l.last.k == 0)) = zeroId l.last.i l.last.t l.last.k := rfl
  have hz2 : (l.prev.i == 0 && (l.prev.t == 0 && l.prev.k == 0)) = zeroId l.prev.i l.prev.t l.prev.k := rfl
  rw [hz1] at heq1
  rw [hz2] at heq2
  clear hz1 hz2
  have HNO := Lib.hid (fun w => rnone_any l w)
  unfold Let.sagg at HNO
  have HG0 := Lib.hid (heap_alloc_new w (.cells l.arr 35))
  have hV : l.v = .agg l.arr := rfl
  rw [hV]
  clear hV
  cases h0 : (l.index == 0) with
  | false =>
    have hv : Hid (bareD false false false true false true false false l = false) := Lib.hid (by unfold bareD; simp [h0])
    go_enter Tryz.func105, Tryz.ntmps105
    go_upto_region 2 with fail
    simp only [List.append]
    go_wp2_with fail
    go_ret
    exact ⟨by rw [hv.out]; first | rfl | simp, ((Ext.refl w).alloc _).alloc _⟩
  | true =>
    cases h1 : zeroId l.last.i l.last.t l.last.k with
    | false =>
      rw [h1] at heq1
      have hv : Hid (bareD false false false true false true false false l = false) := Lib.hid (by unfold bareD; simp [h0, h1])
      clear h1
      go_enter Tryz.func105, Tryz.ntmps105
      go_upto_region 2 with fail
      simp only [List.append]
      go_wp2_with fail
      go_ret
      exact ⟨by rw [hv.out]; first | rfl | simp, ((Ext.refl w).alloc _).alloc _⟩
    | true =>
      rw [h1] at heq1
      cases h2 : zeroId l.prev.i l.prev.t l.prev.k with
      | false =>
        rw [h2] at heq2
        have hv : Hid (bareD false false false true false true false false l = false) := Lib.hid (by unfold bareD; simp [h0, h1, h2])
        clear h1 h2
        go_enter Tryz.func105, Tryz.ntmps105
        go_upto_region 2 with fail
        simp only [List.append]
        go_wp2_with fail
        go_ret
        exact ⟨by rw [hv.out]; first | rfl | simp, ((Ext.refl w).alloc _).alloc _⟩
      | true =>
        rw [h2] at heq2
        cases h3 : (l.commit == 0) with
        | false =>
          have hv : Hid (bareD false false false true false true false false l = false) := Lib.hid (by unfold bareD; simp [h0, h1, h2, h3])
          clear h1 h2
          go_enter Tryz.func105, Tryz.ntmps105
          go_upto_region 2 with fail
          simp only [List.append]
          go_wp2_with fail
          go_ret
          exact ⟨by rw [hv.out]; first | rfl | simp, ((Ext.refl w).alloc _).alloc _⟩
        | true =>
          cases h4 : l.yes with
          | true =>
            have hv : Hid (bareD false false false true false true false false l = false) := Lib.hid (by unfold bareD; simp [h0, h1, h2, h3, h4])
            clear h1 h2
            go_enter Tryz.func105, Tryz.ntmps105
            go_upto_region 2 with fail
            simp only [List.append]
            go_wp2_with fail
            go_ret
            exact ⟨by rw [hv.out]; first | rfl | simp, ((Ext.refl w).alloc _).alloc _⟩
          | false =>
            cases h5 : noneOk l with
            | false =>
              simp only [h5] at HNO
              have hv : Hid (bareD false false false true false true false false l = false) := Lib.hid (by unfold bareD; simp [h0, h1, h2, h3, h4, h5])
              clear h1 h2 h5
              go_enter Tryz.func105, Tryz.ntmps105
              go_upto_region 2 with fail
              simp only [List.append]
              go_wp2_with fail
              refine (HNO.out _).mono ?_
              rintro ev w1 ⟨rfl, hE1⟩
              have r1 := cell_of_heap (hE1.blk (heap0 w _ _))
              have HE1 := Lib.hid ((((Ext.refl w).alloc _).alloc _).trans hE1)
              clear hE1
              go_wp2_with fail
              go_ret
              exact ⟨by rw [hv.out]; first | rfl | simp, HE1.out⟩
            | true =>
              simp only [h5] at HNO
              cases h6 : (l.piece == 0) with
              | false =>
                have hv : Hid (bareD false false false true false true false false l = false) := Lib.hid (by unfold bareD; simp [h0, h1, h2, h3, h4, h5, h6])
                clear h1 h2 h5
                go_enter Tryz.func105, Tryz.ntmps105
                go_upto_region 2 with fail
                simp only [List.append]
                go_wp2_with fail
                refine (HNO.out _).mono ?_
                rintro ev w1 ⟨rfl, hE1⟩
                have r1 := cell_of_heap (hE1.blk (heap0 w _ _))
                have HE1 := Lib.hid ((((Ext.refl w).alloc _).alloc _).trans hE1)
                clear hE1
                go_wp2_with fail
                go_ret
                exact ⟨by rw [hv.out]; first | rfl | simp, HE1.out⟩
              | true =>
                have hv : Hid (bareD false false false true false true false false l = ((l.bs.length : Int) == 0)) := Lib.hid (by unfold bareD; simp [h0, h1, h2, h3, h4, h5, h6])
                clear h1 h2 h5
                go_enter Tryz.func105, Tryz.ntmps105
                go_upto_region 2 with fail
                simp only [List.append]
                go_wp2_with fail
                refine (HNO.out _).mono ?_
                rintro ev w1 ⟨rfl, hE1⟩
                have r1 := cell_of_heap (hE1.blk (heap0 w _ _))
                have HE1 := Lib.hid ((((Ext.refl w).alloc _).alloc _).trans hE1)
                clear hE1
                go_wp2_with fail
                go_ret
                exact ⟨by rw [hv.out]; first | rfl | simp, HE1.out⟩
end Go.Proofs.YtjnllilmimngoaaGreatDoor
