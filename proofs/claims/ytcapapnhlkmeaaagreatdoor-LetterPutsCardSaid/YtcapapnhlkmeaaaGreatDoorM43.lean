/-
  The document: is a letter right (kinds 1, 2).
  The document: is a letter right (kinds 4, 5, 6).
  The document: is a letter right (kinds 7a, 7b, 8a, 8b).
  The document: is a letter right (kinds 3).
  The document: is a letter right: any letter.
-/
import Derived.Test.YtcapapnhlkmeaaaGreatDoorM42
namespace Go.Proofs.YtcapapnhlkmeaaaGreatDoor
open Go.RowKit

set_option maxRecDepth 100000 in
set_option maxHeartbeats 4000000 in
theorem rright_1 (l : Let) (w : World) (hin : l.inW w) (h0 : ok0 l = true) (hk : l.kind = 1) : Calls Tryz.prog 10 #[l.v] w fun e w' => e = .returned (.bool (rightD l)) ∧ Ext w w' := by
  have HV : Hid (rightD l = (decide (0 < l.term) && (rightI l.last.i l.last.t l.last.k && (b1 l)))) := Lib.hid (by unfold rightD; rw [h0, Bool.true_and, if_pos hk])
  have h00 := h0
  simp only [ok0, Bool.and_eq_true, bne_iff_ne, ne_eq] at h00
  obtain ⟨f1, ⟨f2, f3⟩, f4⟩ := h00
  have f3' : (l.frm == l.too) = false := by rw [beq_eq_false_iff_ne]; exact fun h => f3 h.symm
  have q1 : (l.kind == 1) = true := by rw [hk]; rfl
  have q2 : (l.kind == 2) = false := by rw [hk]; rfl
  have q3 : (l.kind == 3) = false := by rw [hk]; rfl
  have q4 : (l.kind == 4) = false := by rw [hk]; rfl
  have q5 : (l.kind == 5) = false := by rw [hk]; rfl
  have q6 : (l.kind == 6) = false := by rw [hk]; rfl
  have q7 : (l.kind == 7) = false := by rw [hk]; rfl
  have q8 : (l.kind == 8) = false := by rw [hk]; rfl
  clear h0 hk f3
  have HI := Lib.hid hin
  have HG0 := Lib.hid (heap_alloc_new w (.cells l.arr 34))
  have HE0 := Lib.hid ((Ext.refl w).alloc (.cells l.arr 34))
  have r0 := cell_of_heap HG0.out
  have hV : l.v = .agg l.arr := rfl
  rw [hV]
  clear hin hV
  cases s0 : decide (0 < l.term) with
  | false =>
    have hv : Hid (rightD l = false) := Lib.hid (by rw [HV.out, s0]; rfl)
    go_enter Tryz.func10, Tryz.ntmps10
    go_wp2_with (go_at_call 34; refine (rwithin_any _ _ _ _).mono ?_; rintro e w' ⟨rfl, rfl⟩)
    go_ret
    exact ⟨by rw [hv.out]; first | rfl | simp, HE0.out⟩
  | true =>
    cases s1 : rightI l.last.i l.last.t l.last.k with
    | false =>
      have hv : Hid (rightD l = false) := Lib.hid (by rw [HV.out, s0, s1]; rfl)
      go_enter Tryz.func10, Tryz.ntmps10
      go_wp2_with (go_at_call 34; refine (rwithin_any _ _ _ _).mono ?_; rintro e w' ⟨rfl, rfl⟩)
      refine (rident_any l.last.i l.last.t l.last.k _).mono ?_
      rintro e w1 ⟨rfl, hE1⟩
      have g1 := hE1.blk HG0.out
      clear r0
      have r1 := cell_of_heap g1
      have HG1 := Lib.hid g1
      have HE1 := Lib.hid (HE0.out.trans hE1)
      clear g1 hE1
      go_wp2_with (go_at_call 34; refine (rwithin_any _ _ _ _).mono ?_; rintro e w' ⟨rfl, rfl⟩)
      go_ret
      exact ⟨by rw [hv.out]; first | rfl | simp, HE1.out⟩
    | true =>
      have hv : Hid (rightD l = b1 l) := Lib.hid (by rw [HV.out, s0, s1]; rfl)
      go_enter Tryz.func10, Tryz.ntmps10
      go_wp2_with (go_at_call 34; refine (rwithin_any _ _ _ _).mono ?_; rintro e w' ⟨rfl, rfl⟩)
      refine (rident_any l.last.i l.last.t l.last.k _).mono ?_
      rintro e w1 ⟨rfl, hE1⟩
      have g1 := hE1.blk HG0.out
      clear r0
      have r1 := cell_of_heap g1
      have HG1 := Lib.hid g1
      have HE1 := Lib.hid (HE0.out.trans hE1)
      clear g1 hE1
      go_wp2_with (first | (go_at_call 34; refine (rwithin_any _ _ _ _).mono ?_; rintro e w' ⟨rfl, rfl⟩) | (refine wpList_load_letQ (by rfl) (.tmp 1) rfl w.heap.size l rfl HG1.out ?_))
      refine (bare_1 l _).mono ?_
      rintro e w2 ⟨rfl, hE2⟩
      rw [show bareD false true false false false false false false l = b1 l from rfl]
      have g2 := hE2.blk HG1.out
      clear r1
      have r2 := cell_of_heap g2
      have HG2 := Lib.hid g2
      have HE2 := Lib.hid (HE1.out.trans hE2)
      clear g2 hE2
      go_wp2_with (go_at_call 34; refine (rwithin_any _ _ _ _).mono ?_; rintro e w' ⟨rfl, rfl⟩)
      go_ret
      exact ⟨by rw [hv.out]; first | rfl | simp, HE2.out⟩

set_option maxRecDepth 100000 in
set_option maxHeartbeats 4000000 in
theorem rright_2 (l : Let) (w : World) (hin : l.inW w) (h0 : ok0 l = true) (hk : l.kind = 2) : Calls Tryz.prog 10 #[l.v] w fun e w' => e = .returned (.bool (rightD l)) ∧ Ext w w' := by
  have HV : Hid (rightD l = (b2 l)) := Lib.hid (by unfold rightD; rw [h0, Bool.true_and, if_neg (by omega), if_pos hk])
  have h00 := h0
  simp only [ok0, Bool.and_eq_true, bne_iff_ne, ne_eq] at h00
  obtain ⟨f1, ⟨f2, f3⟩, f4⟩ := h00
  have f3' : (l.frm == l.too) = false := by rw [beq_eq_false_iff_ne]; exact fun h => f3 h.symm
  have q1 : (l.kind == 1) = false := by rw [hk]; rfl
  have q2 : (l.kind == 2) = true := by rw [hk]; rfl
  have q3 : (l.kind == 3) = false := by rw [hk]; rfl
  have q4 : (l.kind == 4) = false := by rw [hk]; rfl
  have q5 : (l.kind == 5) = false := by rw [hk]; rfl
  have q6 : (l.kind == 6) = false := by rw [hk]; rfl
  have q7 : (l.kind == 7) = false := by rw [hk]; rfl
  have q8 : (l.kind == 8) = false := by rw [hk]; rfl
  clear h0 hk f3
  have HI := Lib.hid hin
  have HG0 := Lib.hid (heap_alloc_new w (.cells l.arr 34))
  have HE0 := Lib.hid ((Ext.refl w).alloc (.cells l.arr 34))
  have r0 := cell_of_heap HG0.out
  have hV : l.v = .agg l.arr := rfl
  rw [hV]
  clear hin hV
  have hv : Hid (rightD l = b2 l) := Lib.hid (by rw [HV.out])
  go_enter Tryz.func10, Tryz.ntmps10
  go_wp2_with (first | (go_at_call 34; refine (rwithin_any _ _ _ _).mono ?_; rintro e w' ⟨rfl, rfl⟩) | (refine wpList_load_letQ (by rfl) (.tmp 1) rfl w.heap.size l rfl HG0.out ?_))
  refine (bare_2 l _).mono ?_
  rintro e w1 ⟨rfl, hE1⟩
  rw [show bareD false false false false true false false false l = b2 l from rfl]
  have g1 := hE1.blk HG0.out
  clear r0
  have r1 := cell_of_heap g1
  have HG1 := Lib.hid g1
  have HE1 := Lib.hid (HE0.out.trans hE1)
  clear g1 hE1
  go_wp2_with (go_at_call 34; refine (rwithin_any _ _ _ _).mono ?_; rintro e w' ⟨rfl, rfl⟩)
  go_ret
  exact ⟨by rw [hv.out]; first | rfl | simp, HE1.out⟩
end Go.Proofs.YtcapapnhlkmeaaaGreatDoor
namespace Go.Proofs.YtcapapnhlkmeaaaGreatDoor
open Go.RowKit

set_option maxRecDepth 100000 in
set_option maxHeartbeats 4000000 in
theorem rright_4 (l : Let) (w : World) (hin : l.inW w) (h0 : ok0 l = true) (hk : l.kind = 4) : Calls Tryz.prog 10 #[l.v] w fun e w' => e = .returned (.bool (rightD l)) ∧ Ext w w' := by
  have HV : Hid (rightD l = (inR l.index 0 1099511627776 && (b4 l))) := Lib.hid (by unfold rightD; rw [h0, Bool.true_and, if_neg (by omega), if_neg (by omega), if_neg (by omega), if_pos hk])
  have h00 := h0
  simp only [ok0, Bool.and_eq_true, bne_iff_ne, ne_eq] at h00
  obtain ⟨f1, ⟨f2, f3⟩, f4⟩ := h00
  have f3' : (l.frm == l.too) = false := by rw [beq_eq_false_iff_ne]; exact fun h => f3 h.symm
  have q1 : (l.kind == 1) = false := by rw [hk]; rfl
  have q2 : (l.kind == 2) = false := by rw [hk]; rfl
  have q3 : (l.kind == 3) = false := by rw [hk]; rfl
  have q4 : (l.kind == 4) = true := by rw [hk]; rfl
  have q5 : (l.kind == 5) = false := by rw [hk]; rfl
  have q6 : (l.kind == 6) = false := by rw [hk]; rfl
  have q7 : (l.kind == 7) = false := by rw [hk]; rfl
  have q8 : (l.kind == 8) = false := by rw [hk]; rfl
  clear h0 hk f3
  have HI := Lib.hid hin
  have HG0 := Lib.hid (heap_alloc_new w (.cells l.arr 34))
  have HE0 := Lib.hid ((Ext.refl w).alloc (.cells l.arr 34))
  have r0 := cell_of_heap HG0.out
  have hV : l.v = .agg l.arr := rfl
  rw [hV]
  clear hin hV
  cases s0 : inR l.index 0 1099511627776 with
  | false =>
    have hv : Hid (rightD l = false) := Lib.hid (by rw [HV.out, s0]; rfl)
    go_enter Tryz.func10, Tryz.ntmps10
    go_wp2_with (go_at_call 34; refine (rwithin_any _ _ _ _).mono ?_; rintro e w' ⟨rfl, rfl⟩)
    go_ret
    exact ⟨by rw [hv.out]; first | rfl | simp, HE0.out⟩
  | true =>
    have hv : Hid (rightD l = b4 l) := Lib.hid (by rw [HV.out, s0]; rfl)
    go_enter Tryz.func10, Tryz.ntmps10
    go_wp2_with (first | (go_at_call 34; refine (rwithin_any _ _ _ _).mono ?_; rintro e w' ⟨rfl, rfl⟩) | (refine wpList_load_letQ (by rfl) (.tmp 1) rfl w.heap.size l rfl HG0.out ?_))
    refine (bare_4 l _).mono ?_
    rintro e w1 ⟨rfl, hE1⟩
    rw [show bareD true false false false true false false false l = b4 l from rfl]
    have g1 := hE1.blk HG0.out
    clear r0
    have r1 := cell_of_heap g1
    have HG1 := Lib.hid g1
    have HE1 := Lib.hid (HE0.out.trans hE1)
    clear g1 hE1
    go_wp2_with (go_at_call 34; refine (rwithin_any _ _ _ _).mono ?_; rintro e w' ⟨rfl, rfl⟩)
    go_ret
    exact ⟨by rw [hv.out]; first | rfl | simp, HE1.out⟩

set_option maxRecDepth 100000 in
set_option maxHeartbeats 4000000 in
theorem rright_5 (l : Let) (w : World) (hin : l.inW w) (h0 : ok0 l = true) (hk : l.kind = 5) : Calls Tryz.prog 10 #[l.v] w fun e w' => e = .returned (.bool (rightD l)) ∧ Ext w w' := by
  have HV : Hid (rightD l = (decide (0 < l.term) && (carriedOk l && (b5 l)))) := Lib.hid (by unfold rightD; rw [h0, Bool.true_and, if_neg (by omega), if_neg (by omega), if_neg (by omega), if_neg (by omega), if_pos hk])
  have h00 := h0
  simp only [ok0, Bool.and_eq_true, bne_iff_ne, ne_eq] at h00
  obtain ⟨f1, ⟨f2, f3⟩, f4⟩ := h00
  have f3' : (l.frm == l.too) = false := by rw [beq_eq_false_iff_ne]; exact fun h => f3 h.symm
  have q1 : (l.kind == 1) = false := by rw [hk]; rfl
  have q2 : (l.kind == 2) = false := by rw [hk]; rfl
  have q3 : (l.kind == 3) = false := by rw [hk]; rfl
  have q4 : (l.kind == 4) = false := by rw [hk]; rfl
  have q5 : (l.kind == 5) = true := by rw [hk]; rfl
  have q6 : (l.kind == 6) = false := by rw [hk]; rfl
  have q7 : (l.kind == 7) = false := by rw [hk]; rfl
  have q8 : (l.kind == 8) = false := by rw [hk]; rfl
  clear h0 hk f3
  have HI := Lib.hid hin
  have HG0 := Lib.hid (heap_alloc_new w (.cells l.arr 34))
  have HE0 := Lib.hid ((Ext.refl w).alloc (.cells l.arr 34))
  have r0 := cell_of_heap HG0.out
  have hV : l.v = .agg l.arr := rfl
  rw [hV]
  clear hin hV
  cases s0 : decide (0 < l.term) with
  | false =>
    have hv : Hid (rightD l = false) := Lib.hid (by rw [HV.out, s0]; rfl)
    go_enter Tryz.func10, Tryz.ntmps10
    go_wp2_with (go_at_call 34; refine (rwithin_any _ _ _ _).mono ?_; rintro e w' ⟨rfl, rfl⟩)
    go_ret
    exact ⟨by rw [hv.out]; first | rfl | simp, HE0.out⟩
  | true =>
    cases s1 : carriedOk l with
    | false =>
      have hv : Hid (rightD l = false) := Lib.hid (by rw [HV.out, s0, s1]; rfl)
      go_enter Tryz.func10, Tryz.ntmps10
      go_wp2_with (first | (go_at_call 34; refine (rwithin_any _ _ _ _).mono ?_; rintro e w' ⟨rfl, rfl⟩) | (refine wpList_load_letQ (by rfl) (.tmp 1) rfl w.heap.size l rfl HG0.out ?_))
      refine (rpiece_any l _ (HI.out.ext HE0.out)).mono ?_
      rintro e w1 ⟨rfl, hE1⟩
      have g1 := hE1.blk HG0.out
      clear r0
      have r1 := cell_of_heap g1
      have HG1 := Lib.hid g1
      have HE1 := Lib.hid (HE0.out.trans hE1)
      clear g1 hE1
      go_wp2_with (go_at_call 34; refine (rwithin_any _ _ _ _).mono ?_; rintro e w' ⟨rfl, rfl⟩)
      go_ret
      exact ⟨by rw [hv.out]; first | rfl | simp, HE1.out⟩
    | true =>
      have hv : Hid (rightD l = b5 l) := Lib.hid (by rw [HV.out, s0, s1]; rfl)
      go_enter Tryz.func10, Tryz.ntmps10
      go_wp2_with (first | (go_at_call 34; refine (rwithin_any _ _ _ _).mono ?_; rintro e w' ⟨rfl, rfl⟩) | (refine wpList_load_letQ (by rfl) (.tmp 1) rfl w.heap.size l rfl HG0.out ?_))
      refine (rpiece_any l _ (HI.out.ext HE0.out)).mono ?_
      rintro e w1 ⟨rfl, hE1⟩
      have g1 := hE1.blk HG0.out
      clear r0
      have r1 := cell_of_heap g1
      have HG1 := Lib.hid g1
      have HE1 := Lib.hid (HE0.out.trans hE1)
      clear g1 hE1
      go_wp2_with (first | (go_at_call 34; refine (rwithin_any _ _ _ _).mono ?_; rintro e w' ⟨rfl, rfl⟩) | (refine wpList_load_letQ (by rfl) (.tmp 1) rfl w.heap.size l rfl HG1.out ?_))
      refine (bare_5 l _).mono ?_
      rintro e w2 ⟨rfl, hE2⟩
      rw [show bareD false false false false false false true true l = b5 l from rfl]
      have g2 := hE2.blk HG1.out
      clear r1
      have r2 := cell_of_heap g2
      have HG2 := Lib.hid g2
      have HE2 := Lib.hid (HE1.out.trans hE2)
      clear g2 hE2
      go_wp2_with (go_at_call 34; refine (rwithin_any _ _ _ _).mono ?_; rintro e w' ⟨rfl, rfl⟩)
      go_ret
      exact ⟨by rw [hv.out]; first | rfl | simp, HE2.out⟩

set_option maxRecDepth 100000 in
set_option maxHeartbeats 4000000 in
theorem rright_6 (l : Let) (w : World) (hin : l.inW w) (h0 : ok0 l = true) (hk : l.kind = 6) : Calls Tryz.prog 10 #[l.v] w fun e w' => e = .returned (.bool (rightD l)) ∧ Ext w w' := by
  have HV : Hid (rightD l = (someI l.last.i l.last.t l.last.k && (inR l.piece 0 48 && (((l.bs.length : Int) == 0) && (b6 l))))) := Lib.hid (by unfold rightD; rw [h0, Bool.true_and, if_neg (by omega), if_neg (by omega), if_neg (by omega), if_neg (by omega), if_neg (by omega), if_pos hk])
  have h00 := h0
  simp only [ok0, Bool.and_eq_true, bne_iff_ne, ne_eq] at h00
  obtain ⟨f1, ⟨f2, f3⟩, f4⟩ := h00
  have f3' : (l.frm == l.too) = false := by rw [beq_eq_false_iff_ne]; exact fun h => f3 h.symm
  have q1 : (l.kind == 1) = false := by rw [hk]; rfl
  have q2 : (l.kind == 2) = false := by rw [hk]; rfl
  have q3 : (l.kind == 3) = false := by rw [hk]; rfl
  have q4 : (l.kind == 4) = false := by rw [hk]; rfl
  have q5 : (l.kind == 5) = false := by rw [hk]; rfl
  have q6 : (l.kind == 6) = true := by rw [hk]; rfl
  have q7 : (l.kind == 7) = false := by rw [hk]; rfl
  have q8 : (l.kind == 8) = false := by rw [hk]; rfl
  clear h0 hk f3
  have HI := Lib.hid hin
  have HG0 := Lib.hid (heap_alloc_new w (.cells l.arr 34))
  have HE0 := Lib.hid ((Ext.refl w).alloc (.cells l.arr 34))
  have r0 := cell_of_heap HG0.out
  have hV : l.v = .agg l.arr := rfl
  rw [hV]
  clear hin hV
  cases s0 : someI l.last.i l.last.t l.last.k with
  | false =>
    have hv : Hid (rightD l = false) := Lib.hid (by rw [HV.out, s0]; rfl)
    go_enter Tryz.func10, Tryz.ntmps10
    go_wp2_with (go_at_call 34; refine (rwithin_any _ _ _ _).mono ?_; rintro e w' ⟨rfl, rfl⟩)
    refine (rsomeones_any l.last.i l.last.t l.last.k _).mono ?_
    rintro e w1 ⟨rfl, hE1⟩
    have g1 := hE1.blk HG0.out
    clear r0
    have r1 := cell_of_heap g1
    have HG1 := Lib.hid g1
    have HE1 := Lib.hid (HE0.out.trans hE1)
    clear g1 hE1
    go_wp2_with (go_at_call 34; refine (rwithin_any _ _ _ _).mono ?_; rintro e w' ⟨rfl, rfl⟩)
    go_ret
    exact ⟨by rw [hv.out]; first | rfl | simp, HE1.out⟩
  | true =>
    cases s1 : inR l.piece 0 48 with
    | false =>
      have hv : Hid (rightD l = false) := Lib.hid (by rw [HV.out, s0, s1]; rfl)
      go_enter Tryz.func10, Tryz.ntmps10
      go_wp2_with (go_at_call 34; refine (rwithin_any _ _ _ _).mono ?_; rintro e w' ⟨rfl, rfl⟩)
      refine (rsomeones_any l.last.i l.last.t l.last.k _).mono ?_
      rintro e w1 ⟨rfl, hE1⟩
      have g1 := hE1.blk HG0.out
      clear r0
      have r1 := cell_of_heap g1
      have HG1 := Lib.hid g1
      have HE1 := Lib.hid (HE0.out.trans hE1)
      clear g1 hE1
      go_wp2_with (go_at_call 34; refine (rwithin_any _ _ _ _).mono ?_; rintro e w' ⟨rfl, rfl⟩)
      go_ret
      exact ⟨by rw [hv.out]; first | rfl | simp, HE1.out⟩
    | true =>
      cases s2 : ((l.bs.length : Int) == 0) with
      | false =>
        have hv : Hid (rightD l = false) := Lib.hid (by rw [HV.out, s0, s1, s2]; rfl)
        go_enter Tryz.func10, Tryz.ntmps10
        go_wp2_with (go_at_call 34; refine (rwithin_any _ _ _ _).mono ?_; rintro e w' ⟨rfl, rfl⟩)
        refine (rsomeones_any l.last.i l.last.t l.last.k _).mono ?_
        rintro e w1 ⟨rfl, hE1⟩
        have g1 := hE1.blk HG0.out
        clear r0
        have r1 := cell_of_heap g1
        have HG1 := Lib.hid g1
        have HE1 := Lib.hid (HE0.out.trans hE1)
        clear g1 hE1
        go_wp2_with (go_at_call 34; refine (rwithin_any _ _ _ _).mono ?_; rintro e w' ⟨rfl, rfl⟩)
        go_ret
        exact ⟨by rw [hv.out]; first | rfl | simp, HE1.out⟩
      | true =>
        have hv : Hid (rightD l = b6 l) := Lib.hid (by rw [HV.out, s0, s1, s2]; rfl)
        go_enter Tryz.func10, Tryz.ntmps10
        go_wp2_with (go_at_call 34; refine (rwithin_any _ _ _ _).mono ?_; rintro e w' ⟨rfl, rfl⟩)
        refine (rsomeones_any l.last.i l.last.t l.last.k _).mono ?_
        rintro e w1 ⟨rfl, hE1⟩
        have g1 := hE1.blk HG0.out
        clear r0
        have r1 := cell_of_heap g1
        have HG1 := Lib.hid g1
        have HE1 := Lib.hid (HE0.out.trans hE1)
        clear g1 hE1
        go_wp2_with (first | (go_at_call 34; refine (rwithin_any _ _ _ _).mono ?_; rintro e w' ⟨rfl, rfl⟩) | (refine wpList_load_letQ (by rfl) (.tmp 1) rfl w.heap.size l rfl HG1.out ?_))
        refine (bare_6 l _).mono ?_
        rintro e w2 ⟨rfl, hE2⟩
        rw [show bareD false true false false true false false true l = b6 l from rfl]
        have g2 := hE2.blk HG1.out
        clear r1
        have r2 := cell_of_heap g2
        have HG2 := Lib.hid g2
        have HE2 := Lib.hid (HE1.out.trans hE2)
        clear g2 hE2
        go_wp2_with (go_at_call 34; refine (rwithin_any _ _ _ _).mono ?_; rintro e w' ⟨rfl, rfl⟩)
        go_ret
        exact ⟨by rw [hv.out]; first | rfl | simp, HE2.out⟩
end Go.Proofs.YtcapapnhlkmeaaaGreatDoor
namespace Go.Proofs.YtcapapnhlkmeaaaGreatDoor
open Go.RowKit

set_option maxRecDepth 100000 in
set_option maxHeartbeats 4000000 in
theorem rright_7a (l : Let) (w : World) (hin : l.inW w) (h0 : ok0 l = true) (hk : l.kind = 7) (hw : 0 < l.want.length) : Calls Tryz.prog 10 #[l.v] w fun e w' => e = .returned (.bool (rightD l)) ∧ Ext w w' := by
  have HV : Hid (rightD l = (wantsOk l.want && (b7 l))) := Lib.hid (by unfold rightD; rw [h0, Bool.true_and, if_neg (by omega), if_neg (by omega), if_neg (by omega), if_neg (by omega), if_neg (by omega), if_neg (by omega), if_pos hk, if_pos hw])
  have h00 := h0
  simp only [ok0, Bool.and_eq_true, bne_iff_ne, ne_eq] at h00
  obtain ⟨f1, ⟨f2, f3⟩, f4⟩ := h00
  have f3' : (l.frm == l.too) = false := by rw [beq_eq_false_iff_ne]; exact fun h => f3 h.symm
  have q1 : (l.kind == 1) = false := by rw [hk]; rfl
  have q2 : (l.kind == 2) = false := by rw [hk]; rfl
  have q3 : (l.kind == 3) = false := by rw [hk]; rfl
  have q4 : (l.kind == 4) = false := by rw [hk]; rfl
  have q5 : (l.kind == 5) = false := by rw [hk]; rfl
  have q6 : (l.kind == 6) = false := by rw [hk]; rfl
  have q7 : (l.kind == 7) = true := by rw [hk]; rfl
  have q8 : (l.kind == 8) = false := by rw [hk]; rfl
  have hwd : decide ((0 : Int) < (l.want.length : Int)) = true := decide_eq_true (by omega)
  have hwn := hw
  clear h0 hk f3 hw
  have HI := Lib.hid hin
  have HG0 := Lib.hid (heap_alloc_new w (.cells l.arr 34))
  have HE0 := Lib.hid ((Ext.refl w).alloc (.cells l.arr 34))
  have r0 := cell_of_heap HG0.out
  have hV : l.v = .agg l.arr := rfl
  rw [hV]
  clear hin hV
  cases s0 : wantsOk l.want with
  | false =>
    have hv : Hid (rightD l = false) := Lib.hid (by rw [HV.out, s0]; rfl)
    go_enter Tryz.func10, Tryz.ntmps10
    go_wp2_with (go_at_call 34; refine (rwithin_any _ _ _ _).mono ?_; rintro e w' ⟨rfl, rfl⟩)
    refine (rwants_any l.wA l.wc l.want _ (HI.out.w1.ext HE0.out) HI.out.w2).mono ?_
    rintro e w1 ⟨rfl, hE1⟩
    have g1 := hE1.blk HG0.out
    clear r0
    have r1 := cell_of_heap g1
    have HG1 := Lib.hid g1
    have HE1 := Lib.hid (HE0.out.trans hE1)
    clear g1 hE1
    go_wp2_with (go_at_call 34; refine (rwithin_any _ _ _ _).mono ?_; rintro e w' ⟨rfl, rfl⟩)
    go_ret
    exact ⟨by rw [hv.out]; first | rfl | simp, HE1.out⟩
  | true =>
    have hv : Hid (rightD l = b7 l) := Lib.hid (by rw [HV.out, s0]; rfl)
    go_enter Tryz.func10, Tryz.ntmps10
    go_wp2_with (go_at_call 34; refine (rwithin_any _ _ _ _).mono ?_; rintro e w' ⟨rfl, rfl⟩)
    refine (rwants_any l.wA l.wc l.want _ (HI.out.w1.ext HE0.out) HI.out.w2).mono ?_
    rintro e w1 ⟨rfl, hE1⟩
    have g1 := hE1.blk HG0.out
    clear r0
    have r1 := cell_of_heap g1
    have HG1 := Lib.hid g1
    have HE1 := Lib.hid (HE0.out.trans hE1)
    clear g1 hE1
    go_wp2_with (first | (go_at_call 34; refine (rwithin_any _ _ _ _).mono ?_; rintro e w' ⟨rfl, rfl⟩) | (refine wpList_load_letQ (by rfl) (.tmp 1) rfl w.heap.size l rfl HG1.out ?_))
    refine (bare_7a l _).mono ?_
    rintro e w2 ⟨rfl, hE2⟩
    rw [show bareD false false false true false false false false l = b7 l from rfl]
    have g2 := hE2.blk HG1.out
    clear r1
    have r2 := cell_of_heap g2
    have HG2 := Lib.hid g2
    have HE2 := Lib.hid (HE1.out.trans hE2)
    clear g2 hE2
    go_wp2_with (go_at_call 34; refine (rwithin_any _ _ _ _).mono ?_; rintro e w' ⟨rfl, rfl⟩)
    go_ret
    exact ⟨by rw [hv.out]; first | rfl | simp, HE2.out⟩

set_option maxRecDepth 100000 in
set_option maxHeartbeats 4000000 in
theorem rright_7b (l : Let) (w : World) (hin : l.inW w) (h0 : ok0 l = true) (hk : l.kind = 7) (hw : ¬ 0 < l.want.length) : Calls Tryz.prog 10 #[l.v] w fun e w' => e = .returned (.bool (rightD l)) ∧ Ext w w' := by
  have HV : Hid (rightD l = (someI l.last.i l.last.t l.last.k && (inR l.piece 0 47 && (((l.bs.length : Int) == 0) && (c7 l))))) := Lib.hid (by unfold rightD; rw [h0, Bool.true_and, if_neg (by omega), if_neg (by omega), if_neg (by omega), if_neg (by omega), if_neg (by omega), if_neg (by omega), if_pos hk, if_neg hw])
  have h00 := h0
  simp only [ok0, Bool.and_eq_true, bne_iff_ne, ne_eq] at h00
  obtain ⟨f1, ⟨f2, f3⟩, f4⟩ := h00
  have f3' : (l.frm == l.too) = false := by rw [beq_eq_false_iff_ne]; exact fun h => f3 h.symm
  have q1 : (l.kind == 1) = false := by rw [hk]; rfl
  have q2 : (l.kind == 2) = false := by rw [hk]; rfl
  have q3 : (l.kind == 3) = false := by rw [hk]; rfl
  have q4 : (l.kind == 4) = false := by rw [hk]; rfl
  have q5 : (l.kind == 5) = false := by rw [hk]; rfl
  have q6 : (l.kind == 6) = false := by rw [hk]; rfl
  have q7 : (l.kind == 7) = true := by rw [hk]; rfl
  have q8 : (l.kind == 8) = false := by rw [hk]; rfl
  have hwd : decide ((0 : Int) < (l.want.length : Int)) = false := decide_eq_false (by omega)
  have hwn := hw
  clear h0 hk f3 hw
  have HI := Lib.hid hin
  have HG0 := Lib.hid (heap_alloc_new w (.cells l.arr 34))
  have HE0 := Lib.hid ((Ext.refl w).alloc (.cells l.arr 34))
  have r0 := cell_of_heap HG0.out
  have hV : l.v = .agg l.arr := rfl
  rw [hV]
  clear hin hV
  cases s0 : someI l.last.i l.last.t l.last.k with
  | false =>
    have hv : Hid (rightD l = false) := Lib.hid (by rw [HV.out, s0]; rfl)
    go_enter Tryz.func10, Tryz.ntmps10
    go_wp2_with (go_at_call 34; refine (rwithin_any _ _ _ _).mono ?_; rintro e w' ⟨rfl, rfl⟩)
    refine (rsomeones_any l.last.i l.last.t l.last.k _).mono ?_
    rintro e w1 ⟨rfl, hE1⟩
    have g1 := hE1.blk HG0.out
    clear r0
    have r1 := cell_of_heap g1
    have HG1 := Lib.hid g1
    have HE1 := Lib.hid (HE0.out.trans hE1)
    clear g1 hE1
    go_wp2_with (go_at_call 34; refine (rwithin_any _ _ _ _).mono ?_; rintro e w' ⟨rfl, rfl⟩)
    go_ret
    exact ⟨by rw [hv.out]; first | rfl | simp, HE1.out⟩
  | true =>
    cases s1 : inR l.piece 0 47 with
    | false =>
      have hv : Hid (rightD l = false) := Lib.hid (by rw [HV.out, s0, s1]; rfl)
      go_enter Tryz.func10, Tryz.ntmps10
      go_wp2_with (go_at_call 34; refine (rwithin_any _ _ _ _).mono ?_; rintro e w' ⟨rfl, rfl⟩)
      refine (rsomeones_any l.last.i l.last.t l.last.k _).mono ?_
      rintro e w1 ⟨rfl, hE1⟩
      have g1 := hE1.blk HG0.out
      clear r0
      have r1 := cell_of_heap g1
      have HG1 := Lib.hid g1
      have HE1 := Lib.hid (HE0.out.trans hE1)
      clear g1 hE1
      go_wp2_with (go_at_call 34; refine (rwithin_any _ _ _ _).mono ?_; rintro e w' ⟨rfl, rfl⟩)
      go_ret
      exact ⟨by rw [hv.out]; first | rfl | simp, HE1.out⟩
    | true =>
      cases s2 : ((l.bs.length : Int) == 0) with
      | false =>
        have hv : Hid (rightD l = false) := Lib.hid (by rw [HV.out, s0, s1, s2]; rfl)
        go_enter Tryz.func10, Tryz.ntmps10
        go_wp2_with (go_at_call 34; refine (rwithin_any _ _ _ _).mono ?_; rintro e w' ⟨rfl, rfl⟩)
        refine (rsomeones_any l.last.i l.last.t l.last.k _).mono ?_
        rintro e w1 ⟨rfl, hE1⟩
        have g1 := hE1.blk HG0.out
        clear r0
        have r1 := cell_of_heap g1
        have HG1 := Lib.hid g1
        have HE1 := Lib.hid (HE0.out.trans hE1)
        clear g1 hE1
        go_wp2_with (go_at_call 34; refine (rwithin_any _ _ _ _).mono ?_; rintro e w' ⟨rfl, rfl⟩)
        go_ret
        exact ⟨by rw [hv.out]; first | rfl | simp, HE1.out⟩
      | true =>
        have hv : Hid (rightD l = c7 l) := Lib.hid (by rw [HV.out, s0, s1, s2]; rfl)
        go_enter Tryz.func10, Tryz.ntmps10
        go_wp2_with (go_at_call 34; refine (rwithin_any _ _ _ _).mono ?_; rintro e w' ⟨rfl, rfl⟩)
        refine (rsomeones_any l.last.i l.last.t l.last.k _).mono ?_
        rintro e w1 ⟨rfl, hE1⟩
        have g1 := hE1.blk HG0.out
        clear r0
        have r1 := cell_of_heap g1
        have HG1 := Lib.hid g1
        have HE1 := Lib.hid (HE0.out.trans hE1)
        clear g1 hE1
        go_wp2_with (first | (go_at_call 34; refine (rwithin_any _ _ _ _).mono ?_; rintro e w' ⟨rfl, rfl⟩) | (refine wpList_load_letQ (by rfl) (.tmp 1) rfl w.heap.size l rfl HG1.out ?_))
        refine (bare_7b l _).mono ?_
        rintro e w2 ⟨rfl, hE2⟩
        rw [show bareD false true false false false false false true l = c7 l from rfl]
        have g2 := hE2.blk HG1.out
        clear r1
        have r2 := cell_of_heap g2
        have HG2 := Lib.hid g2
        have HE2 := Lib.hid (HE1.out.trans hE2)
        clear g2 hE2
        go_wp2_with (go_at_call 34; refine (rwithin_any _ _ _ _).mono ?_; rintro e w' ⟨rfl, rfl⟩)
        go_ret
        exact ⟨by rw [hv.out]; first | rfl | simp, HE2.out⟩

set_option maxRecDepth 100000 in
set_option maxHeartbeats 4000000 in
theorem rright_8a (l : Let) (w : World) (hin : l.inW w) (h0 : ok0 l = true) (hk : l.kind = 8) (hw : 0 < l.ents.length) : Calls Tryz.prog 10 #[l.v] w fun e w' => e = .returned (.bool (rightD l)) ∧ Ext w w' := by
  have HV : Hid (rightD l = (goodsOk l.ents && (aheadsOk l.ents l.want && (b8 l)))) := Lib.hid (by unfold rightD; rw [h0, Bool.true_and, if_neg (by omega), if_neg (by omega), if_neg (by omega), if_neg (by omega), if_neg (by omega), if_neg (by omega), if_neg (by omega), if_pos hk, if_pos hw])
  have h00 := h0
  simp only [ok0, Bool.and_eq_true, bne_iff_ne, ne_eq] at h00
  obtain ⟨f1, ⟨f2, f3⟩, f4⟩ := h00
  have f3' : (l.frm == l.too) = false := by rw [beq_eq_false_iff_ne]; exact fun h => f3 h.symm
  have q1 : (l.kind == 1) = false := by rw [hk]; rfl
  have q2 : (l.kind == 2) = false := by rw [hk]; rfl
  have q3 : (l.kind == 3) = false := by rw [hk]; rfl
  have q4 : (l.kind == 4) = false := by rw [hk]; rfl
  have q5 : (l.kind == 5) = false := by rw [hk]; rfl
  have q6 : (l.kind == 6) = false := by rw [hk]; rfl
  have q7 : (l.kind == 7) = false := by rw [hk]; rfl
  have q8 : (l.kind == 8) = true := by rw [hk]; rfl
  have hwd : decide ((0 : Int) < (l.ents.length : Int)) = true := decide_eq_true (by omega)
  have hwn := hw
  clear h0 hk f3 hw
  have HI := Lib.hid hin
  have HG0 := Lib.hid (heap_alloc_new w (.cells l.arr 34))
  have HE0 := Lib.hid ((Ext.refl w).alloc (.cells l.arr 34))
  have r0 := cell_of_heap HG0.out
  have hV : l.v = .agg l.arr := rfl
  rw [hV]
  clear hin hV
  cases s0 : goodsOk l.ents with
  | false =>
    have hv : Hid (rightD l = false) := Lib.hid (by rw [HV.out, s0]; rfl)
    go_enter Tryz.func10, Tryz.ntmps10
    go_wp2_with (go_at_call 34; refine (rwithin_any _ _ _ _).mono ?_; rintro e w' ⟨rfl, rfl⟩)
    refine (rgoods_any l.eA l.ec l.ents _ (HI.out.e1.ext HE0.out) (by have := HI.out.e2; unfold maxLen; omega)).mono ?_
    rintro e w1 ⟨rfl, hE1⟩
    have g1 := hE1.blk HG0.out
    clear r0
    have r1 := cell_of_heap g1
    have HG1 := Lib.hid g1
    have HE1 := Lib.hid (HE0.out.trans hE1)
    clear g1 hE1
    go_wp2_with (go_at_call 34; refine (rwithin_any _ _ _ _).mono ?_; rintro e w' ⟨rfl, rfl⟩)
    go_ret
    exact ⟨by rw [hv.out]; first | rfl | simp, HE1.out⟩
  | true =>
    cases s1 : aheadsOk l.ents l.want with
    | false =>
      have hv : Hid (rightD l = false) := Lib.hid (by rw [HV.out, s0, s1]; rfl)
      go_enter Tryz.func10, Tryz.ntmps10
      go_wp2_with (go_at_call 34; refine (rwithin_any _ _ _ _).mono ?_; rintro e w' ⟨rfl, rfl⟩)
      refine (rgoods_any l.eA l.ec l.ents _ (HI.out.e1.ext HE0.out) (by have := HI.out.e2; unfold maxLen; omega)).mono ?_
      rintro e w1 ⟨rfl, hE1⟩
      have g1 := hE1.blk HG0.out
      clear r0
      have r1 := cell_of_heap g1
      have HG1 := Lib.hid g1
      have HE1 := Lib.hid (HE0.out.trans hE1)
      clear g1 hE1
      go_wp2_with (go_at_call 34; refine (rwithin_any _ _ _ _).mono ?_; rintro e w' ⟨rfl, rfl⟩)
      refine (raheads_any l.eA l.ec l.ents l.wA l.wc l.want _ (HI.out.e1.ext HE1.out) (HI.out.w1.ext HE1.out) HI.out.e2 HI.out.w2).mono ?_
      rintro e w2 ⟨rfl, hE2⟩
      have g2 := hE2.blk HG1.out
      clear r1
      have r2 := cell_of_heap g2
      have HG2 := Lib.hid g2
      have HE2 := Lib.hid (HE1.out.trans hE2)
      clear g2 hE2
      go_wp2_with (go_at_call 34; refine (rwithin_any _ _ _ _).mono ?_; rintro e w' ⟨rfl, rfl⟩)
      go_ret
      exact ⟨by rw [hv.out]; first | rfl | simp, HE2.out⟩
    | true =>
      have hv : Hid (rightD l = b8 l) := Lib.hid (by rw [HV.out, s0, s1]; rfl)
      go_enter Tryz.func10, Tryz.ntmps10
      go_wp2_with (go_at_call 34; refine (rwithin_any _ _ _ _).mono ?_; rintro e w' ⟨rfl, rfl⟩)
      refine (rgoods_any l.eA l.ec l.ents _ (HI.out.e1.ext HE0.out) (by have := HI.out.e2; unfold maxLen; omega)).mono ?_
      rintro e w1 ⟨rfl, hE1⟩
      have g1 := hE1.blk HG0.out
      clear r0
      have r1 := cell_of_heap g1
      have HG1 := Lib.hid g1
      have HE1 := Lib.hid (HE0.out.trans hE1)
      clear g1 hE1
      go_wp2_with (go_at_call 34; refine (rwithin_any _ _ _ _).mono ?_; rintro e w' ⟨rfl, rfl⟩)
      refine (raheads_any l.eA l.ec l.ents l.wA l.wc l.want _ (HI.out.e1.ext HE1.out) (HI.out.w1.ext HE1.out) HI.out.e2 HI.out.w2).mono ?_
      rintro e w2 ⟨rfl, hE2⟩
      have g2 := hE2.blk HG1.out
      clear r1
      have r2 := cell_of_heap g2
      have HG2 := Lib.hid g2
      have HE2 := Lib.hid (HE1.out.trans hE2)
      clear g2 hE2
      go_wp2_with (first | (go_at_call 34; refine (rwithin_any _ _ _ _).mono ?_; rintro e w' ⟨rfl, rfl⟩) | (refine wpList_load_letQ (by rfl) (.tmp 1) rfl w.heap.size l rfl HG2.out ?_))
      refine (bare_8a l _).mono ?_
      rintro e w3 ⟨rfl, hE3⟩
      rw [show bareD false false false true false true false false l = b8 l from rfl]
      have g3 := hE3.blk HG2.out
      clear r2
      have r3 := cell_of_heap g3
      have HG3 := Lib.hid g3
      have HE3 := Lib.hid (HE2.out.trans hE3)
      clear g3 hE3
      go_wp2_with (go_at_call 34; refine (rwithin_any _ _ _ _).mono ?_; rintro e w' ⟨rfl, rfl⟩)
      go_ret
      exact ⟨by rw [hv.out]; first | rfl | simp, HE3.out⟩

set_option maxRecDepth 100000 in
set_option maxHeartbeats 4000000 in
theorem rright_8b (l : Let) (w : World) (hin : l.inW w) (h0 : ok0 l = true) (hk : l.kind = 8) (hw : ¬ 0 < l.ents.length) : Calls Tryz.prog 10 #[l.v] w fun e w' => e = .returned (.bool (rightD l)) ∧ Ext w w' := by
  have HV : Hid (rightD l = (carriedOk l && (b5 l))) := Lib.hid (by unfold rightD; rw [h0, Bool.true_and, if_neg (by omega), if_neg (by omega), if_neg (by omega), if_neg (by omega), if_neg (by omega), if_neg (by omega), if_neg (by omega), if_pos hk, if_neg hw])
  have h00 := h0
  simp only [ok0, Bool.and_eq_true, bne_iff_ne, ne_eq] at h00
  obtain ⟨f1, ⟨f2, f3⟩, f4⟩ := h00
  have f3' : (l.frm == l.too) = false := by rw [beq_eq_false_iff_ne]; exact fun h => f3 h.symm
  have q1 : (l.kind == 1) = false := by rw [hk]; rfl
  have q2 : (l.kind == 2) = false := by rw [hk]; rfl
  have q3 : (l.kind == 3) = false := by rw [hk]; rfl
  have q4 : (l.kind == 4) = false := by rw [hk]; rfl
  have q5 : (l.kind == 5) = false := by rw [hk]; rfl
  have q6 : (l.kind == 6) = false := by rw [hk]; rfl
  have q7 : (l.kind == 7) = false := by rw [hk]; rfl
  have q8 : (l.kind == 8) = true := by rw [hk]; rfl
  have hwd : decide ((0 : Int) < (l.ents.length : Int)) = false := decide_eq_false (by omega)
  have hwn := hw
  clear h0 hk f3 hw
  have HI := Lib.hid hin
  have HG0 := Lib.hid (heap_alloc_new w (.cells l.arr 34))
  have HE0 := Lib.hid ((Ext.refl w).alloc (.cells l.arr 34))
  have r0 := cell_of_heap HG0.out
  have hV : l.v = .agg l.arr := rfl
  rw [hV]
  clear hin hV
  cases s0 : carriedOk l with
  | false =>
    have hv : Hid (rightD l = false) := Lib.hid (by rw [HV.out, s0]; rfl)
    go_enter Tryz.func10, Tryz.ntmps10
    go_wp2_with (first | (go_at_call 34; refine (rwithin_any _ _ _ _).mono ?_; rintro e w' ⟨rfl, rfl⟩) | (refine wpList_load_letQ (by rfl) (.tmp 1) rfl w.heap.size l rfl HG0.out ?_))
    refine (rpiece_any l _ (HI.out.ext HE0.out)).mono ?_
    rintro e w1 ⟨rfl, hE1⟩
    have g1 := hE1.blk HG0.out
    clear r0
    have r1 := cell_of_heap g1
    have HG1 := Lib.hid g1
    have HE1 := Lib.hid (HE0.out.trans hE1)
    clear g1 hE1
    go_wp2_with (go_at_call 34; refine (rwithin_any _ _ _ _).mono ?_; rintro e w' ⟨rfl, rfl⟩)
    go_ret
    exact ⟨by rw [hv.out]; first | rfl | simp, HE1.out⟩
  | true =>
    have hv : Hid (rightD l = b5 l) := Lib.hid (by rw [HV.out, s0]; rfl)
    go_enter Tryz.func10, Tryz.ntmps10
    go_wp2_with (first | (go_at_call 34; refine (rwithin_any _ _ _ _).mono ?_; rintro e w' ⟨rfl, rfl⟩) | (refine wpList_load_letQ (by rfl) (.tmp 1) rfl w.heap.size l rfl HG0.out ?_))
    refine (rpiece_any l _ (HI.out.ext HE0.out)).mono ?_
    rintro e w1 ⟨rfl, hE1⟩
    have g1 := hE1.blk HG0.out
    clear r0
    have r1 := cell_of_heap g1
    have HG1 := Lib.hid g1
    have HE1 := Lib.hid (HE0.out.trans hE1)
    clear g1 hE1
    go_wp2_with (first | (go_at_call 34; refine (rwithin_any _ _ _ _).mono ?_; rintro e w' ⟨rfl, rfl⟩) | (refine wpList_load_letQ (by rfl) (.tmp 1) rfl w.heap.size l rfl HG1.out ?_))
    refine (bare_5 l _).mono ?_
    rintro e w2 ⟨rfl, hE2⟩
    rw [show bareD false false false false false false true true l = b5 l from rfl]
    have g2 := hE2.blk HG1.out
    clear r1
    have r2 := cell_of_heap g2
    have HG2 := Lib.hid g2
    have HE2 := Lib.hid (HE1.out.trans hE2)
    clear g2 hE2
    go_wp2_with (go_at_call 34; refine (rwithin_any _ _ _ _).mono ?_; rintro e w' ⟨rfl, rfl⟩)
    go_ret
    exact ⟨by rw [hv.out]; first | rfl | simp, HE2.out⟩
end Go.Proofs.YtcapapnhlkmeaaaGreatDoor
namespace Go.Proofs.YtcapapnhlkmeaaaGreatDoor
open Go.RowKit

set_option maxRecDepth 100000 in
set_option maxHeartbeats 4000000 in
theorem rright_3 (l : Let) (w : World) (hin : l.inW w) (h0 : ok0 l = true) (hk : l.kind = 3) : Calls Tryz.prog 10 #[l.v] w fun e w' => e = .returned (.bool (rightD l)) ∧ Ext w w' := by
  have HV : Hid (rightD l = (decide (0 < l.term) && (rightI l.prev.i l.prev.t l.prev.k && (inR l.commit 0 1099511627776 && (rowOk l && (b3 l)))))) := Lib.hid (by unfold rightD; rw [h0, Bool.true_and, if_neg (by omega), if_neg (by omega), if_pos hk])
  have h00 := h0
  simp only [ok0, Bool.and_eq_true, bne_iff_ne, ne_eq] at h00
  obtain ⟨f1, ⟨f2, f3⟩, f4⟩ := h00
  have f3' : (l.frm == l.too) = false := by rw [beq_eq_false_iff_ne]; exact fun h => f3 h.symm
  have q1 : (l.kind == 1) = false := by rw [hk]; rfl
  have q2 : (l.kind == 2) = false := by rw [hk]; rfl
  have q3 : (l.kind == 3) = true := by rw [hk]; rfl
  have q4 : (l.kind == 4) = false := by rw [hk]; rfl
  have q5 : (l.kind == 5) = false := by rw [hk]; rfl
  have q6 : (l.kind == 6) = false := by rw [hk]; rfl
  have q7 : (l.kind == 7) = false := by rw [hk]; rfl
  have q8 : (l.kind == 8) = false := by rw [hk]; rfl
  clear h0 hk f3
  have HI := Lib.hid hin
  have HG0 := Lib.hid (heap_alloc_new w (.cells l.arr 34))
  have HE0 := Lib.hid ((Ext.refl w).alloc (.cells l.arr 34))
  have r0 := cell_of_heap HG0.out
  have hV : l.v = .agg l.arr := rfl
  rw [hV]
  clear hin hV
  cases s0 : decide (0 < l.term) with
  | false =>
    have hv : Hid (rightD l = false) := Lib.hid (by rw [HV.out, s0]; rfl)
    go_enter Tryz.func10, Tryz.ntmps10
    go_wp2_with (go_at_call 34; refine (rwithin_any _ _ _ _).mono ?_; rintro e w' ⟨rfl, rfl⟩)
    go_ret
    exact ⟨by rw [hv.out]; first | rfl | simp, HE0.out⟩
  | true =>
    cases s1 : rightI l.prev.i l.prev.t l.prev.k with
    | false =>
      have hv : Hid (rightD l = false) := Lib.hid (by rw [HV.out, s0, s1]; rfl)
      go_enter Tryz.func10, Tryz.ntmps10
      go_wp2_with (go_at_call 34; refine (rwithin_any _ _ _ _).mono ?_; rintro e w' ⟨rfl, rfl⟩)
      refine (rident_any l.prev.i l.prev.t l.prev.k _).mono ?_
      rintro e w1 ⟨rfl, hE1⟩
      have g1 := hE1.blk HG0.out
      clear r0
      have r1 := cell_of_heap g1
      have HG1 := Lib.hid g1
      have HE1 := Lib.hid (HE0.out.trans hE1)
      clear g1 hE1
      go_wp2_with (go_at_call 34; refine (rwithin_any _ _ _ _).mono ?_; rintro e w' ⟨rfl, rfl⟩)
      go_ret
      exact ⟨by rw [hv.out]; first | rfl | simp, HE1.out⟩
    | true =>
      cases s2 : inR l.commit 0 1099511627776 with
      | false =>
        have hv : Hid (rightD l = false) := Lib.hid (by rw [HV.out, s0, s1, s2]; rfl)
        go_enter Tryz.func10, Tryz.ntmps10
        go_wp2_with (go_at_call 34; refine (rwithin_any _ _ _ _).mono ?_; rintro e w' ⟨rfl, rfl⟩)
        refine (rident_any l.prev.i l.prev.t l.prev.k _).mono ?_
        rintro e w1 ⟨rfl, hE1⟩
        have g1 := hE1.blk HG0.out
        clear r0
        have r1 := cell_of_heap g1
        have HG1 := Lib.hid g1
        have HE1 := Lib.hid (HE0.out.trans hE1)
        clear g1 hE1
        go_wp2_with (go_at_call 34; refine (rwithin_any _ _ _ _).mono ?_; rintro e w' ⟨rfl, rfl⟩)
        go_ret
        exact ⟨by rw [hv.out]; first | rfl | simp, HE1.out⟩
      | true =>
        cases s3 : rowOk l with
        | false =>
          have hv : Hid (rightD l = false) := Lib.hid (by rw [HV.out, s0, s1, s2, s3]; rfl)
          go_enter Tryz.func10, Tryz.ntmps10
          go_wp2_with (go_at_call 34; refine (rwithin_any _ _ _ _).mono ?_; rintro e w' ⟨rfl, rfl⟩)
          refine (rident_any l.prev.i l.prev.t l.prev.k _).mono ?_
          rintro e w1 ⟨rfl, hE1⟩
          have g1 := hE1.blk HG0.out
          clear r0
          have r1 := cell_of_heap g1
          have HG1 := Lib.hid g1
          have HE1 := Lib.hid (HE0.out.trans hE1)
          clear g1 hE1
          go_wp2_with (go_at_call 34; refine (rwithin_any _ _ _ _).mono ?_; rintro e w' ⟨rfl, rfl⟩)
          refine (rsent_any l _ (HI.out.ext HE1.out)).mono ?_
          rintro e w2 ⟨rfl, hE2⟩
          have g2 := hE2.blk HG1.out
          clear r1
          have r2 := cell_of_heap g2
          have HG2 := Lib.hid g2
          have HE2 := Lib.hid (HE1.out.trans hE2)
          clear g2 hE2
          go_wp2_with (go_at_call 34; refine (rwithin_any _ _ _ _).mono ?_; rintro e w' ⟨rfl, rfl⟩)
          go_ret
          exact ⟨by rw [hv.out]; first | rfl | simp, HE2.out⟩
        | true =>
          have hv : Hid (rightD l = b3 l) := Lib.hid (by rw [HV.out, s0, s1, s2, s3]; rfl)
          go_enter Tryz.func10, Tryz.ntmps10
          go_wp2_with (go_at_call 34; refine (rwithin_any _ _ _ _).mono ?_; rintro e w' ⟨rfl, rfl⟩)
          refine (rident_any l.prev.i l.prev.t l.prev.k _).mono ?_
          rintro e w1 ⟨rfl, hE1⟩
          have g1 := hE1.blk HG0.out
          clear r0
          have r1 := cell_of_heap g1
          have HG1 := Lib.hid g1
          have HE1 := Lib.hid (HE0.out.trans hE1)
          clear g1 hE1
          go_wp2_with (go_at_call 34; refine (rwithin_any _ _ _ _).mono ?_; rintro e w' ⟨rfl, rfl⟩)
          refine (rsent_any l _ (HI.out.ext HE1.out)).mono ?_
          rintro e w2 ⟨rfl, hE2⟩
          have g2 := hE2.blk HG1.out
          clear r1
          have r2 := cell_of_heap g2
          have HG2 := Lib.hid g2
          have HE2 := Lib.hid (HE1.out.trans hE2)
          clear g2 hE2
          go_wp2_with (first | (go_at_call 34; refine (rwithin_any _ _ _ _).mono ?_; rintro e w' ⟨rfl, rfl⟩) | (refine wpList_load_letQ (by rfl) (.tmp 1) rfl w.heap.size l rfl HG2.out ?_))
          refine (bare_3 l _).mono ?_
          rintro e w3 ⟨rfl, hE3⟩
          rw [show bareD false false true false false true false false l = b3 l from rfl]
          have g3 := hE3.blk HG2.out
          clear r2
          have r3 := cell_of_heap g3
          have HG3 := Lib.hid g3
          have HE3 := Lib.hid (HE2.out.trans hE3)
          clear g3 hE3
          go_wp2_with (go_at_call 34; refine (rwithin_any _ _ _ _).mono ?_; rintro e w' ⟨rfl, rfl⟩)
          go_ret
          exact ⟨by rw [hv.out]; first | rfl | simp, HE3.out⟩
end Go.Proofs.YtcapapnhlkmeaaaGreatDoor
namespace Go.Proofs.YtcapapnhlkmeaaaGreatDoor
open Go.RowKit

theorem rright_any2 (l : Let) (w : World) (hin : l.inW w) : Calls Tryz.prog 10 #[l.v] w fun e w' => e = .returned (.bool (rightD l)) ∧ Ext w w' := by
  cases h0 : ok0 l with
  | false => exact rright_no l w hin h0
  | true =>
    by_cases h1 : l.kind = 1
    · exact rright_1 l w hin h0 h1
    by_cases h2 : l.kind = 2
    · exact rright_2 l w hin h0 h2
    by_cases h3 : l.kind = 3
    · exact rright_3 l w hin h0 h3
    by_cases h4 : l.kind = 4
    · exact rright_4 l w hin h0 h4
    by_cases h5 : l.kind = 5
    · exact rright_5 l w hin h0 h5
    by_cases h6 : l.kind = 6
    · exact rright_6 l w hin h0 h6
    by_cases h7 : l.kind = 7
    · by_cases hw : 0 < l.want.length
      · exact rright_7a l w hin h0 h7 hw
      · exact rright_7b l w hin h0 h7 hw
    by_cases h8 : l.kind = 8
    · by_cases hw : 0 < l.ents.length
      · exact rright_8a l w hin h0 h8 hw
      · exact rright_8b l w hin h0 h8 hw
    exact rright_x l w hin h0 (by omega)
end Go.Proofs.YtcapapnhlkmeaaaGreatDoor
