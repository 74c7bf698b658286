/-
  The document: is a letter right (kinds 7a, 7b, 8a, 8b).
  The document: is a letter right (kinds 3).
  The document: is a letter right: any letter.
  A letter is right by the program just where it is by the document.
-/
import Derived.Test.YtjnllilmimngoaaGreatDoorM26
import Derived.Test.YtjnllilmimngoaaGreatDoorM12
namespace Go.Proofs.YtjnllilmimngoaaGreatDoor
open Go.RowKit

set_option maxRecDepth 100000 in
set_option maxHeartbeats 4000000 in
theorem rright_7a (l : Let) (w : World) (hin : l.inW w) (h0 : ok0 l = true) (hk : l.kind = 7) (hw : 0 < l.want.length) : Calls Tryz.prog 65 #[l.v] w fun e w' => e = .returned (.bool (rightD l)) ∧ Ext w w' := by
  have HV : Hid (rightD l = (wantsOk l.want && (b7 l))) := Lib.hid (by unfold rightD; rw [h0, Bool.true_and, if_neg (by omega), if_neg (by omega), if_neg (by omega), if_neg (by omega), if_neg (by omega), if_neg (by omega), if_pos hk, if_pos hw])
  have h00 := h0
  simp only [ok0, Bool.and_eq_true, bne_iff_ne, ne_eq] at h00
  obtain ⟨f1, ⟨f2, f3⟩, f4⟩ := h00
  have f3' : (l.frm == l.too) = false := by rw [beq_eq_false_iff_ne]; exact fun h => f3 h.symm
  have q1 : (l.kind == 1) = false := by rw [hk]; rfl
  have q2 : (l.kind == 2) = false := by rw [hk]; rfl
  have q3 : (l.kind == 3) = false := by rw [hk]; rfl
  have q4 : (l.kind == 4) = false := by rw [hk]; rfl
  have q5 : (l.kind == 5) = false := by rw [hk]; rfl
  have q6 : (l.kind == 6) = false := by rw [hk]; rfl
  have q7 : (l.kind == 7) = true := by rw [hk]; rfl
  have q8 : (l.kind == 8) = false := by rw [hk]; rfl
  have hwd : decide ((0 : Int) < (l.want.length : Int)) = true := decide_eq_true (by omega)
  have hwn := hw
  clear h0 hk f3 hw
  have HI := Lib.hid hin
  have HG0 := Lib.hid (heap_alloc_new w (.cells l.arr 35))
  have HE0 := Lib.hid ((Ext.refl w).alloc (.cells l.arr 35))
  have r0 := cell_of_heap HG0.out
  have hV : l.v = .agg l.arr := rfl
  rw [hV]
  clear hin hV
  cases s0 : wantsOk l.want with
  | false =>
    have hv : Hid (rightD l = false) := Lib.hid (by rw [HV.out, s0]; rfl)
    go_enter Tryz.func65, Tryz.ntmps65
    go_wp2_with (go_at_call 103; refine (rwithin_any _ _ _ _).mono ?_; rintro e w' ⟨rfl, rfl⟩)
    refine (rwants_any l.wA l.wc l.want _ (HI.out.w1.ext HE0.out) HI.out.w2).mono ?_
    rintro e w1 ⟨rfl, hE1⟩
    have g1 := hE1.blk HG0.out
    clear r0
    have r1 := cell_of_heap g1
    have HG1 := Lib.hid g1
    have HE1 := Lib.hid (HE0.out.trans hE1)
    clear g1 hE1
    go_wp2_with (go_at_call 103; refine (rwithin_any _ _ _ _).mono ?_; rintro e w' ⟨rfl, rfl⟩)
    go_ret
    exact ⟨by rw [hv.out]; first | rfl | simp, HE1.out⟩
  | true =>
    have hv : Hid (rightD l = b7 l) := Lib.hid (by rw [HV.out, s0]; rfl)
    go_enter Tryz.func65, Tryz.ntmps65
    go_wp2_with (go_at_call 103; refine (rwithin_any _ _ _ _).mono ?_; rintro e w' ⟨rfl, rfl⟩)
    refine (rwants_any l.wA l.wc l.want _ (HI.out.w1.ext HE0.out) HI.out.w2).mono ?_
    rintro e w1 ⟨rfl, hE1⟩
    have g1 := hE1.blk HG0.out
    clear r0
    have r1 := cell_of_heap g1
    have HG1 := Lib.hid g1
    have HE1 := Lib.hid (HE0.out.trans hE1)
    clear g1 hE1
    go_wp2_with (first | (go_at_call 103; refine (rwithin_any _ _ _ _).mono ?_; rintro e w' ⟨rfl, rfl⟩) | (refine wpList_load_letQ (by rfl) (.tmp 1) rfl w.heap.size l rfl HG1.out ?_))
    refine (bare_7a l _).mono ?_
    rintro e w2 ⟨rfl, hE2⟩
    rw [show bareD false false false true false false false false l = b7 l from rfl]
    have g2 := hE2.blk HG1.out
    clear r1
    have r2 := cell_of_heap g2
    have HG2 := Lib.hid g2
    have HE2 := Lib.hid (HE1.out.trans hE2)
    clear g2 hE2
    go_wp2_with (go_at_call 103; refine (rwithin_any _ _ _ _).mono ?_; rintro e w' ⟨rfl, rfl⟩)
    go_ret
    exact ⟨by rw [hv.out]; first | rfl | simp, HE2.out⟩

set_option maxRecDepth 100000 in
set_option maxHeartbeats 4000000 in
theorem rright_7b (l : Let) (w : World) (hin : l.inW w) (h0 : ok0 l = true) (hk : l.kind = 7) (hw : ¬ 0 < l.want.length) : Calls Tryz.prog 65 #[l.v] w fun e w' => e = .returned (.bool (rightD l)) ∧ Ext w w' := by
  have HV : Hid (rightD l = (someI l.last.i l.last.t l.last.k && (inR l.piece 0 47 && (((l.bs.length : Int) == 0) && (c7 l))))) := Lib.hid (by unfold rightD; rw [h0, Bool.true_and, if_neg (by omega), if_neg (by omega), if_neg (by omega), if_neg (by omega), if_neg (by omega), if_neg (by omega), if_pos hk, if_neg hw])
  have h00 := h0
  simp only [ok0, Bool.and_eq_true, bne_iff_ne, ne_eq] at h00
  obtain ⟨f1, ⟨f2, f3⟩, f4⟩ := h00
  have f3' : (l.frm == l.too) = false := by rw [beq_eq_false_iff_ne]; exact fun h => f3 h.symm
  have q1 : (l.kind == 1) = false := by rw [hk]; rfl
  have q2 : (l.kind == 2) = false := by rw [hk]; rfl
  have q3 : (l.kind == 3) = false := by rw [hk]; rfl
  have q4 : (l.kind == 4) = false := by rw [hk]; rfl
  have q5 : (l.kind == 5) = false := by rw [hk]; rfl
  have q6 : (l.kind == 6) = false := by rw [hk]; rfl
  have q7 : (l.kind == 7) = true := by rw [hk]; rfl
  have q8 : (l.kind == 8) = false := by rw [hk]; rfl
  have hwd : decide ((0 : Int) < (l.want.length : Int)) = false := decide_eq_false (by omega)
  have hwn := hw
  clear h0 hk f3 hw
  have HI := Lib.hid hin
  have HG0 := Lib.hid (heap_alloc_new w (.cells l.arr 35))
  have HE0 := Lib.hid ((Ext.refl w).alloc (.cells l.arr 35))
  have r0 := cell_of_heap HG0.out
  have hV : l.v = .agg l.arr := rfl
  rw [hV]
  clear hin hV
  cases s0 : someI l.last.i l.last.t l.last.k with
  | false =>
    have hv : Hid (rightD l = false) := Lib.hid (by rw [HV.out, s0]; rfl)
    go_enter Tryz.func65, Tryz.ntmps65
    go_wp2_with (go_at_call 103; refine (rwithin_any _ _ _ _).mono ?_; rintro e w' ⟨rfl, rfl⟩)
    refine (rsomeones_any l.last.i l.last.t l.last.k _).mono ?_
    rintro e w1 ⟨rfl, hE1⟩
    have g1 := hE1.blk HG0.out
    clear r0
    have r1 := cell_of_heap g1
    have HG1 := Lib.hid g1
    have HE1 := Lib.hid (HE0.out.trans hE1)
    clear g1 hE1
    go_wp2_with (go_at_call 103; refine (rwithin_any _ _ _ _).mono ?_; rintro e w' ⟨rfl, rfl⟩)
    go_ret
    exact ⟨by rw [hv.out]; first | rfl | simp, HE1.out⟩
  | true =>
    cases s1 : inR l.piece 0 47 with
    | false =>
      have hv : Hid (rightD l = false) := Lib.hid (by rw [HV.out, s0, s1]; rfl)
      go_enter Tryz.func65, Tryz.ntmps65
      go_wp2_with (go_at_call 103; refine (rwithin_any _ _ _ _).mono ?_; rintro e w' ⟨rfl, rfl⟩)
      refine (rsomeones_any l.last.i l.last.t l.last.k _).mono ?_
      rintro e w1 ⟨rfl, hE1⟩
      have g1 := hE1.blk HG0.out
      clear r0
      have r1 := cell_of_heap g1
      have HG1 := Lib.hid g1
      have HE1 := Lib.hid (HE0.out.trans hE1)
      clear g1 hE1
      go_wp2_with (go_at_call 103; refine (rwithin_any _ _ _ _).mono ?_; rintro e w' ⟨rfl, rfl⟩)
      go_ret
      exact ⟨by rw [hv.out]; first | rfl | simp, HE1.out⟩
    | true =>
      cases s2 : ((l.bs.length : Int) == 0) with
      | false =>
        have hv : Hid (rightD l = false) := Lib.hid (by rw [HV.out, s0, s1, s2]; rfl)
        go_enter Tryz.func65, Tryz.ntmps65
        go_wp2_with (go_at_call 103; refine (rwithin_any _ _ _ _).mono ?_; rintro e w' ⟨rfl, rfl⟩)
        refine (rsomeones_any l.last.i l.last.t l.last.k _).mono ?_
        rintro e w1 ⟨rfl, hE1⟩
        have g1 := hE1.blk HG0.out
        clear r0
        have r1 := cell_of_heap g1
        have HG1 := Lib.hid g1
        have HE1 := Lib.hid (HE0.out.trans hE1)
        clear g1 hE1
        go_wp2_with (go_at_call 103; refine (rwithin_any _ _ _ _).mono ?_; rintro e w' ⟨rfl, rfl⟩)
        go_ret
        exact ⟨by rw [hv.out]; first | rfl | simp, HE1.out⟩
      | true =>
        have hv : Hid (rightD l = c7 l) := Lib.hid (by rw [HV.out, s0, s1, s2]; rfl)
        go_enter Tryz.func65, Tryz.ntmps65
        go_wp2_with (go_at_call 103; refine (rwithin_any _ _ _ _).mono ?_; rintro e w' ⟨rfl, rfl⟩)
        refine (rsomeones_any l.last.i l.last.t l.last.k _).mono ?_
        rintro e w1 ⟨rfl, hE1⟩
        have g1 := hE1.blk HG0.out
        clear r0
        have r1 := cell_of_heap g1
        have HG1 := Lib.hid g1
        have HE1 := Lib.hid (HE0.out.trans hE1)
        clear g1 hE1
        go_wp2_with (first | (go_at_call 103; refine (rwithin_any _ _ _ _).mono ?_; rintro e w' ⟨rfl, rfl⟩) | (refine wpList_load_letQ (by rfl) (.tmp 1) rfl w.heap.size l rfl HG1.out ?_))
        refine (bare_7b l _).mono ?_
        rintro e w2 ⟨rfl, hE2⟩
        rw [show bareD false true false false false false false true l = c7 l from rfl]
        have g2 := hE2.blk HG1.out
        clear r1
        have r2 := cell_of_heap g2
        have HG2 := Lib.hid g2
        have HE2 := Lib.hid (HE1.out.trans hE2)
        clear g2 hE2
        go_wp2_with (go_at_call 103; refine (rwithin_any _ _ _ _).mono ?_; rintro e w' ⟨rfl, rfl⟩)
        go_ret
        exact ⟨by rw [hv.out]; first | rfl | simp, HE2.out⟩

set_option maxRecDepth 100000 in
set_option maxHeartbeats 4000000 in
theorem rright_8a (l : Let) (w : World) (hin : l.inW w) (h0 : ok0 l = true) (hk : l.kind = 8) (hw : 0 < l.ents.length) : Calls Tryz.prog 65 #[l.v] w fun e w' => e = .returned (.bool (rightD l)) ∧ Ext w w' := by
  have HV : Hid (rightD l = (goodsOk l.ents && (aheadsOk l.ents l.want && (b8 l)))) := Lib.hid (by unfold rightD; rw [h0, Bool.true_and, if_neg (by omega), if_neg (by omega), if_neg (by omega), if_neg (by omega), if_neg (by omega), if_neg (by omega), if_neg (by omega), if_pos hk, if_pos hw])
  have h00 := h0
  simp only [ok0, Bool.and_eq_true, bne_iff_ne, ne_eq] at h00
  obtain ⟨f1, ⟨f2, f3⟩, f4⟩ := h00
  have f3' : (l.frm == l.too) = false := by rw [beq_eq_false_iff_ne]; exact fun h => f3 h.symm
  have q1 : (l.kind == 1) = false := by rw [hk]; rfl
  have q2 : (l.kind == 2) = false := by rw [hk]; rfl
  have q3 : (l.kind == 3) = false := by rw [hk]; rfl
  have q4 : (l.kind == 4) = false := by rw [hk]; rfl
  have q5 : (l.kind == 5) = false := by rw [hk]; rfl
  have q6 : (l.kind == 6) = false := by rw [hk]; rfl
  have q7 : (l.kind == 7) = false := by rw [hk]; rfl
  have q8 : (l.kind == 8) = true := by rw [hk]; rfl
  have hwd : decide ((0 : Int) < (l.ents.length : Int)) = true := decide_eq_true (by omega)
  have hwn := hw
  clear h0 hk f3 hw
  have HI := Lib.hid hin
  have HG0 := Lib.hid (heap_alloc_new w (.cells l.arr 35))
  have HE0 := Lib.hid ((Ext.refl w).alloc (.cells l.arr 35))
  have r0 := cell_of_heap HG0.out
  have hV : l.v = .agg l.arr := rfl
  rw [hV]
  clear hin hV
  cases s0 : goodsOk l.ents with
  | false =>
    have hv : Hid (rightD l = false) := Lib.hid (by rw [HV.out, s0]; rfl)
    go_enter Tryz.func65, Tryz.ntmps65
    go_wp2_with (go_at_call 103; refine (rwithin_any _ _ _ _).mono ?_; rintro e w' ⟨rfl, rfl⟩)
    refine (rgoods_any l.eA l.ec l.ents _ (HI.out.e1.ext HE0.out) (by have := HI.out.e2; unfold maxLen; omega)).mono ?_
    rintro e w1 ⟨rfl, hE1⟩
    have g1 := hE1.blk HG0.out
    clear r0
    have r1 := cell_of_heap g1
    have HG1 := Lib.hid g1
    have HE1 := Lib.hid (HE0.out.trans hE1)
    clear g1 hE1
    go_wp2_with (go_at_call 103; refine (rwithin_any _ _ _ _).mono ?_; rintro e w' ⟨rfl, rfl⟩)
    go_ret
    exact ⟨by rw [hv.out]; first | rfl | simp, HE1.out⟩
  | true =>
    cases s1 : aheadsOk l.ents l.want with
    | false =>
      have hv : Hid (rightD l = false) := Lib.hid (by rw [HV.out, s0, s1]; rfl)
      go_enter Tryz.func65, Tryz.ntmps65
      go_wp2_with (go_at_call 103; refine (rwithin_any _ _ _ _).mono ?_; rintro e w' ⟨rfl, rfl⟩)
      refine (rgoods_any l.eA l.ec l.ents _ (HI.out.e1.ext HE0.out) (by have := HI.out.e2; unfold maxLen; omega)).mono ?_
      rintro e w1 ⟨rfl, hE1⟩
      have g1 := hE1.blk HG0.out
      clear r0
      have r1 := cell_of_heap g1
      have HG1 := Lib.hid g1
      have HE1 := Lib.hid (HE0.out.trans hE1)
      clear g1 hE1
      go_wp2_with (go_at_call 103; refine (rwithin_any _ _ _ _).mono ?_; rintro e w' ⟨rfl, rfl⟩)
      refine (raheads_any l.eA l.ec l.ents l.wA l.wc l.want _ (HI.out.e1.ext HE1.out) (HI.out.w1.ext HE1.out) HI.out.e2 HI.out.w2).mono ?_
      rintro e w2 ⟨rfl, hE2⟩
      have g2 := hE2.blk HG1.out
      clear r1
      have r2 := cell_of_heap g2
      have HG2 := Lib.hid g2
      have HE2 := Lib.hid (HE1.out.trans hE2)
      clear g2 hE2
      go_wp2_with (go_at_call 103; refine (rwithin_any _ _ _ _).mono ?_; rintro e w' ⟨rfl, rfl⟩)
      go_ret
      exact ⟨by rw [hv.out]; first | rfl | simp, HE2.out⟩
    | true =>
      have hv : Hid (rightD l = b8 l) := Lib.hid (by rw [HV.out, s0, s1]; rfl)
      go_enter Tryz.func65, Tryz.ntmps65
      go_wp2_with (go_at_call 103; refine (rwithin_any _ _ _ _).mono ?_; rintro e w' ⟨rfl, rfl⟩)
      refine (rgoods_any l.eA l.ec l.ents _ (HI.out.e1.ext HE0.out) (by have := HI.out.e2; unfold maxLen; omega)).mono ?_
      rintro e w1 ⟨rfl, hE1⟩
      have g1 := hE1.blk HG0.out
      clear r0
      have r1 := cell_of_heap g1
      have HG1 := Lib.hid g1
      have HE1 := Lib.hid (HE0.out.trans hE1)
      clear g1 hE1
      go_wp2_with (go_at_call 103; refine (rwithin_any _ _ _ _).mono ?_; rintro e w' ⟨rfl, rfl⟩)
      refine (raheads_any l.eA l.ec l.ents l.wA l.wc l.want _ (HI.out.e1.ext HE1.out) (HI.out.w1.ext HE1.out) HI.out.e2 HI.out.w2).mono ?_
      rintro e w2 ⟨rfl, hE2⟩
      have g2 := hE2.blk HG1.out
      clear r1
      have r2 := cell_of_heap g2
      have HG2 := Lib.hid g2
      have HE2 := Lib.hid (HE1.out.trans hE2)
      clear g2 hE2
      go_wp2_with (first | (go_at_call 103; refine (rwithin_any _ _ _ _).mono ?_; rintro e w' ⟨rfl, rfl⟩) | (refine wpList_load_letQ (by rfl) (.tmp 1) rfl w.heap.size l rfl HG2.out ?_))
      refine (bare_8a l _).mono ?_
      rintro e w3 ⟨rfl, hE3⟩
      rw [show bareD false false false true false true false false l = b8 l from rfl]
      have g3 := hE3.blk HG2.out
      clear r2
      have r3 := cell_of_heap g3
      have HG3 := Lib.hid g3
      have HE3 := Lib.hid (HE2.out.trans hE3)
      clear g3 hE3
      go_wp2_with (go_at_call 103; refine (rwithin_any _ _ _ _).mono ?_; rintro e w' ⟨rfl, rfl⟩)
      go_ret
      exact ⟨by rw [hv.out]; first | rfl | simp, HE3.out⟩

set_option maxRecDepth 100000 in
set_option maxHeartbeats 4000000 in
theorem rright_8b (l : Let) (w : World) (hin : l.inW w) (h0 : ok0 l = true) (hk : l.kind = 8) (hw : ¬ 0 < l.ents.length) : Calls Tryz.prog 65 #[l.v] w fun e w' => e = .returned (.bool (rightD l)) ∧ Ext w w' := by
  have HV : Hid (rightD l = (carriedOk l && (b5 l))) := Lib.hid (by unfold rightD; rw [h0, Bool.true_and, if_neg (by omega), if_neg (by omega), if_neg (by omega), if_neg (by omega), if_neg (by omega), if_neg (by omega), if_neg (by omega), if_pos hk, if_neg hw])
  have h00 := h0
  simp only [ok0, Bool.and_eq_true, bne_iff_ne, ne_eq] at h00
  obtain ⟨f1, ⟨f2, f3⟩, f4⟩ := h00
  have f3' : (l.frm == l.too) = false := by rw [beq_eq_false_iff_ne]; exact fun h => f3 h.symm
  have q1 : (l.kind == 1) = false := by rw [hk]; rfl
  have q2 : (l.kind == 2) = false := by rw [hk]; rfl
  have q3 : (l.kind == 3) = false := by rw [hk]; rfl
  have q4 : (l.kind == 4) = false := by rw [hk]; rfl
  have q5 : (l.kind == 5) = false := by rw [hk]; rfl
  have q6 : (l.kind == 6) = false := by rw [hk]; rfl
  have q7 : (l.kind == 7) = false := by rw [hk]; rfl
  have q8 : (l.kind == 8) = true := by rw [hk]; rfl
  have hwd : decide ((0 : Int) < (l.ents.length : Int)) = false := decide_eq_false (by omega)
  have hwn := hw
  clear h0 hk f3 hw
  have HI := Lib.hid hin
  have HG0 := Lib.hid (heap_alloc_new w (.cells l.arr 35))
  have HE0 := Lib.hid ((Ext.refl w).alloc (.cells l.arr 35))
  have r0 := cell_of_heap HG0.out
  have hV : l.v = .agg l.arr := rfl
  rw [hV]
  clear hin hV
  cases s0 : carriedOk l with
  | false =>
    have hv : Hid (rightD l = false) := Lib.hid (by rw [HV.out, s0]; rfl)
    go_enter Tryz.func65, Tryz.ntmps65
    go_wp2_with (first | (go_at_call 103; refine (rwithin_any _ _ _ _).mono ?_; rintro e w' ⟨rfl, rfl⟩) | (refine wpList_load_letQ (by rfl) (.tmp 1) rfl w.heap.size l rfl HG0.out ?_))
    refine (rpiece_any l _ (HI.out.ext HE0.out)).mono ?_
    rintro e w1 ⟨rfl, hE1⟩
    have g1 := hE1.blk HG0.out
    clear r0
    have r1 := cell_of_heap g1
    have HG1 := Lib.hid g1
    have HE1 := Lib.hid (HE0.out.trans hE1)
    clear g1 hE1
    go_wp2_with (go_at_call 103; refine (rwithin_any _ _ _ _).mono ?_; rintro e w' ⟨rfl, rfl⟩)
    go_ret
    exact ⟨by rw [hv.out]; first | rfl | simp, HE1.out⟩
  | true =>
    have hv : Hid (rightD l = b5 l) := Lib.hid (by rw [HV.out, s0]; rfl)
    go_enter Tryz.func65, Tryz.ntmps65
    go_wp2_with (first | (go_at_call 103; refine (rwithin_any _ _ _ _).mono ?_; rintro e w' ⟨rfl, rfl⟩) | (refine wpList_load_letQ (by rfl) (.tmp 1) rfl w.heap.size l rfl HG0.out ?_))
    refine (rpiece_any l _ (HI.out.ext HE0.out)).mono ?_
    rintro e w1 ⟨rfl, hE1⟩
    have g1 := hE1.blk HG0.out
    clear r0
    have r1 := cell_of_heap g1
    have HG1 := Lib.hid g1
    have HE1 := Lib.hid (HE0.out.trans hE1)
    clear g1 hE1
    go_wp2_with (first | (go_at_call 103; refine (rwithin_any _ _ _ _).mono ?_; rintro e w' ⟨rfl, rfl⟩) | (refine wpList_load_letQ (by rfl) (.tmp 1) rfl w.heap.size l rfl HG1.out ?_))
    refine (bare_5 l _).mono ?_
    rintro e w2 ⟨rfl, hE2⟩
    rw [show bareD false false false false false false true true l = b5 l from rfl]
    have g2 := hE2.blk HG1.out
    clear r1
    have r2 := cell_of_heap g2
    have HG2 := Lib.hid g2
    have HE2 := Lib.hid (HE1.out.trans hE2)
    clear g2 hE2
    go_wp2_with (go_at_call 103; refine (rwithin_any _ _ _ _).mono ?_; rintro e w' ⟨rfl, rfl⟩)
    go_ret
    exact ⟨by rw [hv.out]; first | rfl | simp, HE2.out⟩
end Go.Proofs.YtjnllilmimngoaaGreatDoor
namespace Go.Proofs.YtjnllilmimngoaaGreatDoor
open Go.RowKit

set_option maxRecDepth 100000 in
set_option maxHeartbeats 4000000 in
theorem rright_3 (l : Let) (w : World) (hin : l.inW w) (h0 : ok0 l = true) (hk : l.kind = 3) : Calls Tryz.prog 65 #[l.v] w fun e w' => e = .returned (.bool (rightD l)) ∧ Ext w w' := by
  have HV : Hid (rightD l = (decide (0 < l.term) && (rightI l.prev.i l.prev.t l.prev.k && (inR l.commit 0 1099511627776 && (rowOk l && (b3 l)))))) := Lib.hid (by unfold rightD; rw [h0, Bool.true_and, if_neg (by omega), if_neg (by omega), if_pos hk])
  have h00 := h0
  simp only [ok0, Bool.and_eq_true, bne_iff_ne, ne_eq] at h00
  obtain ⟨f1, ⟨f2, f3⟩, f4⟩ := h00
  have f3' : (l.frm == l.too) = false := by rw [beq_eq_false_iff_ne]; exact fun h => f3 h.symm
  have q1 : (l.kind == 1) = false := by rw [hk]; rfl
  have q2 : (l.kind == 2) = false := by rw [hk]; rfl
  have q3 : (l.kind == 3) = true := by rw [hk]; rfl
  have q4 : (l.kind == 4) = false := by rw [hk]; rfl
  have q5 : (l.kind == 5) = false := by rw [hk]; rfl
  have q6 : (l.kind == 6) = false := by rw [hk]; rfl
  have q7 : (l.kind == 7) = false := by rw [hk]; rfl
  have q8 : (l.kind == 8) = false := by rw [hk]; rfl
  clear h0 hk f3
  have HI := Lib.hid hin
  have HG0 := Lib.hid (heap_alloc_new w (.cells l.arr 35))
  have HE0 := Lib.hid ((Ext.refl w).alloc (.cells l.arr 35))
  have r0 := cell_of_heap HG0.out
  have hV : l.v = .agg l.arr := rfl
  rw [hV]
  clear hin hV
  cases s0 : decide (0 < l.term) with
  | false =>
    have hv : Hid (rightD l = false) := Lib.hid (by rw [HV.out, s0]; rfl)
    go_enter Tryz.func65, Tryz.ntmps65
    go_wp2_with (go_at_call 103; refine (rwithin_any _ _ _ _).mono ?_; rintro e w' ⟨rfl, rfl⟩)
    go_ret
    exact ⟨by rw [hv.out]; first | rfl | simp, HE0.out⟩
  | true =>
    cases s1 : rightI l.prev.i l.prev.t l.prev.k with
    | false =>
      have hv : Hid (rightD l = false) := Lib.hid (by rw [HV.out, s0, s1]; rfl)
      go_enter Tryz.func65, Tryz.ntmps65
      go_wp2_with (go_at_call 103; refine (rwithin_any _ _ _ _).mono ?_; rintro e w' ⟨rfl, rfl⟩)
      refine (rident_any l.prev.i l.prev.t l.prev.k _).mono ?_
      rintro e w1 ⟨rfl, hE1⟩
      have g1 := hE1.blk HG0.out
      clear r0
      have r1 := cell_of_heap g1
      have HG1 := Lib.hid g1
      have HE1 := Lib.hid (HE0.out.trans hE1)
      clear g1 hE1
      go_wp2_with (go_at_call 103; refine (rwithin_any _ _ _ _).mono ?_; rintro e w' ⟨rfl, rfl⟩)
      go_ret
      exact ⟨by rw [hv.out]; first | rfl | simp, HE1.out⟩
    | true =>
      cases s2 : inR l.commit 0 1099511627776 with
      | false =>
        have hv : Hid (rightD l = false) := Lib.hid (by rw [HV.out, s0, s1, s2]; rfl)
        go_enter Tryz.func65, Tryz.ntmps65
        go_wp2_with (go_at_call 103; refine (rwithin_any _ _ _ _).mono ?_; rintro e w' ⟨rfl, rfl⟩)
        refine (rident_any l.prev.i l.prev.t l.prev.k _).mono ?_
        rintro e w1 ⟨rfl, hE1⟩
        have g1 := hE1.blk HG0.out
        clear r0
        have r1 := cell_of_heap g1
        have HG1 := Lib.hid g1
        have HE1 := Lib.hid (HE0.out.trans hE1)
        clear g1 hE1
        go_wp2_with (go_at_call 103; refine (rwithin_any _ _ _ _).mono ?_; rintro e w' ⟨rfl, rfl⟩)
        go_ret
        exact ⟨by rw [hv.out]; first | rfl | simp, HE1.out⟩
      | true =>
        cases s3 : rowOk l with
        | false =>
          have hv : Hid (rightD l = false) := Lib.hid (by rw [HV.out, s0, s1, s2, s3]; rfl)
          go_enter Tryz.func65, Tryz.ntmps65
          go_wp2_with (go_at_call 103; refine (rwithin_any _ _ _ _).mono ?_; rintro e w' ⟨rfl, rfl⟩)
          refine (rident_any l.prev.i l.prev.t l.prev.k _).mono ?_
          rintro e w1 ⟨rfl, hE1⟩
          have g1 := hE1.blk HG0.out
          clear r0
          have r1 := cell_of_heap g1
          have HG1 := Lib.hid g1
          have HE1 := Lib.hid (HE0.out.trans hE1)
          clear g1 hE1
          go_wp2_with (go_at_call 103; refine (rwithin_any _ _ _ _).mono ?_; rintro e w' ⟨rfl, rfl⟩)
          refine (rsent_any l _ (HI.out.ext HE1.out)).mono ?_
          rintro e w2 ⟨rfl, hE2⟩
          have g2 := hE2.blk HG1.out
          clear r1
          have r2 := cell_of_heap g2
          have HG2 := Lib.hid g2
          have HE2 := Lib.hid (HE1.out.trans hE2)
          clear g2 hE2
          go_wp2_with (go_at_call 103; refine (rwithin_any _ _ _ _).mono ?_; rintro e w' ⟨rfl, rfl⟩)
          go_ret
          exact ⟨by rw [hv.out]; first | rfl | simp, HE2.out⟩
        | true =>
          have hv : Hid (rightD l = b3 l) := Lib.hid (by rw [HV.out, s0, s1, s2, s3]; rfl)
          go_enter Tryz.func65, Tryz.ntmps65
          go_wp2_with (go_at_call 103; refine (rwithin_any _ _ _ _).mono ?_; rintro e w' ⟨rfl, rfl⟩)
          refine (rident_any l.prev.i l.prev.t l.prev.k _).mono ?_
          rintro e w1 ⟨rfl, hE1⟩
          have g1 := hE1.blk HG0.out
          clear r0
          have r1 := cell_of_heap g1
          have HG1 := Lib.hid g1
          have HE1 := Lib.hid (HE0.out.trans hE1)
          clear g1 hE1
          go_wp2_with (go_at_call 103; refine (rwithin_any _ _ _ _).mono ?_; rintro e w' ⟨rfl, rfl⟩)
          refine (rsent_any l _ (HI.out.ext HE1.out)).mono ?_
          rintro e w2 ⟨rfl, hE2⟩
          have g2 := hE2.blk HG1.out
          clear r1
          have r2 := cell_of_heap g2
          have HG2 := Lib.hid g2
          have HE2 := Lib.hid (HE1.out.trans hE2)
          clear g2 hE2
          go_wp2_with (first | (go_at_call 103; refine (rwithin_any _ _ _ _).mono ?_; rintro e w' ⟨rfl, rfl⟩) | (refine wpList_load_letQ (by rfl) (.tmp 1) rfl w.heap.size l rfl HG2.out ?_))
          refine (bare_3 l _).mono ?_
          rintro e w3 ⟨rfl, hE3⟩
          rw [show bareD false false true false false true false false l = b3 l from rfl]
          have g3 := hE3.blk HG2.out
          clear r2
          have r3 := cell_of_heap g3
          have HG3 := Lib.hid g3
          have HE3 := Lib.hid (HE2.out.trans hE3)
          clear g3 hE3
          go_wp2_with (go_at_call 103; refine (rwithin_any _ _ _ _).mono ?_; rintro e w' ⟨rfl, rfl⟩)
          go_ret
          exact ⟨by rw [hv.out]; first | rfl | simp, HE3.out⟩
end Go.Proofs.YtjnllilmimngoaaGreatDoor
namespace Go.Proofs.YtjnllilmimngoaaGreatDoor
open Go.RowKit

theorem rright_any2 (l : Let) (w : World) (hin : l.inW w) : Calls Tryz.prog 65 #[l.v] w fun e w' => e = .returned (.bool (rightD l)) ∧ Ext w w' := by
  cases h0 : ok0 l with
  | false => exact rright_no l w hin h0
  | true =>
    by_cases h1 : l.kind = 1
    · exact rright_1 l w hin h0 h1
    by_cases h2 : l.kind = 2
    · exact rright_2 l w hin h0 h2
    by_cases h3 : l.kind = 3
    · exact rright_3 l w hin h0 h3
    by_cases h4 : l.kind = 4
    · exact rright_4 l w hin h0 h4
    by_cases h5 : l.kind = 5
    · exact rright_5 l w hin h0 h5
    by_cases h6 : l.kind = 6
    · exact rright_6 l w hin h0 h6
    by_cases h7 : l.kind = 7
    · by_cases hw : 0 < l.want.length
      · exact rright_7a l w hin h0 h7 hw
      · exact rright_7b l w hin h0 h7 hw
    by_cases h8 : l.kind = 8
    · by_cases hw : 0 < l.ents.length
      · exact rright_8a l w hin h0 h8 hw
      · exact rright_8b l w hin h0 h8 hw
    exact rright_x l w hin h0 (by omega)
end Go.Proofs.YtjnllilmimngoaaGreatDoor
namespace Go.Proofs.YtjnllilmimngoaaGreatDoor
open Go.RowKit

theorem beq0 (x : Int) : ((0 : Int) == x) = (x == 0) := by rw [Bool.eq_iff_iff]; simp only [beq_iff_eq]; exact eq_comm
theorem beqF (b : Bool) : (false == b) = !b := by cases b <;> rfl
theorem beqS (x : Int) : (x == x) = true := by simp
theorem beqB (x : Bool) : (x == x) = true := by simp
theorem eqI_self (p : Id) : eqI p p = true := by simp [eqI]
theorem eqI_zero (p : Id) : eqI Id.zero p = zeroId p.i p.t p.k := by
  unfold eqI zeroId Id.zero
  simp only [beq0]
theorem right_same (l : Let) : rightL l = rightD l := by
  unfold rightL rightD
  by_cases h1 : l.kind = 1
  · have ho : l.own = l.o1 := by unfold Let.own; rw [if_pos h1]
    have hk : l.ok = (okT l && l.last.right) := by unfold Let.ok; rw [if_pos h1]
    rw [ho, hk, if_pos h1]
    simp only [okT, b1, bareD, noneOk, plainEq, Let.o1, Let.base, eqI_self, eqI_zero, beq0, beqF, Id.right, Bool.true_or, Bool.false_or, Bool.true_and, List.length_nil, Int.cast_ofNat_Int]
    ac_rfl
  by_cases h2 : l.kind = 2
  · have ho : l.own = l.o2 := by unfold Let.own; rw [if_neg h1, if_pos h2]
    have hk : l.ok = (ok0 l) := by unfold Let.ok; rw [if_neg h1, if_pos h2]
    rw [ho, hk, if_neg h1, if_pos h2]
    simp only [b2, bareD, noneOk, plainEq, Let.o2, Let.base, eqI_zero, beq0, beqB, Bool.true_or, Bool.false_or, Bool.true_and, List.length_nil, Int.cast_ofNat_Int]
    ac_rfl
  by_cases h3 : l.kind = 3
  · have ho : l.own = l.o3 := by unfold Let.own; rw [if_neg h1, if_neg h2, if_pos h3]
    have hk : l.ok = (okT l && (l.prev.right && (inR l.commit 0 1099511627776 && rowOk l))) := by unfold Let.ok; rw [if_neg h1, if_neg h2, if_pos h3]
    rw [ho, hk, if_neg h1, if_neg h2, if_pos h3]
    simp only [okT, b3, bareD, noneOk, plainEq, Let.o3, Let.base, eqI_self, eqI_zero, beq0, beqF, beqS, Id.right, Bool.true_or, Bool.false_or, Bool.true_and, List.length_nil, Int.cast_ofNat_Int]
    ac_rfl
  by_cases h4 : l.kind = 4
  · have ho : l.own = l.o4 := by unfold Let.own; rw [if_neg h1, if_neg h2, if_neg h3, if_pos h4]
    have hk : l.ok = (ok0 l && inR l.index 0 1099511627776) := by unfold Let.ok; rw [if_neg h1, if_neg h2, if_neg h3, if_pos h4]
    rw [ho, hk, if_neg h1, if_neg h2, if_neg h3, if_pos h4]
    simp only [b4, bareD, noneOk, plainEq, Let.o4, Let.base, eqI_zero, beq0, beqS, beqB, Bool.true_or, Bool.false_or, Bool.true_and, List.length_nil, Int.cast_ofNat_Int]
    ac_rfl
  by_cases h5 : l.kind = 5
  · have ho : l.own = l.o5 := by unfold Let.own; rw [if_neg h1, if_neg h2, if_neg h3, if_neg h4, if_pos h5]
    have hk : l.ok = (okT l && carriedOk l) := by unfold Let.ok; rw [if_neg h1, if_neg h2, if_neg h3, if_neg h4, if_pos h5]
    rw [ho, hk, if_neg h1, if_neg h2, if_neg h3, if_neg h4, if_pos h5]
    simp only [okT, b5, bareD, noneOk, plainEq, Let.o5, Let.base, eqI_self, eqI_zero, beq0, beqF, beqS, Bool.true_or, Bool.false_or, Bool.true_and, Bool.and_true, List.length_nil, Int.cast_ofNat_Int]
    ac_rfl
  by_cases h6 : l.kind = 6
  · have ho : l.own = l.o6 := by unfold Let.own; rw [if_neg h1, if_neg h2, if_neg h3, if_neg h4, if_neg h5, if_pos h6]
    have hk : l.ok = (ok0 l && (l.last.some_ && inR l.piece 0 48)) := by unfold Let.ok; rw [if_neg h1, if_neg h2, if_neg h3, if_neg h4, if_neg h5, if_pos h6]
    rw [ho, hk, if_neg h1, if_neg h2, if_neg h3, if_neg h4, if_neg h5, if_pos h6]
    simp only [b6, bareD, noneOk, plainEq, Let.o6, Let.base, eqI_self, eqI_zero, beq0, beqS, beqB, Id.some_, Bool.true_or, Bool.false_or, Bool.true_and, Bool.and_true, List.length_nil, Int.cast_ofNat_Int]
    ac_rfl
  by_cases h7 : l.kind = 7
  · by_cases hw : 0 < l.want.length
    · have ho : l.own = l.o7a := by unfold Let.own; rw [if_neg h1, if_neg h2, if_neg h3, if_neg h4, if_neg h5, if_neg h6, if_pos h7, if_pos hw]
      have hk : l.ok = (ok0 l && wantsOk l.want) := by unfold Let.ok; rw [if_neg h1, if_neg h2, if_neg h3, if_neg h4, if_neg h5, if_neg h6, if_pos h7, if_pos hw]
      rw [ho, hk, if_neg h1, if_neg h2, if_neg h3, if_neg h4, if_neg h5, if_neg h6, if_pos h7, if_pos hw]
      simp only [b7, bareD, noneOk, plainEq, Let.o7a, Let.base, eqI_zero, beq0, beqF, beqS, Bool.true_or, Bool.false_or, Bool.true_and, List.length_nil, Int.cast_ofNat_Int]
      ac_rfl
    · have ho : l.own = l.o7b := by unfold Let.own; rw [if_neg h1, if_neg h2, if_neg h3, if_neg h4, if_neg h5, if_neg h6, if_pos h7, if_neg hw]
      have hk : l.ok = (ok0 l && (l.last.some_ && inR l.piece 0 47)) := by unfold Let.ok; rw [if_neg h1, if_neg h2, if_neg h3, if_neg h4, if_neg h5, if_neg h6, if_pos h7, if_neg hw]
      rw [ho, hk, if_neg h1, if_neg h2, if_neg h3, if_neg h4, if_neg h5, if_neg h6, if_pos h7, if_neg hw]
      simp only [c7, bareD, noneOk, plainEq, Let.o7b, Let.base, eqI_self, eqI_zero, beq0, beqF, beqS, Id.some_, Bool.true_or, Bool.false_or, Bool.true_and, Bool.and_true, List.length_nil, Int.cast_ofNat_Int]
      ac_rfl
  by_cases h8 : l.kind = 8
  · by_cases hw : 0 < l.ents.length
    · have ho : l.own = l.o8a := by unfold Let.own; rw [if_neg h1, if_neg h2, if_neg h3, if_neg h4, if_neg h5, if_neg h6, if_neg h7, if_pos h8, if_pos hw]
      have hk : l.ok = (ok0 l && (goodsOk l.ents && aheadsOk l.ents l.want)) := by unfold Let.ok; rw [if_neg h1, if_neg h2, if_neg h3, if_neg h4, if_neg h5, if_neg h6, if_neg h7, if_pos h8, if_pos hw]
      rw [ho, hk, if_neg h1, if_neg h2, if_neg h3, if_neg h4, if_neg h5, if_neg h6, if_neg h7, if_pos h8, if_pos hw]
      simp only [b8, bareD, noneOk, plainEq, Let.o8a, Let.base, eqI_zero, beq0, beqF, beqS, Bool.true_or, Bool.false_or, Bool.true_and, List.length_nil, Int.cast_ofNat_Int]
      ac_rfl
    · have ho : l.own = l.o5 := by unfold Let.own; rw [if_neg h1, if_neg h2, if_neg h3, if_neg h4, if_neg h5, if_neg h6, if_neg h7, if_pos h8, if_neg hw]
      have hk : l.ok = (ok0 l && carriedOk l) := by unfold Let.ok; rw [if_neg h1, if_neg h2, if_neg h3, if_neg h4, if_neg h5, if_neg h6, if_neg h7, if_pos h8, if_neg hw]
      rw [ho, hk, if_neg h1, if_neg h2, if_neg h3, if_neg h4, if_neg h5, if_neg h6, if_neg h7, if_pos h8, if_neg hw]
      simp only [b5, bareD, noneOk, plainEq, Let.o5, Let.base, eqI_self, eqI_zero, beq0, beqF, beqS, Bool.true_or, Bool.false_or, Bool.true_and, Bool.and_true, List.length_nil, Int.cast_ofNat_Int]
      ac_rfl
  have hk : l.ok = false := by unfold Let.ok; rw [if_neg h1, if_neg h2, if_neg h3, if_neg h4, if_neg h5, if_neg h6, if_neg h7, if_neg h8]
  rw [hk, if_neg h1, if_neg h2, if_neg h3, if_neg h4, if_neg h5, if_neg h6, if_neg h7, if_neg h8, Bool.and_false, Bool.false_and]
theorem rrightL_any (l : Let) (w : World) (hin : l.inW w) : Calls Tryz.prog 65 #[l.v] w fun e w' => e = .returned (.bool (rightL l)) ∧ Ext w w' := by
  rw [right_same]
  exact rright_any2 l w hin
end Go.Proofs.YtjnllilmimngoaaGreatDoor
