/-
  The document's Put: what is common.
  The document's Put: kinds 1, 2, 3, 4.
  The document's Put: kinds 5, 6, 7.
  The document's Put: kinds 8a, 8b.
  The document's Put: any letter.
-/
import Derived.Test.YtcapapnhlkmeaaaGreatDoorM45
import Derived.Test.YtcapapnhlkmeaaaGreatDoorM44
namespace Go.Proofs.YtcapapnhlkmeaaaGreatDoor
open Go.RowKit

theorem rhd_eq (l : Let) (h1 : num1 l.kind) (h2 : num1 l.frm) (h3 : num1 l.too) : rfieldsS 1 [] false [l.kind, l.frm, l.too] = (hdB l, false) := by
  rw [rfields_all 1 _ _ (by decide) (by
    intro n hn
    simp only [List.mem_cons, List.not_mem_nil, or_false] at hn
    rcases hn with rfl | rfl | rfl
    · exact h1
    · exact h2
    · exact h3)]
  simp [hdB]
theorem snapB_length (l : Let) (h : l.carries) : (snapB l).length ≤ 10000 := by
  have h2 := h.f2
  have h5 := h.f5
  simp [snapB, idB_length, rowB_length, leB_length, sumsB_length]; omega
set_option maxRecDepth 100000 in
set_option maxHeartbeats 2000000 in
theorem rput_no (l : Let) (hr : rightL l = false) (w : World) (hin : l.inW w) : Calls Tryz.prog 8 #[l.v] w (Puts l w) := by
  have HC := Lib.hid (fun w' (h : Ext w w') => rrightL_any l w' (hin.ext h))
  rw [hr] at HC
  have hV : l.v = .agg l.arr := rfl
  have HX : Hid (putX l = [] ∧ putN l = 2) := Lib.hid (by simp [putX, putN, hr])
  rw [hV]
  clear hin hV hr
  go_enter Tryz.func8, Tryz.ntmps8
  go_wp2_with (refine wpList_load_let rfl _ rfl w.heap.size l rfl (heap_alloc_new w _) ?_)
  refine (HC.out _ ((Ext.refl w).alloc _)).mono ?_
  rintro e w5 ⟨rfl, hE5⟩
  go_wp2_with fail
  go_ret2
  exact ⟨none, 0, by rw [HX.out.1, HX.out.2]; rfl, by rw [HX.out.1]; exact Own.nil _ _ _, ((Ext.refl w).alloc _).trans hE5⟩
end Go.Proofs.YtcapapnhlkmeaaaGreatDoor
namespace Go.Proofs.YtcapapnhlkmeaaaGreatDoor
open Go.RowKit

set_option maxRecDepth 100000 in
set_option maxHeartbeats 4000000 in
theorem rput_1 (l : Let) (hr : rightL l = true) (hk : l.kind = 1) (w : World) (hin : l.inW w) : Calls Tryz.prog 8 #[l.v] w (Puts l w) := by
  have HC := Lib.hid (fun w' (h : Ext w w') => rrightL_any l w' (hin.ext h))
  rw [hr] at HC
  have HI := Lib.hid hin
  have hV : l.v = .agg l.arr := rfl
  have HX : Hid (putX l = putB l ∧ putN l = 0) := Lib.hid (by simp [putX, putN, hr])
  obtain ⟨hk0, hf, ht, h6⟩ := right_head hr
  have hpu := puts_of_right hr hin.u3
  have H1 := Lib.hid (rhd_eq l (by unfold num1; omega) (by unfold num1; omega) (by unfold num1; omega))
  have H2 := Lib.hid (rf_6 (bs := hdB l) (sp := false) h6.1 h6.2)
  have hhl : (hdB l).length = 3 := by simp [hdB, leB_length]
  have hbl := bodyB_length hpu
  rw [hV]
  have q1 : (l.kind == 1) = true := by rw [hk]; rfl
  have q2 : (l.kind == 2) = false := by rw [hk]; rfl
  have q3 : (l.kind == 3) = false := by rw [hk]; rfl
  have q4 : (l.kind == 4) = false := by rw [hk]; rfl
  have q5 : (l.kind == 5) = false := by rw [hk]; rfl
  have q6 : (l.kind == 6) = false := by rw [hk]; rfl
  have q7 : (l.kind == 7) = false := by rw [hk]; rfl
  have q8 : (l.kind == 8) = false := by rw [hk]; rfl
  have HBB := Lib.hid (show bodyB l = idB l.last by simp [bodyB, hk])
  have HK := Lib.hid (hpu.k1 hk)
  clear hin hV hk0 hf ht h6 hpu hk hr
  go_enter Tryz.func8, Tryz.ntmps8
  go_wp2_with (refine wpList_load_let rfl _ rfl w.heap.size l rfl (heap_alloc_new w _) ?_)
  refine (HC.out _ ((Ext.refl w).alloc _)).mono ?_
  rintro e w5 ⟨rfl, hE5⟩
  have g0 := hE5.blk (heap_alloc_new w _)
  have hlt := heap_lt g0
  have r0 := cell_of_heap g0
  have HE5 := Lib.hid (((Ext.refl w).alloc _).trans hE5)
  have HG0 := Lib.hid g0
  have HI5 := Lib.hid ((HI.out.ext HE5.out).ext ((Ext.refl w5).alloc (.cells #[.slice none 0 0, .bool false] 68)))
  have HOF := Lib.hid ((HI.out.ext HE5.out).offNew (Nat.le_refl _))
  have hsz5 := HE5.out.sz
  clear g0 hE5
  go_wp2_with fail
  have hW0 := Wr.new 68 w5
  have hr0 := rd_lit (w5.alloc (.cells #[.slice none 0 0, .bool false] 68)) [.int .i64 l.kind, .int .i64 l.frm, .int .i64 l.too] 3
  have ho0 := off_new hW0
  rw [World.size_alloc] at hr0 ho0
  have P0a := (WP.start hW0).ext ((Ext.refl _).alloc (.cells #[.int .i64 l.kind, .int .i64 l.frm, .int .i64 l.too] 3))
  refine (rfields_any w5.heap.size w5.heap.size none 0 [] false 1 (some ⟨w5.heap.size + 1, 0, none⟩) 3 [l.kind, l.frm, l.too] _ P0a.1 (by simp; omega) hr0 (fun _ => ho0) (by simp)).mono ?_
  rintro e w6 ⟨rfl, hS1⟩
  rw [H1.out] at hS1
  obtain ⟨A1, c1_, P1⟩ := P0a.step hS1
  clear hS1 P0a hr0 ho0 hW0
  have g1 := (P1.heap (i := w.heap.size) (by simp; omega) (by rintro (h | h); · omega
                                                              · simp [blk] at h)).trans ((heap_alloc_old w5 _ hlt).trans HG0.out)
  have z1 := P1.size
  rw [World.size_alloc] at z1
  clear r0
  have r0 := cell_of_heap g1
  have HP1 := Lib.hid P1
  clear g1 P1
  go_wp2_with fail
  refine (rfield_any w5.heap.size w5.heap.size _ _ _ false 6 l.term _ HP1.out.1 (by omega) (by first | omega | (simp [leB_length, idB_length, idsB_length]; omega))).mono ?_
  rintro e w7 ⟨rfl, hS2⟩
  rw [H2.out] at hS2
  obtain ⟨A2, c2_, P2⟩ := HP1.out.step hS2
  clear hS2
  have g2 := (P2.heap (i := w.heap.size) (by simp; omega) (by rintro (h | h); · omega
                                                              · simp [blk] at h)).trans ((heap_alloc_old w5 _ hlt).trans HG0.out)
  have z2 := P2.size
  rw [World.size_alloc] at z2
  clear r0
  have r0 := cell_of_heap g2
  have HP2 := Lib.hid P2
  clear g2 P2
  go_wp2_with fail
  refine (rident_put w5.heap.size w5.heap.size _ _ _ l.last HK.out _ HP2.out.1 (by omega) (by first | omega | (simp [leB_length, idB_length, idsB_length]; omega))).mono ?_
  rintro e w8 ⟨rfl, hS3⟩
  obtain ⟨A3, c3_, P3⟩ := HP2.out.step hS3
  clear hS3
  have g3 := (P3.heap (i := w.heap.size) (by simp; omega) (by rintro (h | h); · omega
                                                              · simp [blk] at h)).trans ((heap_alloc_old w5 _ hlt).trans HG0.out)
  have z3 := P3.size
  rw [World.size_alloc] at z3
  clear r0
  have r0 := cell_of_heap g3
  have HP3 := Lib.hid P3
  clear g3 P3
  have HPE : Hid (putB l = hdB l ++ leB 6 l.term ++ idB l.last) := Lib.hid (by unfold putB; rw [HBB.out]; try simp [List.append_assoc])
  have hq := HP3.out
  rw [← HPE.out] at hq
  have HQ := Lib.hid hq
  have hpl : (putB l).length ≤ 1000000 := by rw [show putB l = hdB l ++ leB 6 l.term ++ bodyB l from rfl]; simp [leB_length]; omega
  clear hq HP3
  go_wp2_with fail
  refine (rbytes_any w5.heap.size w5.heap.size _ _ (putB l) false _ HQ.out.1 (by omega)).mono ?_
  rintro e w20 ⟨A20, c20, rfl, hO20, hS20⟩
  obtain ⟨A21, c21, P21⟩ := HQ.out.step hS20
  have HE20 : Hid (Ext w w20) := Lib.hid (HE5.out.trans (Below.trans ((Ext.refl w5).alloc _) (P21.2.1.below (by simp) (by
    rintro i (rfl | hi)
    · exact Nat.le_refl _
    · simp [blk] at hi))))
  simp only [Bool.false_eq_true, if_false] at hO20
  have hszE : w.heap.size ≤ w8.heap.size := by omega
  clear hS20 P21 r0
  go_wp2_with fail
  go_ret2
  exact ⟨A20, c20, by rw [HX.out.1, HX.out.2]; rfl, by rw [HX.out.1]; exact hO20.lower hszE, HE20.out⟩

set_option maxRecDepth 100000 in
set_option maxHeartbeats 4000000 in
theorem rput_2 (l : Let) (hr : rightL l = true) (hk : l.kind = 2) (w : World) (hin : l.inW w) : Calls Tryz.prog 8 #[l.v] w (Puts l w) := by
  have HC := Lib.hid (fun w' (h : Ext w w') => rrightL_any l w' (hin.ext h))
  rw [hr] at HC
  have HI := Lib.hid hin
  have hV : l.v = .agg l.arr := rfl
  have HX : Hid (putX l = putB l ∧ putN l = 0) := Lib.hid (by simp [putX, putN, hr])
  obtain ⟨hk0, hf, ht, h6⟩ := right_head hr
  have hpu := puts_of_right hr hin.u3
  have H1 := Lib.hid (rhd_eq l (by unfold num1; omega) (by unfold num1; omega) (by unfold num1; omega))
  have H2 := Lib.hid (rf_6 (bs := hdB l) (sp := false) h6.1 h6.2)
  have hhl : (hdB l).length = 3 := by simp [hdB, leB_length]
  have hbl := bodyB_length hpu
  rw [hV]
  have q1 : (l.kind == 1) = false := by rw [hk]; rfl
  have q2 : (l.kind == 2) = true := by rw [hk]; rfl
  have q3 : (l.kind == 3) = false := by rw [hk]; rfl
  have q4 : (l.kind == 4) = false := by rw [hk]; rfl
  have q5 : (l.kind == 5) = false := by rw [hk]; rfl
  have q6 : (l.kind == 6) = false := by rw [hk]; rfl
  have q7 : (l.kind == 7) = false := by rw [hk]; rfl
  have q8 : (l.kind == 8) = false := by rw [hk]; rfl
  have HBB := Lib.hid (show bodyB l = [yesI l.yes] by simp [bodyB, hk])
  clear hin hV hk0 hf ht h6 hpu hk hr
  go_enter Tryz.func8, Tryz.ntmps8
  go_wp2_with (refine wpList_load_let rfl _ rfl w.heap.size l rfl (heap_alloc_new w _) ?_)
  refine (HC.out _ ((Ext.refl w).alloc _)).mono ?_
  rintro e w5 ⟨rfl, hE5⟩
  have g0 := hE5.blk (heap_alloc_new w _)
  have hlt := heap_lt g0
  have r0 := cell_of_heap g0
  have HE5 := Lib.hid (((Ext.refl w).alloc _).trans hE5)
  have HG0 := Lib.hid g0
  have HI5 := Lib.hid ((HI.out.ext HE5.out).ext ((Ext.refl w5).alloc (.cells #[.slice none 0 0, .bool false] 68)))
  have HOF := Lib.hid ((HI.out.ext HE5.out).offNew (Nat.le_refl _))
  have hsz5 := HE5.out.sz
  clear g0 hE5
  go_wp2_with fail
  have hW0 := Wr.new 68 w5
  have hr0 := rd_lit (w5.alloc (.cells #[.slice none 0 0, .bool false] 68)) [.int .i64 l.kind, .int .i64 l.frm, .int .i64 l.too] 3
  have ho0 := off_new hW0
  rw [World.size_alloc] at hr0 ho0
  have P0a := (WP.start hW0).ext ((Ext.refl _).alloc (.cells #[.int .i64 l.kind, .int .i64 l.frm, .int .i64 l.too] 3))
  refine (rfields_any w5.heap.size w5.heap.size none 0 [] false 1 (some ⟨w5.heap.size + 1, 0, none⟩) 3 [l.kind, l.frm, l.too] _ P0a.1 (by simp; omega) hr0 (fun _ => ho0) (by simp)).mono ?_
  rintro e w6 ⟨rfl, hS1⟩
  rw [H1.out] at hS1
  obtain ⟨A1, c1_, P1⟩ := P0a.step hS1
  clear hS1 P0a hr0 ho0 hW0
  have g1 := (P1.heap (i := w.heap.size) (by simp; omega) (by rintro (h | h); · omega
                                                              · simp [blk] at h)).trans ((heap_alloc_old w5 _ hlt).trans HG0.out)
  have z1 := P1.size
  rw [World.size_alloc] at z1
  clear r0
  have r0 := cell_of_heap g1
  have HP1 := Lib.hid P1
  clear g1 P1
  go_wp2_with fail
  refine (rfield_any w5.heap.size w5.heap.size _ _ _ false 6 l.term _ HP1.out.1 (by omega) (by first | omega | (simp [leB_length, idB_length, idsB_length]; omega))).mono ?_
  rintro e w7 ⟨rfl, hS2⟩
  rw [H2.out] at hS2
  obtain ⟨A2, c2_, P2⟩ := HP1.out.step hS2
  clear hS2
  have g2 := (P2.heap (i := w.heap.size) (by simp; omega) (by rintro (h | h); · omega
                                                              · simp [blk] at h)).trans ((heap_alloc_old w5 _ hlt).trans HG0.out)
  have z2 := P2.size
  rw [World.size_alloc] at z2
  clear r0
  have r0 := cell_of_heap g2
  have HP2 := Lib.hid P2
  clear g2 P2
  go_wp2_with fail
  refine (ryes_put w5.heap.size w5.heap.size _ _ _ l.yes _ HP2.out.1 (by omega) (by first | omega | (simp [leB_length, idB_length, idsB_length]; omega))).mono ?_
  rintro e w8 ⟨rfl, hS3⟩
  obtain ⟨A3, c3_, P3⟩ := HP2.out.step hS3
  clear hS3
  have g3 := (P3.heap (i := w.heap.size) (by simp; omega) (by rintro (h | h); · omega
                                                              · simp [blk] at h)).trans ((heap_alloc_old w5 _ hlt).trans HG0.out)
  have z3 := P3.size
  rw [World.size_alloc] at z3
  clear r0
  have r0 := cell_of_heap g3
  have HP3 := Lib.hid P3
  clear g3 P3
  have HPE : Hid (putB l = hdB l ++ leB 6 l.term ++ [yesI l.yes]) := Lib.hid (by unfold putB; rw [HBB.out]; try simp [List.append_assoc])
  have hq := HP3.out
  rw [← HPE.out] at hq
  have HQ := Lib.hid hq
  have hpl : (putB l).length ≤ 1000000 := by rw [show putB l = hdB l ++ leB 6 l.term ++ bodyB l from rfl]; simp [leB_length]; omega
  clear hq HP3
  go_wp2_with fail
  refine (rbytes_any w5.heap.size w5.heap.size _ _ (putB l) false _ HQ.out.1 (by omega)).mono ?_
  rintro e w20 ⟨A20, c20, rfl, hO20, hS20⟩
  obtain ⟨A21, c21, P21⟩ := HQ.out.step hS20
  have HE20 : Hid (Ext w w20) := Lib.hid (HE5.out.trans (Below.trans ((Ext.refl w5).alloc _) (P21.2.1.below (by simp) (by
    rintro i (rfl | hi)
    · exact Nat.le_refl _
    · simp [blk] at hi))))
  simp only [Bool.false_eq_true, if_false] at hO20
  have hszE : w.heap.size ≤ w8.heap.size := by omega
  clear hS20 P21 r0
  go_wp2_with fail
  go_ret2
  exact ⟨A20, c20, by rw [HX.out.1, HX.out.2]; rfl, by rw [HX.out.1]; exact hO20.lower hszE, HE20.out⟩

set_option maxRecDepth 100000 in
set_option maxHeartbeats 4000000 in
theorem rput_3 (l : Let) (hr : rightL l = true) (hk : l.kind = 3) (w : World) (hin : l.inW w) : Calls Tryz.prog 8 #[l.v] w (Puts l w) := by
  have HC := Lib.hid (fun w' (h : Ext w w') => rrightL_any l w' (hin.ext h))
  rw [hr] at HC
  have HI := Lib.hid hin
  have hV : l.v = .agg l.arr := rfl
  have HX : Hid (putX l = putB l ∧ putN l = 0) := Lib.hid (by simp [putX, putN, hr])
  obtain ⟨hk0, hf, ht, h6⟩ := right_head hr
  have hpu := puts_of_right hr hin.u3
  have H1 := Lib.hid (rhd_eq l (by unfold num1; omega) (by unfold num1; omega) (by unfold num1; omega))
  have H2 := Lib.hid (rf_6 (bs := hdB l) (sp := false) h6.1 h6.2)
  have hhl : (hdB l).length = 3 := by simp [hdB, leB_length]
  have hbl := bodyB_length hpu
  rw [hV]
  have q1 : (l.kind == 1) = false := by rw [hk]; rfl
  have q2 : (l.kind == 2) = false := by rw [hk]; rfl
  have q3 : (l.kind == 3) = true := by rw [hk]; rfl
  have q4 : (l.kind == 4) = false := by rw [hk]; rfl
  have q5 : (l.kind == 5) = false := by rw [hk]; rfl
  have q6 : (l.kind == 6) = false := by rw [hk]; rfl
  have q7 : (l.kind == 7) = false := by rw [hk]; rfl
  have q8 : (l.kind == 8) = false := by rw [hk]; rfl
  have HBB := Lib.hid (show bodyB l = idB l.prev ++ leB 6 l.commit ++ entsR l.ents by simp [bodyB, hk])
  have HK := Lib.hid (hpu.k3 hk)
  clear hin hV hk0 hf ht h6 hpu hk hr
  go_enter Tryz.func8, Tryz.ntmps8
  go_wp2_with (refine wpList_load_let rfl _ rfl w.heap.size l rfl (heap_alloc_new w _) ?_)
  refine (HC.out _ ((Ext.refl w).alloc _)).mono ?_
  rintro e w5 ⟨rfl, hE5⟩
  have g0 := hE5.blk (heap_alloc_new w _)
  have hlt := heap_lt g0
  have r0 := cell_of_heap g0
  have HE5 := Lib.hid (((Ext.refl w).alloc _).trans hE5)
  have HG0 := Lib.hid g0
  have HI5 := Lib.hid ((HI.out.ext HE5.out).ext ((Ext.refl w5).alloc (.cells #[.slice none 0 0, .bool false] 68)))
  have HOF := Lib.hid ((HI.out.ext HE5.out).offNew (Nat.le_refl _))
  have hsz5 := HE5.out.sz
  clear g0 hE5
  go_wp2_with fail
  have hW0 := Wr.new 68 w5
  have hr0 := rd_lit (w5.alloc (.cells #[.slice none 0 0, .bool false] 68)) [.int .i64 l.kind, .int .i64 l.frm, .int .i64 l.too] 3
  have ho0 := off_new hW0
  rw [World.size_alloc] at hr0 ho0
  have P0a := (WP.start hW0).ext ((Ext.refl _).alloc (.cells #[.int .i64 l.kind, .int .i64 l.frm, .int .i64 l.too] 3))
  refine (rfields_any w5.heap.size w5.heap.size none 0 [] false 1 (some ⟨w5.heap.size + 1, 0, none⟩) 3 [l.kind, l.frm, l.too] _ P0a.1 (by simp; omega) hr0 (fun _ => ho0) (by simp)).mono ?_
  rintro e w6 ⟨rfl, hS1⟩
  rw [H1.out] at hS1
  obtain ⟨A1, c1_, P1⟩ := P0a.step hS1
  clear hS1 P0a hr0 ho0 hW0
  have g1 := (P1.heap (i := w.heap.size) (by simp; omega) (by rintro (h | h); · omega
                                                              · simp [blk] at h)).trans ((heap_alloc_old w5 _ hlt).trans HG0.out)
  have z1 := P1.size
  rw [World.size_alloc] at z1
  clear r0
  have r0 := cell_of_heap g1
  have HP1 := Lib.hid P1
  clear g1 P1
  go_wp2_with fail
  refine (rfield_any w5.heap.size w5.heap.size _ _ _ false 6 l.term _ HP1.out.1 (by omega) (by first | omega | (simp [leB_length, idB_length, idsB_length]; omega))).mono ?_
  rintro e w7 ⟨rfl, hS2⟩
  rw [H2.out] at hS2
  obtain ⟨A2, c2_, P2⟩ := HP1.out.step hS2
  clear hS2
  have g2 := (P2.heap (i := w.heap.size) (by simp; omega) (by rintro (h | h); · omega
                                                              · simp [blk] at h)).trans ((heap_alloc_old w5 _ hlt).trans HG0.out)
  have z2 := P2.size
  rw [World.size_alloc] at z2
  clear r0
  have r0 := cell_of_heap g2
  have HP2 := Lib.hid P2
  clear g2 P2
  go_wp2_with fail
  refine (rident_put w5.heap.size w5.heap.size _ _ _ l.prev HK.out.1 _ HP2.out.1 (by omega) (by first | omega | (simp [leB_length, idB_length, idsB_length]; omega))).mono ?_
  rintro e w8 ⟨rfl, hS3⟩
  obtain ⟨A3, c3_, P3⟩ := HP2.out.step hS3
  clear hS3
  have g3 := (P3.heap (i := w.heap.size) (by simp; omega) (by rintro (h | h); · omega
                                                              · simp [blk] at h)).trans ((heap_alloc_old w5 _ hlt).trans HG0.out)
  have z3 := P3.size
  rw [World.size_alloc] at z3
  clear r0
  have r0 := cell_of_heap g3
  have HP3 := Lib.hid P3
  clear g3 P3
  go_wp2_with fail
  refine (rfield_any w5.heap.size w5.heap.size _ _ _ false 6 l.commit _ HP3.out.1 (by omega) (by first | omega | (simp [leB_length, idB_length, idsB_length]; omega))).mono ?_
  rintro e w9 ⟨rfl, hS4⟩
  rw [rf_6 HK.out.2.1.1 HK.out.2.1.2] at hS4
  obtain ⟨A4, c4_, P4⟩ := HP3.out.step hS4
  clear hS4
  have g4 := (P4.heap (i := w.heap.size) (by simp; omega) (by rintro (h | h); · omega
                                                              · simp [blk] at h)).trans ((heap_alloc_old w5 _ hlt).trans HG0.out)
  have z4 := P4.size
  rw [World.size_alloc] at z4
  clear r0
  have r0 := cell_of_heap g4
  have HP4 := Lib.hid P4
  clear g4 P4
  go_wp2_with fail
  refine (rentries_put w5.heap.size w5.heap.size _ _ _ l.eA l.ec l.ents HK.out.2.2.2 HK.out.2.2.1 _ HP4.out.1 (by omega) (by first | omega | (simp [leB_length, idB_length, idsB_length]; omega)) (HI5.out.e1.fr HP4.out.2.1 HOF.out.e1 HOF.out.e2) (HOF.out.grow HI5.out HP4.out.2.2).e1 (HOF.out.grow HI5.out HP4.out.2.2).e2).mono ?_
  rintro e w10 ⟨rfl, hS5⟩
  obtain ⟨A5, c5_, P5⟩ := HP4.out.step hS5
  clear hS5
  have g5 := (P5.heap (i := w.heap.size) (by simp; omega) (by rintro (h | h); · omega
                                                              · simp [blk] at h)).trans ((heap_alloc_old w5 _ hlt).trans HG0.out)
  have z5 := P5.size
  rw [World.size_alloc] at z5
  clear r0
  have r0 := cell_of_heap g5
  have HP5 := Lib.hid P5
  clear g5 P5
  have HPE : Hid (putB l = hdB l ++ leB 6 l.term ++ idB l.prev ++ leB 6 l.commit ++ leB 1 l.ents.length ++ entsB l.ents) := Lib.hid (by unfold putB; rw [HBB.out]; try simp [entsR])
  have hq := HP5.out
  rw [← HPE.out] at hq
  have HQ := Lib.hid hq
  have hpl : (putB l).length ≤ 1000000 := by rw [show putB l = hdB l ++ leB 6 l.term ++ bodyB l from rfl]; simp [leB_length]; omega
  clear hq HP5
  go_wp2_with fail
  refine (rbytes_any w5.heap.size w5.heap.size _ _ (putB l) false _ HQ.out.1 (by omega)).mono ?_
  rintro e w20 ⟨A20, c20, rfl, hO20, hS20⟩
  obtain ⟨A21, c21, P21⟩ := HQ.out.step hS20
  have HE20 : Hid (Ext w w20) := Lib.hid (HE5.out.trans (Below.trans ((Ext.refl w5).alloc _) (P21.2.1.below (by simp) (by
    rintro i (rfl | hi)
    · exact Nat.le_refl _
    · simp [blk] at hi))))
  simp only [Bool.false_eq_true, if_false] at hO20
  have hszE : w.heap.size ≤ w10.heap.size := by omega
  clear hS20 P21 r0
  go_wp2_with fail
  go_ret2
  exact ⟨A20, c20, by rw [HX.out.1, HX.out.2]; rfl, by rw [HX.out.1]; exact hO20.lower hszE, HE20.out⟩

set_option maxRecDepth 100000 in
set_option maxHeartbeats 4000000 in
theorem rput_4 (l : Let) (hr : rightL l = true) (hk : l.kind = 4) (w : World) (hin : l.inW w) : Calls Tryz.prog 8 #[l.v] w (Puts l w) := by
  have HC := Lib.hid (fun w' (h : Ext w w') => rrightL_any l w' (hin.ext h))
  rw [hr] at HC
  have HI := Lib.hid hin
  have hV : l.v = .agg l.arr := rfl
  have HX : Hid (putX l = putB l ∧ putN l = 0) := Lib.hid (by simp [putX, putN, hr])
  obtain ⟨hk0, hf, ht, h6⟩ := right_head hr
  have hpu := puts_of_right hr hin.u3
  have H1 := Lib.hid (rhd_eq l (by unfold num1; omega) (by unfold num1; omega) (by unfold num1; omega))
  have H2 := Lib.hid (rf_6 (bs := hdB l) (sp := false) h6.1 h6.2)
  have hhl : (hdB l).length = 3 := by simp [hdB, leB_length]
  have hbl := bodyB_length hpu
  rw [hV]
  have q1 : (l.kind == 1) = false := by rw [hk]; rfl
  have q2 : (l.kind == 2) = false := by rw [hk]; rfl
  have q3 : (l.kind == 3) = false := by rw [hk]; rfl
  have q4 : (l.kind == 4) = true := by rw [hk]; rfl
  have q5 : (l.kind == 5) = false := by rw [hk]; rfl
  have q6 : (l.kind == 6) = false := by rw [hk]; rfl
  have q7 : (l.kind == 7) = false := by rw [hk]; rfl
  have q8 : (l.kind == 8) = false := by rw [hk]; rfl
  have HBB := Lib.hid (show bodyB l = leB 6 l.index ++ [yesI l.yes] by simp [bodyB, hk])
  have HK := Lib.hid (hpu.k4 hk)
  clear hin hV hk0 hf ht h6 hpu hk hr
  go_enter Tryz.func8, Tryz.ntmps8
  go_wp2_with (refine wpList_load_let rfl _ rfl w.heap.size l rfl (heap_alloc_new w _) ?_)
  refine (HC.out _ ((Ext.refl w).alloc _)).mono ?_
  rintro e w5 ⟨rfl, hE5⟩
  have g0 := hE5.blk (heap_alloc_new w _)
  have hlt := heap_lt g0
  have r0 := cell_of_heap g0
  have HE5 := Lib.hid (((Ext.refl w).alloc _).trans hE5)
  have HG0 := Lib.hid g0
  have HI5 := Lib.hid ((HI.out.ext HE5.out).ext ((Ext.refl w5).alloc (.cells #[.slice none 0 0, .bool false] 68)))
  have HOF := Lib.hid ((HI.out.ext HE5.out).offNew (Nat.le_refl _))
  have hsz5 := HE5.out.sz
  clear g0 hE5
  go_wp2_with fail
  have hW0 := Wr.new 68 w5
  have hr0 := rd_lit (w5.alloc (.cells #[.slice none 0 0, .bool false] 68)) [.int .i64 l.kind, .int .i64 l.frm, .int .i64 l.too] 3
  have ho0 := off_new hW0
  rw [World.size_alloc] at hr0 ho0
  have P0a := (WP.start hW0).ext ((Ext.refl _).alloc (.cells #[.int .i64 l.kind, .int .i64 l.frm, .int .i64 l.too] 3))
  refine (rfields_any w5.heap.size w5.heap.size none 0 [] false 1 (some ⟨w5.heap.size + 1, 0, none⟩) 3 [l.kind, l.frm, l.too] _ P0a.1 (by simp; omega) hr0 (fun _ => ho0) (by simp)).mono ?_
  rintro e w6 ⟨rfl, hS1⟩
  rw [H1.out] at hS1
  obtain ⟨A1, c1_, P1⟩ := P0a.step hS1
  clear hS1 P0a hr0 ho0 hW0
  have g1 := (P1.heap (i := w.heap.size) (by simp; omega) (by rintro (h | h); · omega
                                                              · simp [blk] at h)).trans ((heap_alloc_old w5 _ hlt).trans HG0.out)
  have z1 := P1.size
  rw [World.size_alloc] at z1
  clear r0
  have r0 := cell_of_heap g1
  have HP1 := Lib.hid P1
  clear g1 P1
  go_wp2_with fail
  refine (rfield_any w5.heap.size w5.heap.size _ _ _ false 6 l.term _ HP1.out.1 (by omega) (by first | omega | (simp [leB_length, idB_length, idsB_length]; omega))).mono ?_
  rintro e w7 ⟨rfl, hS2⟩
  rw [H2.out] at hS2
  obtain ⟨A2, c2_, P2⟩ := HP1.out.step hS2
  clear hS2
  have g2 := (P2.heap (i := w.heap.size) (by simp; omega) (by rintro (h | h); · omega
                                                              · simp [blk] at h)).trans ((heap_alloc_old w5 _ hlt).trans HG0.out)
  have z2 := P2.size
  rw [World.size_alloc] at z2
  clear r0
  have r0 := cell_of_heap g2
  have HP2 := Lib.hid P2
  clear g2 P2
  go_wp2_with fail
  refine (rfield_any w5.heap.size w5.heap.size _ _ _ false 6 l.index _ HP2.out.1 (by omega) (by first | omega | (simp [leB_length, idB_length, idsB_length]; omega))).mono ?_
  rintro e w8 ⟨rfl, hS3⟩
  rw [rf_6 HK.out.1 HK.out.2] at hS3
  obtain ⟨A3, c3_, P3⟩ := HP2.out.step hS3
  clear hS3
  have g3 := (P3.heap (i := w.heap.size) (by simp; omega) (by rintro (h | h); · omega
                                                              · simp [blk] at h)).trans ((heap_alloc_old w5 _ hlt).trans HG0.out)
  have z3 := P3.size
  rw [World.size_alloc] at z3
  clear r0
  have r0 := cell_of_heap g3
  have HP3 := Lib.hid P3
  clear g3 P3
  go_wp2_with fail
  refine (ryes_put w5.heap.size w5.heap.size _ _ _ l.yes _ HP3.out.1 (by omega) (by first | omega | (simp [leB_length, idB_length, idsB_length]; omega))).mono ?_
  rintro e w9 ⟨rfl, hS4⟩
  obtain ⟨A4, c4_, P4⟩ := HP3.out.step hS4
  clear hS4
  have g4 := (P4.heap (i := w.heap.size) (by simp; omega) (by rintro (h | h); · omega
                                                              · simp [blk] at h)).trans ((heap_alloc_old w5 _ hlt).trans HG0.out)
  have z4 := P4.size
  rw [World.size_alloc] at z4
  clear r0
  have r0 := cell_of_heap g4
  have HP4 := Lib.hid P4
  clear g4 P4
  have HPE : Hid (putB l = hdB l ++ leB 6 l.term ++ leB 6 l.index ++ [yesI l.yes]) := Lib.hid (by unfold putB; rw [HBB.out]; try simp [List.append_assoc])
  have hq := HP4.out
  rw [← HPE.out] at hq
  have HQ := Lib.hid hq
  have hpl : (putB l).length ≤ 1000000 := by rw [show putB l = hdB l ++ leB 6 l.term ++ bodyB l from rfl]; simp [leB_length]; omega
  clear hq HP4
  go_wp2_with fail
  refine (rbytes_any w5.heap.size w5.heap.size _ _ (putB l) false _ HQ.out.1 (by omega)).mono ?_
  rintro e w20 ⟨A20, c20, rfl, hO20, hS20⟩
  obtain ⟨A21, c21, P21⟩ := HQ.out.step hS20
  have HE20 : Hid (Ext w w20) := Lib.hid (HE5.out.trans (Below.trans ((Ext.refl w5).alloc _) (P21.2.1.below (by simp) (by
    rintro i (rfl | hi)
    · exact Nat.le_refl _
    · simp [blk] at hi))))
  simp only [Bool.false_eq_true, if_false] at hO20
  have hszE : w.heap.size ≤ w9.heap.size := by omega
  clear hS20 P21 r0
  go_wp2_with fail
  go_ret2
  exact ⟨A20, c20, by rw [HX.out.1, HX.out.2]; rfl, by rw [HX.out.1]; exact hO20.lower hszE, HE20.out⟩
end Go.Proofs.YtcapapnhlkmeaaaGreatDoor
namespace Go.Proofs.YtcapapnhlkmeaaaGreatDoor
open Go.RowKit

set_option maxRecDepth 100000 in
set_option maxHeartbeats 4000000 in
theorem rput_5 (l : Let) (hr : rightL l = true) (hk : l.kind = 5) (w : World) (hin : l.inW w) : Calls Tryz.prog 8 #[l.v] w (Puts l w) := by
  have HC := Lib.hid (fun w' (h : Ext w w') => rrightL_any l w' (hin.ext h))
  rw [hr] at HC
  have HI := Lib.hid hin
  have hV : l.v = .agg l.arr := rfl
  have HX : Hid (putX l = putB l ∧ putN l = 0) := Lib.hid (by simp [putX, putN, hr])
  obtain ⟨hk0, hf, ht, h6⟩ := right_head hr
  have hpu := puts_of_right hr hin.u3
  have H1 := Lib.hid (rhd_eq l (by unfold num1; omega) (by unfold num1; omega) (by unfold num1; omega))
  have H2 := Lib.hid (rf_6 (bs := hdB l) (sp := false) h6.1 h6.2)
  have hhl : (hdB l).length = 3 := by simp [hdB, leB_length]
  have hbl := bodyB_length hpu
  rw [hV]
  have q1 : (l.kind == 1) = false := by rw [hk]; rfl
  have q2 : (l.kind == 2) = false := by rw [hk]; rfl
  have q3 : (l.kind == 3) = false := by rw [hk]; rfl
  have q4 : (l.kind == 4) = false := by rw [hk]; rfl
  have q5 : (l.kind == 5) = true := by rw [hk]; rfl
  have q6 : (l.kind == 6) = false := by rw [hk]; rfl
  have q7 : (l.kind == 7) = false := by rw [hk]; rfl
  have q8 : (l.kind == 8) = false := by rw [hk]; rfl
  have HBB := Lib.hid (show bodyB l = carryB l by simp [bodyB, hk])
  have HK := Lib.hid (hpu.k5 hk)
  clear hin hV hk0 hf ht h6 hpu hk hr
  go_enter Tryz.func8, Tryz.ntmps8
  go_wp2_with (refine wpList_load_let rfl _ rfl w.heap.size l rfl (heap_alloc_new w _) ?_)
  refine (HC.out _ ((Ext.refl w).alloc _)).mono ?_
  rintro e w5 ⟨rfl, hE5⟩
  have g0 := hE5.blk (heap_alloc_new w _)
  have hlt := heap_lt g0
  have r0 := cell_of_heap g0
  have HE5 := Lib.hid (((Ext.refl w).alloc _).trans hE5)
  have HG0 := Lib.hid g0
  have HI5 := Lib.hid ((HI.out.ext HE5.out).ext ((Ext.refl w5).alloc (.cells #[.slice none 0 0, .bool false] 68)))
  have HOF := Lib.hid ((HI.out.ext HE5.out).offNew (Nat.le_refl _))
  have hsz5 := HE5.out.sz
  clear g0 hE5
  go_wp2_with fail
  have hW0 := Wr.new 68 w5
  have hr0 := rd_lit (w5.alloc (.cells #[.slice none 0 0, .bool false] 68)) [.int .i64 l.kind, .int .i64 l.frm, .int .i64 l.too] 3
  have ho0 := off_new hW0
  rw [World.size_alloc] at hr0 ho0
  have P0a := (WP.start hW0).ext ((Ext.refl _).alloc (.cells #[.int .i64 l.kind, .int .i64 l.frm, .int .i64 l.too] 3))
  refine (rfields_any w5.heap.size w5.heap.size none 0 [] false 1 (some ⟨w5.heap.size + 1, 0, none⟩) 3 [l.kind, l.frm, l.too] _ P0a.1 (by simp; omega) hr0 (fun _ => ho0) (by simp)).mono ?_
  rintro e w6 ⟨rfl, hS1⟩
  rw [H1.out] at hS1
  obtain ⟨A1, c1_, P1⟩ := P0a.step hS1
  clear hS1 P0a hr0 ho0 hW0
  have g1 := (P1.heap (i := w.heap.size) (by simp; omega) (by rintro (h | h); · omega
                                                              · simp [blk] at h)).trans ((heap_alloc_old w5 _ hlt).trans HG0.out)
  have z1 := P1.size
  rw [World.size_alloc] at z1
  clear r0
  have r0 := cell_of_heap g1
  have HP1 := Lib.hid P1
  clear g1 P1
  go_wp2_with fail
  refine (rfield_any w5.heap.size w5.heap.size _ _ _ false 6 l.term _ HP1.out.1 (by omega) (by first | omega | (simp [leB_length, idB_length, idsB_length]; omega))).mono ?_
  rintro e w7 ⟨rfl, hS2⟩
  rw [H2.out] at hS2
  obtain ⟨A2, c2_, P2⟩ := HP1.out.step hS2
  clear hS2
  have g2 := (P2.heap (i := w.heap.size) (by simp; omega) (by rintro (h | h); · omega
                                                              · simp [blk] at h)).trans ((heap_alloc_old w5 _ hlt).trans HG0.out)
  have z2 := P2.size
  rw [World.size_alloc] at z2
  clear r0
  have r0 := cell_of_heap g2
  have HP2 := Lib.hid P2
  clear g2 P2
  go_wp2_with fail
  refine (rsnap_put w5.heap.size w5.heap.size _ _ _ l HK.out _ HP2.out.1 (by omega) (by first | omega | (simp [leB_length, idB_length, idsB_length]; omega)) (HI5.out.fr HP2.out.2.1 HOF.out) (HOF.out.grow HI5.out HP2.out.2.2)).mono ?_
  rintro e w8 ⟨rfl, hS3⟩
  obtain ⟨A3, c3_, P3⟩ := HP2.out.step hS3
  clear hS3
  have g3 := (P3.heap (i := w.heap.size) (by simp; omega) (by rintro (h | h); · omega
                                                              · simp [blk] at h)).trans ((heap_alloc_old w5 _ hlt).trans HG0.out)
  have z3 := P3.size
  rw [World.size_alloc] at z3
  clear r0
  have r0 := cell_of_heap g3
  have HP3 := Lib.hid P3
  clear g3 P3
  have lsn := snapB_length l HK.out
  go_wp2_with fail
  refine (rfield_any w5.heap.size w5.heap.size _ _ _ false 1 l.piece _ HP3.out.1 (by omega) (by simp [leB_length, idB_length, idsB_length]; omega)).mono ?_
  rintro e w9 ⟨rfl, hS4⟩
  rw [rf_1 HK.out.f7.1 HK.out.f7.2] at hS4
  obtain ⟨A4, c4_, P4⟩ := HP3.out.step hS4
  clear hS4
  have g4 := (P4.heap (i := w.heap.size) (by simp; omega) (by rintro (h | h); · omega
                                                              · simp [blk] at h)).trans ((heap_alloc_old w5 _ hlt).trans HG0.out)
  have z4 := P4.size
  rw [World.size_alloc] at z4
  clear r0
  have r0 := cell_of_heap g4
  have HP4 := Lib.hid P4
  clear g4 P4
  have h8 := HK.out.f8
  go_wp2_with fail
  refine (rtext_any w5.heap.size w5.heap.size _ _ _ false l.bA l.bc l.bs _ HP4.out.1 (by omega) (HP4.out.rd HI5.out.b1 HOF.out.b1) (HP4.out.off HI5.out.b1 HOF.out.b1) (by simp [leB_length, idB_length, idsB_length]; omega)).mono ?_
  rintro e w10 ⟨rfl, hS5⟩
  rw [rtext_all _ _ HK.out.f8] at hS5
  obtain ⟨A5, c5_, P5⟩ := HP4.out.step hS5
  clear hS5
  have g5 := (P5.heap (i := w.heap.size) (by simp; omega) (by rintro (h | h); · omega
                                                              · simp [blk] at h)).trans ((heap_alloc_old w5 _ hlt).trans HG0.out)
  have z5 := P5.size
  rw [World.size_alloc] at z5
  clear r0
  have r0 := cell_of_heap g5
  have HP5 := Lib.hid P5
  clear g5 P5
  have HPE : Hid (putB l = hdB l ++ leB 6 l.term ++ snapB l ++ leB 1 l.piece ++ textB l.bs) := Lib.hid (by unfold putB; rw [HBB.out]; try simp [carryB, snapB])
  have hq := HP5.out
  rw [← HPE.out] at hq
  have HQ := Lib.hid hq
  have hpl : (putB l).length ≤ 1000000 := by rw [show putB l = hdB l ++ leB 6 l.term ++ bodyB l from rfl]; simp [leB_length]; omega
  clear hq HP5
  go_wp2_with fail
  refine (rbytes_any w5.heap.size w5.heap.size _ _ (putB l) false _ HQ.out.1 (by omega)).mono ?_
  rintro e w20 ⟨A20, c20, rfl, hO20, hS20⟩
  obtain ⟨A21, c21, P21⟩ := HQ.out.step hS20
  have HE20 : Hid (Ext w w20) := Lib.hid (HE5.out.trans (Below.trans ((Ext.refl w5).alloc _) (P21.2.1.below (by simp) (by
    rintro i (rfl | hi)
    · exact Nat.le_refl _
    · simp [blk] at hi))))
  simp only [Bool.false_eq_true, if_false] at hO20
  have hszE : w.heap.size ≤ w10.heap.size := by omega
  clear hS20 P21 r0
  go_wp2_with fail
  go_ret2
  exact ⟨A20, c20, by rw [HX.out.1, HX.out.2]; rfl, by rw [HX.out.1]; exact hO20.lower hszE, HE20.out⟩

set_option maxRecDepth 100000 in
set_option maxHeartbeats 4000000 in
theorem rput_6 (l : Let) (hr : rightL l = true) (hk : l.kind = 6) (w : World) (hin : l.inW w) : Calls Tryz.prog 8 #[l.v] w (Puts l w) := by
  have HC := Lib.hid (fun w' (h : Ext w w') => rrightL_any l w' (hin.ext h))
  rw [hr] at HC
  have HI := Lib.hid hin
  have hV : l.v = .agg l.arr := rfl
  have HX : Hid (putX l = putB l ∧ putN l = 0) := Lib.hid (by simp [putX, putN, hr])
  obtain ⟨hk0, hf, ht, h6⟩ := right_head hr
  have hpu := puts_of_right hr hin.u3
  have H1 := Lib.hid (rhd_eq l (by unfold num1; omega) (by unfold num1; omega) (by unfold num1; omega))
  have H2 := Lib.hid (rf_6 (bs := hdB l) (sp := false) h6.1 h6.2)
  have hhl : (hdB l).length = 3 := by simp [hdB, leB_length]
  have hbl := bodyB_length hpu
  rw [hV]
  have q1 : (l.kind == 1) = false := by rw [hk]; rfl
  have q2 : (l.kind == 2) = false := by rw [hk]; rfl
  have q3 : (l.kind == 3) = false := by rw [hk]; rfl
  have q4 : (l.kind == 4) = false := by rw [hk]; rfl
  have q5 : (l.kind == 5) = false := by rw [hk]; rfl
  have q6 : (l.kind == 6) = true := by rw [hk]; rfl
  have q7 : (l.kind == 7) = false := by rw [hk]; rfl
  have q8 : (l.kind == 8) = false := by rw [hk]; rfl
  have HBB := Lib.hid (show bodyB l = idB l.last ++ leB 1 l.piece ++ [yesI l.yes] by simp [bodyB, hk])
  have HK := Lib.hid (hpu.k6 hk)
  clear hin hV hk0 hf ht h6 hpu hk hr
  go_enter Tryz.func8, Tryz.ntmps8
  go_wp2_with (refine wpList_load_let rfl _ rfl w.heap.size l rfl (heap_alloc_new w _) ?_)
  refine (HC.out _ ((Ext.refl w).alloc _)).mono ?_
  rintro e w5 ⟨rfl, hE5⟩
  have g0 := hE5.blk (heap_alloc_new w _)
  have hlt := heap_lt g0
  have r0 := cell_of_heap g0
  have HE5 := Lib.hid (((Ext.refl w).alloc _).trans hE5)
  have HG0 := Lib.hid g0
  have HI5 := Lib.hid ((HI.out.ext HE5.out).ext ((Ext.refl w5).alloc (.cells #[.slice none 0 0, .bool false] 68)))
  have HOF := Lib.hid ((HI.out.ext HE5.out).offNew (Nat.le_refl _))
  have hsz5 := HE5.out.sz
  clear g0 hE5
  go_wp2_with fail
  have hW0 := Wr.new 68 w5
  have hr0 := rd_lit (w5.alloc (.cells #[.slice none 0 0, .bool false] 68)) [.int .i64 l.kind, .int .i64 l.frm, .int .i64 l.too] 3
  have ho0 := off_new hW0
  rw [World.size_alloc] at hr0 ho0
  have P0a := (WP.start hW0).ext ((Ext.refl _).alloc (.cells #[.int .i64 l.kind, .int .i64 l.frm, .int .i64 l.too] 3))
  refine (rfields_any w5.heap.size w5.heap.size none 0 [] false 1 (some ⟨w5.heap.size + 1, 0, none⟩) 3 [l.kind, l.frm, l.too] _ P0a.1 (by simp; omega) hr0 (fun _ => ho0) (by simp)).mono ?_
  rintro e w6 ⟨rfl, hS1⟩
  rw [H1.out] at hS1
  obtain ⟨A1, c1_, P1⟩ := P0a.step hS1
  clear hS1 P0a hr0 ho0 hW0
  have g1 := (P1.heap (i := w.heap.size) (by simp; omega) (by rintro (h | h); · omega
                                                              · simp [blk] at h)).trans ((heap_alloc_old w5 _ hlt).trans HG0.out)
  have z1 := P1.size
  rw [World.size_alloc] at z1
  clear r0
  have r0 := cell_of_heap g1
  have HP1 := Lib.hid P1
  clear g1 P1
  go_wp2_with fail
  refine (rfield_any w5.heap.size w5.heap.size _ _ _ false 6 l.term _ HP1.out.1 (by omega) (by first | omega | (simp [leB_length, idB_length, idsB_length]; omega))).mono ?_
  rintro e w7 ⟨rfl, hS2⟩
  rw [H2.out] at hS2
  obtain ⟨A2, c2_, P2⟩ := HP1.out.step hS2
  clear hS2
  have g2 := (P2.heap (i := w.heap.size) (by simp; omega) (by rintro (h | h); · omega
                                                              · simp [blk] at h)).trans ((heap_alloc_old w5 _ hlt).trans HG0.out)
  have z2 := P2.size
  rw [World.size_alloc] at z2
  clear r0
  have r0 := cell_of_heap g2
  have HP2 := Lib.hid P2
  clear g2 P2
  go_wp2_with fail
  refine (rident_put w5.heap.size w5.heap.size _ _ _ l.last HK.out.1 _ HP2.out.1 (by omega) (by first | omega | (simp [leB_length, idB_length, idsB_length]; omega))).mono ?_
  rintro e w8 ⟨rfl, hS3⟩
  obtain ⟨A3, c3_, P3⟩ := HP2.out.step hS3
  clear hS3
  have g3 := (P3.heap (i := w.heap.size) (by simp; omega) (by rintro (h | h); · omega
                                                              · simp [blk] at h)).trans ((heap_alloc_old w5 _ hlt).trans HG0.out)
  have z3 := P3.size
  rw [World.size_alloc] at z3
  clear r0
  have r0 := cell_of_heap g3
  have HP3 := Lib.hid P3
  clear g3 P3
  go_wp2_with fail
  refine (rfield_any w5.heap.size w5.heap.size _ _ _ false 1 l.piece _ HP3.out.1 (by omega) (by first | omega | (simp [leB_length, idB_length, idsB_length]; omega))).mono ?_
  rintro e w9 ⟨rfl, hS4⟩
  rw [rf_1 HK.out.2.1 HK.out.2.2] at hS4
  obtain ⟨A4, c4_, P4⟩ := HP3.out.step hS4
  clear hS4
  have g4 := (P4.heap (i := w.heap.size) (by simp; omega) (by rintro (h | h); · omega
                                                              · simp [blk] at h)).trans ((heap_alloc_old w5 _ hlt).trans HG0.out)
  have z4 := P4.size
  rw [World.size_alloc] at z4
  clear r0
  have r0 := cell_of_heap g4
  have HP4 := Lib.hid P4
  clear g4 P4
  go_wp2_with fail
  refine (ryes_put w5.heap.size w5.heap.size _ _ _ l.yes _ HP4.out.1 (by omega) (by first | omega | (simp [leB_length, idB_length, idsB_length]; omega))).mono ?_
  rintro e w10 ⟨rfl, hS5⟩
  obtain ⟨A5, c5_, P5⟩ := HP4.out.step hS5
  clear hS5
  have g5 := (P5.heap (i := w.heap.size) (by simp; omega) (by rintro (h | h); · omega
                                                              · simp [blk] at h)).trans ((heap_alloc_old w5 _ hlt).trans HG0.out)
  have z5 := P5.size
  rw [World.size_alloc] at z5
  clear r0
  have r0 := cell_of_heap g5
  have HP5 := Lib.hid P5
  clear g5 P5
  have HPE : Hid (putB l = hdB l ++ leB 6 l.term ++ idB l.last ++ leB 1 l.piece ++ [yesI l.yes]) := Lib.hid (by unfold putB; rw [HBB.out]; try simp [List.append_assoc])
  have hq := HP5.out
  rw [← HPE.out] at hq
  have HQ := Lib.hid hq
  have hpl : (putB l).length ≤ 1000000 := by rw [show putB l = hdB l ++ leB 6 l.term ++ bodyB l from rfl]; simp [leB_length]; omega
  clear hq HP5
  go_wp2_with fail
  refine (rbytes_any w5.heap.size w5.heap.size _ _ (putB l) false _ HQ.out.1 (by omega)).mono ?_
  rintro e w20 ⟨A20, c20, rfl, hO20, hS20⟩
  obtain ⟨A21, c21, P21⟩ := HQ.out.step hS20
  have HE20 : Hid (Ext w w20) := Lib.hid (HE5.out.trans (Below.trans ((Ext.refl w5).alloc _) (P21.2.1.below (by simp) (by
    rintro i (rfl | hi)
    · exact Nat.le_refl _
    · simp [blk] at hi))))
  simp only [Bool.false_eq_true, if_false] at hO20
  have hszE : w.heap.size ≤ w10.heap.size := by omega
  clear hS20 P21 r0
  go_wp2_with fail
  go_ret2
  exact ⟨A20, c20, by rw [HX.out.1, HX.out.2]; rfl, by rw [HX.out.1]; exact hO20.lower hszE, HE20.out⟩

set_option maxRecDepth 100000 in
set_option maxHeartbeats 4000000 in
theorem rput_7 (l : Let) (hr : rightL l = true) (hk : l.kind = 7) (w : World) (hin : l.inW w) : Calls Tryz.prog 8 #[l.v] w (Puts l w) := by
  have HC := Lib.hid (fun w' (h : Ext w w') => rrightL_any l w' (hin.ext h))
  rw [hr] at HC
  have HI := Lib.hid hin
  have hV : l.v = .agg l.arr := rfl
  have HX : Hid (putX l = putB l ∧ putN l = 0) := Lib.hid (by simp [putX, putN, hr])
  obtain ⟨hk0, hf, ht, h6⟩ := right_head hr
  have hpu := puts_of_right hr hin.u3
  have H1 := Lib.hid (rhd_eq l (by unfold num1; omega) (by unfold num1; omega) (by unfold num1; omega))
  have H2 := Lib.hid (rf_6 (bs := hdB l) (sp := false) h6.1 h6.2)
  have hhl : (hdB l).length = 3 := by simp [hdB, leB_length]
  have hbl := bodyB_length hpu
  rw [hV]
  have q1 : (l.kind == 1) = false := by rw [hk]; rfl
  have q2 : (l.kind == 2) = false := by rw [hk]; rfl
  have q3 : (l.kind == 3) = false := by rw [hk]; rfl
  have q4 : (l.kind == 4) = false := by rw [hk]; rfl
  have q5 : (l.kind == 5) = false := by rw [hk]; rfl
  have q6 : (l.kind == 6) = false := by rw [hk]; rfl
  have q7 : (l.kind == 7) = true := by rw [hk]; rfl
  have q8 : (l.kind == 8) = false := by rw [hk]; rfl
  have HBB := Lib.hid (show bodyB l = idsR l.want ++ idB l.last ++ leB 1 l.piece by simp [bodyB, hk])
  have HK := Lib.hid (hpu.k7 hk)
  have hw255 := HK.out.1.1
  clear hin hV hk0 hf ht h6 hpu hk hr
  go_enter Tryz.func8, Tryz.ntmps8
  go_wp2_with (refine wpList_load_let rfl _ rfl w.heap.size l rfl (heap_alloc_new w _) ?_)
  refine (HC.out _ ((Ext.refl w).alloc _)).mono ?_
  rintro e w5 ⟨rfl, hE5⟩
  have g0 := hE5.blk (heap_alloc_new w _)
  have hlt := heap_lt g0
  have r0 := cell_of_heap g0
  have HE5 := Lib.hid (((Ext.refl w).alloc _).trans hE5)
  have HG0 := Lib.hid g0
  have HI5 := Lib.hid ((HI.out.ext HE5.out).ext ((Ext.refl w5).alloc (.cells #[.slice none 0 0, .bool false] 68)))
  have HOF := Lib.hid ((HI.out.ext HE5.out).offNew (Nat.le_refl _))
  have hsz5 := HE5.out.sz
  clear g0 hE5
  go_wp2_with fail
  have hW0 := Wr.new 68 w5
  have hr0 := rd_lit (w5.alloc (.cells #[.slice none 0 0, .bool false] 68)) [.int .i64 l.kind, .int .i64 l.frm, .int .i64 l.too] 3
  have ho0 := off_new hW0
  rw [World.size_alloc] at hr0 ho0
  have P0a := (WP.start hW0).ext ((Ext.refl _).alloc (.cells #[.int .i64 l.kind, .int .i64 l.frm, .int .i64 l.too] 3))
  refine (rfields_any w5.heap.size w5.heap.size none 0 [] false 1 (some ⟨w5.heap.size + 1, 0, none⟩) 3 [l.kind, l.frm, l.too] _ P0a.1 (by simp; omega) hr0 (fun _ => ho0) (by simp)).mono ?_
  rintro e w6 ⟨rfl, hS1⟩
  rw [H1.out] at hS1
  obtain ⟨A1, c1_, P1⟩ := P0a.step hS1
  clear hS1 P0a hr0 ho0 hW0
  have g1 := (P1.heap (i := w.heap.size) (by simp; omega) (by rintro (h | h); · omega
                                                              · simp [blk] at h)).trans ((heap_alloc_old w5 _ hlt).trans HG0.out)
  have z1 := P1.size
  rw [World.size_alloc] at z1
  clear r0
  have r0 := cell_of_heap g1
  have HP1 := Lib.hid P1
  clear g1 P1
  go_wp2_with fail
  refine (rfield_any w5.heap.size w5.heap.size _ _ _ false 6 l.term _ HP1.out.1 (by omega) (by first | omega | (simp [leB_length, idB_length, idsB_length]; omega))).mono ?_
  rintro e w7 ⟨rfl, hS2⟩
  rw [H2.out] at hS2
  obtain ⟨A2, c2_, P2⟩ := HP1.out.step hS2
  clear hS2
  have g2 := (P2.heap (i := w.heap.size) (by simp; omega) (by rintro (h | h); · omega
                                                              · simp [blk] at h)).trans ((heap_alloc_old w5 _ hlt).trans HG0.out)
  have z2 := P2.size
  rw [World.size_alloc] at z2
  clear r0
  have r0 := cell_of_heap g2
  have HP2 := Lib.hid P2
  clear g2 P2
  go_wp2_with fail
  refine (ridents_put w5.heap.size w5.heap.size _ _ _ l.wA l.wc l.want HK.out.1.2 HK.out.1.1 _ HP2.out.1 (by omega) (by first | omega | (simp [leB_length, idB_length, idsB_length]; omega)) (HI5.out.w1.fr HP2.out.2.1 HOF.out.w1) (HOF.out.grow HI5.out HP2.out.2.2).w1).mono ?_
  rintro e w8 ⟨rfl, hS3⟩
  obtain ⟨A3, c3_, P3⟩ := HP2.out.step hS3
  clear hS3
  have g3 := (P3.heap (i := w.heap.size) (by simp; omega) (by rintro (h | h); · omega
                                                              · simp [blk] at h)).trans ((heap_alloc_old w5 _ hlt).trans HG0.out)
  have z3 := P3.size
  rw [World.size_alloc] at z3
  clear r0
  have r0 := cell_of_heap g3
  have HP3 := Lib.hid P3
  clear g3 P3
  go_wp2_with fail
  refine (rident_put w5.heap.size w5.heap.size _ _ _ l.last HK.out.2.1 _ HP3.out.1 (by omega) (by first | omega | (simp [leB_length, idB_length, idsB_length]; omega))).mono ?_
  rintro e w9 ⟨rfl, hS4⟩
  obtain ⟨A4, c4_, P4⟩ := HP3.out.step hS4
  clear hS4
  have g4 := (P4.heap (i := w.heap.size) (by simp; omega) (by rintro (h | h); · omega
                                                              · simp [blk] at h)).trans ((heap_alloc_old w5 _ hlt).trans HG0.out)
  have z4 := P4.size
  rw [World.size_alloc] at z4
  clear r0
  have r0 := cell_of_heap g4
  have HP4 := Lib.hid P4
  clear g4 P4
  go_wp2_with fail
  refine (rfield_any w5.heap.size w5.heap.size _ _ _ false 1 l.piece _ HP4.out.1 (by omega) (by first | omega | (simp [leB_length, idB_length, idsB_length]; omega))).mono ?_
  rintro e w10 ⟨rfl, hS5⟩
  rw [rf_1 HK.out.2.2.1 HK.out.2.2.2] at hS5
  obtain ⟨A5, c5_, P5⟩ := HP4.out.step hS5
  clear hS5
  have g5 := (P5.heap (i := w.heap.size) (by simp; omega) (by rintro (h | h); · omega
                                                              · simp [blk] at h)).trans ((heap_alloc_old w5 _ hlt).trans HG0.out)
  have z5 := P5.size
  rw [World.size_alloc] at z5
  clear r0
  have r0 := cell_of_heap g5
  have HP5 := Lib.hid P5
  clear g5 P5
  have HPE : Hid (putB l = hdB l ++ leB 6 l.term ++ leB 1 l.want.length ++ idsB l.want ++ idB l.last ++ leB 1 l.piece) := Lib.hid (by unfold putB; rw [HBB.out]; try simp [idsR])
  have hq := HP5.out
  rw [← HPE.out] at hq
  have HQ := Lib.hid hq
  have hpl : (putB l).length ≤ 1000000 := by rw [show putB l = hdB l ++ leB 6 l.term ++ bodyB l from rfl]; simp [leB_length]; omega
  clear hq HP5
  go_wp2_with fail
  refine (rbytes_any w5.heap.size w5.heap.size _ _ (putB l) false _ HQ.out.1 (by omega)).mono ?_
  rintro e w20 ⟨A20, c20, rfl, hO20, hS20⟩
  obtain ⟨A21, c21, P21⟩ := HQ.out.step hS20
  have HE20 : Hid (Ext w w20) := Lib.hid (HE5.out.trans (Below.trans ((Ext.refl w5).alloc _) (P21.2.1.below (by simp) (by
    rintro i (rfl | hi)
    · exact Nat.le_refl _
    · simp [blk] at hi))))
  simp only [Bool.false_eq_true, if_false] at hO20
  have hszE : w.heap.size ≤ w10.heap.size := by omega
  clear hS20 P21 r0
  go_wp2_with fail
  go_ret2
  exact ⟨A20, c20, by rw [HX.out.1, HX.out.2]; rfl, by rw [HX.out.1]; exact hO20.lower hszE, HE20.out⟩
end Go.Proofs.YtcapapnhlkmeaaaGreatDoor
namespace Go.Proofs.YtcapapnhlkmeaaaGreatDoor
open Go.RowKit

set_option maxRecDepth 100000 in
set_option maxHeartbeats 4000000 in
theorem rput_8a (l : Let) (hr : rightL l = true) (hk : l.kind = 8) (hne : l.ents.length ≠ 0) (w : World) (hin : l.inW w) : Calls Tryz.prog 8 #[l.v] w (Puts l w) := by
  have HC := Lib.hid (fun w' (h : Ext w w') => rrightL_any l w' (hin.ext h))
  rw [hr] at HC
  have HI := Lib.hid hin
  have hV : l.v = .agg l.arr := rfl
  have HX : Hid (putX l = putB l ∧ putN l = 0) := Lib.hid (by simp [putX, putN, hr])
  obtain ⟨hk0, hf, ht, h6⟩ := right_head hr
  have hpu := puts_of_right hr hin.u3
  have H1 := Lib.hid (rhd_eq l (by unfold num1; omega) (by unfold num1; omega) (by unfold num1; omega))
  have H2 := Lib.hid (rf_6 (bs := hdB l) (sp := false) h6.1 h6.2)
  have hhl : (hdB l).length = 3 := by simp [hdB, leB_length]
  have hbl := bodyB_length hpu
  rw [hV]
  have q1 : (l.kind == 1) = false := by rw [hk]; rfl
  have q2 : (l.kind == 2) = false := by rw [hk]; rfl
  have q3 : (l.kind == 3) = false := by rw [hk]; rfl
  have q4 : (l.kind == 4) = false := by rw [hk]; rfl
  have q5 : (l.kind == 5) = false := by rw [hk]; rfl
  have q6 : (l.kind == 6) = false := by rw [hk]; rfl
  have q7 : (l.kind == 7) = false := by rw [hk]; rfl
  have q8 : (l.kind == 8) = true := by rw [hk]; rfl
  have HBB := Lib.hid (show bodyB l = entsR l.ents ++ idsR l.want by simp [bodyB, hk, hne])
  have HK := Lib.hid (hpu.k8 hk)
  have HK2 := Lib.hid (HK.out.2.2 hne)
  have hn0 : decide ((0 : Int) < (l.ents.length : Int)) = true := decide_eq_true (by omega)
  have hn1 : 0 < l.ents.length := by omega
  have he255 := HK.out.1.1
  have hel := entsB_length l.ents HK.out.1.2
  clear hin hV hk0 hf ht h6 hpu hk hr hne
  go_enter Tryz.func8, Tryz.ntmps8
  go_wp2_with (refine wpList_load_let rfl _ rfl w.heap.size l rfl (heap_alloc_new w _) ?_)
  refine (HC.out _ ((Ext.refl w).alloc _)).mono ?_
  rintro e w5 ⟨rfl, hE5⟩
  have g0 := hE5.blk (heap_alloc_new w _)
  have hlt := heap_lt g0
  have r0 := cell_of_heap g0
  have HE5 := Lib.hid (((Ext.refl w).alloc _).trans hE5)
  have HG0 := Lib.hid g0
  have HI5 := Lib.hid ((HI.out.ext HE5.out).ext ((Ext.refl w5).alloc (.cells #[.slice none 0 0, .bool false] 68)))
  have HOF := Lib.hid ((HI.out.ext HE5.out).offNew (Nat.le_refl _))
  have hsz5 := HE5.out.sz
  clear g0 hE5
  go_wp2_with fail
  have hW0 := Wr.new 68 w5
  have hr0 := rd_lit (w5.alloc (.cells #[.slice none 0 0, .bool false] 68)) [.int .i64 l.kind, .int .i64 l.frm, .int .i64 l.too] 3
  have ho0 := off_new hW0
  rw [World.size_alloc] at hr0 ho0
  have P0a := (WP.start hW0).ext ((Ext.refl _).alloc (.cells #[.int .i64 l.kind, .int .i64 l.frm, .int .i64 l.too] 3))
  refine (rfields_any w5.heap.size w5.heap.size none 0 [] false 1 (some ⟨w5.heap.size + 1, 0, none⟩) 3 [l.kind, l.frm, l.too] _ P0a.1 (by simp; omega) hr0 (fun _ => ho0) (by simp)).mono ?_
  rintro e w6 ⟨rfl, hS1⟩
  rw [H1.out] at hS1
  obtain ⟨A1, c1_, P1⟩ := P0a.step hS1
  clear hS1 P0a hr0 ho0 hW0
  have g1 := (P1.heap (i := w.heap.size) (by simp; omega) (by rintro (h | h); · omega
                                                              · simp [blk] at h)).trans ((heap_alloc_old w5 _ hlt).trans HG0.out)
  have z1 := P1.size
  rw [World.size_alloc] at z1
  clear r0
  have r0 := cell_of_heap g1
  have HP1 := Lib.hid P1
  clear g1 P1
  go_wp2_with fail
  refine (rfield_any w5.heap.size w5.heap.size _ _ _ false 6 l.term _ HP1.out.1 (by omega) (by first | omega | (simp [leB_length, idB_length, idsB_length]; omega))).mono ?_
  rintro e w7 ⟨rfl, hS2⟩
  rw [H2.out] at hS2
  obtain ⟨A2, c2_, P2⟩ := HP1.out.step hS2
  clear hS2
  have g2 := (P2.heap (i := w.heap.size) (by simp; omega) (by rintro (h | h); · omega
                                                              · simp [blk] at h)).trans ((heap_alloc_old w5 _ hlt).trans HG0.out)
  have z2 := P2.size
  rw [World.size_alloc] at z2
  clear r0
  have r0 := cell_of_heap g2
  have HP2 := Lib.hid P2
  clear g2 P2
  go_wp2_with fail
  refine (rentries_put w5.heap.size w5.heap.size _ _ _ l.eA l.ec l.ents HK.out.1.2 HK.out.1.1 _ HP2.out.1 (by omega) (by first | omega | (simp [leB_length, idB_length, idsB_length]; omega)) (HI5.out.e1.fr HP2.out.2.1 HOF.out.e1 HOF.out.e2) (HOF.out.grow HI5.out HP2.out.2.2).e1 (HOF.out.grow HI5.out HP2.out.2.2).e2).mono ?_
  rintro e w8 ⟨rfl, hS3⟩
  obtain ⟨A3, c3_, P3⟩ := HP2.out.step hS3
  clear hS3
  have g3 := (P3.heap (i := w.heap.size) (by simp; omega) (by rintro (h | h); · omega
                                                              · simp [blk] at h)).trans ((heap_alloc_old w5 _ hlt).trans HG0.out)
  have z3 := P3.size
  rw [World.size_alloc] at z3
  clear r0
  have r0 := cell_of_heap g3
  have HP3 := Lib.hid P3
  clear g3 P3
  go_wp2_with fail
  refine (ridents_put w5.heap.size w5.heap.size _ _ _ l.wA l.wc l.want HK2.out.2 HK2.out.1 _ HP3.out.1 (by omega) (by first | omega | (simp [leB_length, idB_length, idsB_length]; omega)) (HI5.out.w1.fr HP3.out.2.1 HOF.out.w1) (HOF.out.grow HI5.out HP3.out.2.2).w1).mono ?_
  rintro e w9 ⟨rfl, hS4⟩
  obtain ⟨A4, c4_, P4⟩ := HP3.out.step hS4
  clear hS4
  have g4 := (P4.heap (i := w.heap.size) (by simp; omega) (by rintro (h | h); · omega
                                                              · simp [blk] at h)).trans ((heap_alloc_old w5 _ hlt).trans HG0.out)
  have z4 := P4.size
  rw [World.size_alloc] at z4
  clear r0
  have r0 := cell_of_heap g4
  have HP4 := Lib.hid P4
  clear g4 P4
  have HPE : Hid (putB l = hdB l ++ leB 6 l.term ++ leB 1 l.ents.length ++ entsB l.ents ++ leB 1 l.want.length ++ idsB l.want) := Lib.hid (by unfold putB; rw [HBB.out]; try simp [entsR, idsR])
  have hq := HP4.out
  rw [← HPE.out] at hq
  have HQ := Lib.hid hq
  have hpl : (putB l).length ≤ 1000000 := by rw [show putB l = hdB l ++ leB 6 l.term ++ bodyB l from rfl]; simp [leB_length]; omega
  clear hq HP4
  go_wp2_with fail
  refine (rbytes_any w5.heap.size w5.heap.size _ _ (putB l) false _ HQ.out.1 (by omega)).mono ?_
  rintro e w20 ⟨A20, c20, rfl, hO20, hS20⟩
  obtain ⟨A21, c21, P21⟩ := HQ.out.step hS20
  have HE20 : Hid (Ext w w20) := Lib.hid (HE5.out.trans (Below.trans ((Ext.refl w5).alloc _) (P21.2.1.below (by simp) (by
    rintro i (rfl | hi)
    · exact Nat.le_refl _
    · simp [blk] at hi))))
  simp only [Bool.false_eq_true, if_false] at hO20
  have hszE : w.heap.size ≤ w9.heap.size := by omega
  clear hS20 P21 r0
  go_wp2_with fail
  go_ret2
  exact ⟨A20, c20, by rw [HX.out.1, HX.out.2]; rfl, by rw [HX.out.1]; exact hO20.lower hszE, HE20.out⟩

set_option maxRecDepth 100000 in
set_option maxHeartbeats 4000000 in
theorem rput_8b (l : Let) (hr : rightL l = true) (hk : l.kind = 8) (hne : l.ents.length = 0) (w : World) (hin : l.inW w) : Calls Tryz.prog 8 #[l.v] w (Puts l w) := by
  have HC := Lib.hid (fun w' (h : Ext w w') => rrightL_any l w' (hin.ext h))
  rw [hr] at HC
  have HI := Lib.hid hin
  have hV : l.v = .agg l.arr := rfl
  have HX : Hid (putX l = putB l ∧ putN l = 0) := Lib.hid (by simp [putX, putN, hr])
  obtain ⟨hk0, hf, ht, h6⟩ := right_head hr
  have hpu := puts_of_right hr hin.u3
  have H1 := Lib.hid (rhd_eq l (by unfold num1; omega) (by unfold num1; omega) (by unfold num1; omega))
  have H2 := Lib.hid (rf_6 (bs := hdB l) (sp := false) h6.1 h6.2)
  have hhl : (hdB l).length = 3 := by simp [hdB, leB_length]
  have hbl := bodyB_length hpu
  rw [hV]
  have q1 : (l.kind == 1) = false := by rw [hk]; rfl
  have q2 : (l.kind == 2) = false := by rw [hk]; rfl
  have q3 : (l.kind == 3) = false := by rw [hk]; rfl
  have q4 : (l.kind == 4) = false := by rw [hk]; rfl
  have q5 : (l.kind == 5) = false := by rw [hk]; rfl
  have q6 : (l.kind == 6) = false := by rw [hk]; rfl
  have q7 : (l.kind == 7) = false := by rw [hk]; rfl
  have q8 : (l.kind == 8) = true := by rw [hk]; rfl
  have HBB := Lib.hid (show bodyB l = entsR l.ents ++ carryB l by simp [bodyB, hk, hne])
  have HK := Lib.hid (hpu.k8 hk)
  have HK2 := Lib.hid (HK.out.2.1 hne)
  have hn0 : decide ((0 : Int) < (l.ents.length : Int)) = false := decide_eq_false (by omega)
  have hn1 : ¬ 0 < l.ents.length := by omega
  have he255 := HK.out.1.1
  have hel := entsB_length l.ents HK.out.1.2
  clear hin hV hk0 hf ht h6 hpu hk hr hne
  go_enter Tryz.func8, Tryz.ntmps8
  go_wp2_with (refine wpList_load_let rfl _ rfl w.heap.size l rfl (heap_alloc_new w _) ?_)
  refine (HC.out _ ((Ext.refl w).alloc _)).mono ?_
  rintro e w5 ⟨rfl, hE5⟩
  have g0 := hE5.blk (heap_alloc_new w _)
  have hlt := heap_lt g0
  have r0 := cell_of_heap g0
  have HE5 := Lib.hid (((Ext.refl w).alloc _).trans hE5)
  have HG0 := Lib.hid g0
  have HI5 := Lib.hid ((HI.out.ext HE5.out).ext ((Ext.refl w5).alloc (.cells #[.slice none 0 0, .bool false] 68)))
  have HOF := Lib.hid ((HI.out.ext HE5.out).offNew (Nat.le_refl _))
  have hsz5 := HE5.out.sz
  clear g0 hE5
  go_wp2_with fail
  have hW0 := Wr.new 68 w5
  have hr0 := rd_lit (w5.alloc (.cells #[.slice none 0 0, .bool false] 68)) [.int .i64 l.kind, .int .i64 l.frm, .int .i64 l.too] 3
  have ho0 := off_new hW0
  rw [World.size_alloc] at hr0 ho0
  have P0a := (WP.start hW0).ext ((Ext.refl _).alloc (.cells #[.int .i64 l.kind, .int .i64 l.frm, .int .i64 l.too] 3))
  refine (rfields_any w5.heap.size w5.heap.size none 0 [] false 1 (some ⟨w5.heap.size + 1, 0, none⟩) 3 [l.kind, l.frm, l.too] _ P0a.1 (by simp; omega) hr0 (fun _ => ho0) (by simp)).mono ?_
  rintro e w6 ⟨rfl, hS1⟩
  rw [H1.out] at hS1
  obtain ⟨A1, c1_, P1⟩ := P0a.step hS1
  clear hS1 P0a hr0 ho0 hW0
  have g1 := (P1.heap (i := w.heap.size) (by simp; omega) (by rintro (h | h); · omega
                                                              · simp [blk] at h)).trans ((heap_alloc_old w5 _ hlt).trans HG0.out)
  have z1 := P1.size
  rw [World.size_alloc] at z1
  clear r0
  have r0 := cell_of_heap g1
  have HP1 := Lib.hid P1
  clear g1 P1
  go_wp2_with fail
  refine (rfield_any w5.heap.size w5.heap.size _ _ _ false 6 l.term _ HP1.out.1 (by omega) (by first | omega | (simp [leB_length, idB_length, idsB_length]; omega))).mono ?_
  rintro e w7 ⟨rfl, hS2⟩
  rw [H2.out] at hS2
  obtain ⟨A2, c2_, P2⟩ := HP1.out.step hS2
  clear hS2
  have g2 := (P2.heap (i := w.heap.size) (by simp; omega) (by rintro (h | h); · omega
                                                              · simp [blk] at h)).trans ((heap_alloc_old w5 _ hlt).trans HG0.out)
  have z2 := P2.size
  rw [World.size_alloc] at z2
  clear r0
  have r0 := cell_of_heap g2
  have HP2 := Lib.hid P2
  clear g2 P2
  go_wp2_with fail
  refine (rentries_put w5.heap.size w5.heap.size _ _ _ l.eA l.ec l.ents HK.out.1.2 HK.out.1.1 _ HP2.out.1 (by omega) (by first | omega | (simp [leB_length, idB_length, idsB_length]; omega)) (HI5.out.e1.fr HP2.out.2.1 HOF.out.e1 HOF.out.e2) (HOF.out.grow HI5.out HP2.out.2.2).e1 (HOF.out.grow HI5.out HP2.out.2.2).e2).mono ?_
  rintro e w8 ⟨rfl, hS3⟩
  obtain ⟨A3, c3_, P3⟩ := HP2.out.step hS3
  clear hS3
  have g3 := (P3.heap (i := w.heap.size) (by simp; omega) (by rintro (h | h); · omega
                                                              · simp [blk] at h)).trans ((heap_alloc_old w5 _ hlt).trans HG0.out)
  have z3 := P3.size
  rw [World.size_alloc] at z3
  clear r0
  have r0 := cell_of_heap g3
  have HP3 := Lib.hid P3
  clear g3 P3
  go_wp2_with fail
  refine (rsnap_put w5.heap.size w5.heap.size _ _ _ l HK2.out _ HP3.out.1 (by omega) (by first | omega | (simp [leB_length, idB_length, idsB_length]; omega)) (HI5.out.fr HP3.out.2.1 HOF.out) (HOF.out.grow HI5.out HP3.out.2.2)).mono ?_
  rintro e w9 ⟨rfl, hS4⟩
  obtain ⟨A4, c4_, P4⟩ := HP3.out.step hS4
  clear hS4
  have g4 := (P4.heap (i := w.heap.size) (by simp; omega) (by rintro (h | h); · omega
                                                              · simp [blk] at h)).trans ((heap_alloc_old w5 _ hlt).trans HG0.out)
  have z4 := P4.size
  rw [World.size_alloc] at z4
  clear r0
  have r0 := cell_of_heap g4
  have HP4 := Lib.hid P4
  clear g4 P4
  have lsn := snapB_length l HK2.out
  go_wp2_with fail
  refine (rfield_any w5.heap.size w5.heap.size _ _ _ false 1 l.piece _ HP4.out.1 (by omega) (by simp [leB_length, idB_length, idsB_length]; omega)).mono ?_
  rintro e w10 ⟨rfl, hS5⟩
  rw [rf_1 HK2.out.f7.1 HK2.out.f7.2] at hS5
  obtain ⟨A5, c5_, P5⟩ := HP4.out.step hS5
  clear hS5
  have g5 := (P5.heap (i := w.heap.size) (by simp; omega) (by rintro (h | h); · omega
                                                              · simp [blk] at h)).trans ((heap_alloc_old w5 _ hlt).trans HG0.out)
  have z5 := P5.size
  rw [World.size_alloc] at z5
  clear r0
  have r0 := cell_of_heap g5
  have HP5 := Lib.hid P5
  clear g5 P5
  have h8 := HK2.out.f8
  go_wp2_with fail
  refine (rtext_any w5.heap.size w5.heap.size _ _ _ false l.bA l.bc l.bs _ HP5.out.1 (by omega) (HP5.out.rd HI5.out.b1 HOF.out.b1) (HP5.out.off HI5.out.b1 HOF.out.b1) (by simp [leB_length, idB_length, idsB_length]; omega)).mono ?_
  rintro e w11 ⟨rfl, hS6⟩
  rw [rtext_all _ _ HK2.out.f8] at hS6
  obtain ⟨A6, c6_, P6⟩ := HP5.out.step hS6
  clear hS6
  have g6 := (P6.heap (i := w.heap.size) (by simp; omega) (by rintro (h | h); · omega
                                                              · simp [blk] at h)).trans ((heap_alloc_old w5 _ hlt).trans HG0.out)
  have z6 := P6.size
  rw [World.size_alloc] at z6
  clear r0
  have r0 := cell_of_heap g6
  have HP6 := Lib.hid P6
  clear g6 P6
  have HPE : Hid (putB l = hdB l ++ leB 6 l.term ++ leB 1 l.ents.length ++ entsB l.ents ++ snapB l ++ leB 1 l.piece ++ textB l.bs) := Lib.hid (by unfold putB; rw [HBB.out]; try simp [entsR, carryB, snapB])
  have hq := HP6.out
  rw [← HPE.out] at hq
  have HQ := Lib.hid hq
  have hpl : (putB l).length ≤ 1000000 := by rw [show putB l = hdB l ++ leB 6 l.term ++ bodyB l from rfl]; simp [leB_length]; omega
  clear hq HP6
  go_wp2_with fail
  refine (rbytes_any w5.heap.size w5.heap.size _ _ (putB l) false _ HQ.out.1 (by omega)).mono ?_
  rintro e w20 ⟨A20, c20, rfl, hO20, hS20⟩
  obtain ⟨A21, c21, P21⟩ := HQ.out.step hS20
  have HE20 : Hid (Ext w w20) := Lib.hid (HE5.out.trans (Below.trans ((Ext.refl w5).alloc _) (P21.2.1.below (by simp) (by
    rintro i (rfl | hi)
    · exact Nat.le_refl _
    · simp [blk] at hi))))
  simp only [Bool.false_eq_true, if_false] at hO20
  have hszE : w.heap.size ≤ w11.heap.size := by omega
  clear hS20 P21 r0
  go_wp2_with fail
  go_ret2
  exact ⟨A20, c20, by rw [HX.out.1, HX.out.2]; rfl, by rw [HX.out.1]; exact hO20.lower hszE, HE20.out⟩
end Go.Proofs.YtcapapnhlkmeaaaGreatDoor
namespace Go.Proofs.YtcapapnhlkmeaaaGreatDoor
open Go.RowKit

theorem rput_any (l : Let) (w : World) (hin : l.inW w) : Calls Tryz.prog 8 #[l.v] w (Puts l w) := by
  cases hr : rightL l with
  | false => exact rput_no l hr w hin
  | true =>
    have hk0 := (right_head hr).1
    by_cases h1 : l.kind = 1
    · exact rput_1 l hr h1 w hin
    by_cases h2 : l.kind = 2
    · exact rput_2 l hr h2 w hin
    by_cases h3 : l.kind = 3
    · exact rput_3 l hr h3 w hin
    by_cases h4 : l.kind = 4
    · exact rput_4 l hr h4 w hin
    by_cases h5 : l.kind = 5
    · exact rput_5 l hr h5 w hin
    by_cases h6 : l.kind = 6
    · exact rput_6 l hr h6 w hin
    by_cases h7 : l.kind = 7
    · exact rput_7 l hr h7 w hin
    have h8 : l.kind = 8 := by omega
    by_cases h0 : l.ents.length = 0
    · exact rput_8b l hr h8 h0 w hin
    · exact rput_8a l hr h8 h0 w hin
end Go.Proofs.YtcapapnhlkmeaaaGreatDoor
