/-
  has, at a letter of kind 3.
-/
import Derived.Test.YtjnllilmimngoaaGreatDoorM7
namespace Go.Proofs.YtjnllilmimngoaaGreatDoor
open Go.RowKit

set_option maxRecDepth 1000000 in
set_option maxHeartbeats 4000000 in
theorem tail_3 (l : Let) (w : World) (hin : l.inW w) (hg : ErrT w) (hk : l.kind = 3) (u3 u4 u5 u6 u7 u8 u9 u10 u11 u12 u13 u14 u15 u16 u17 u18 u19 u20 u21 u22 u23 u24 u25 u26 u27 u28 u29 u30 u31 u32 u33 u34 u35 u36 u37 u38 u39 u40 u41 u42 u43 u44 u45 u46 u47 u48 u49 u50 u51 u52 u53 u54 u55 u56 u57 u58 u59 u60 u61 u62 u63 u64 u65 u66 u67 u68 u69 u70 u71 u72 u73 u74 u75 u76 u77 u78 u79 u80 u81 u82 u83 u84 u85 u86 u87 u88 u89 u90 u91 u92 u93 u94 u95 u96 u97 u98 u99 u100 u101 u102 u103 u104 u105 u106 u107 u108 u109 u110 u111 u112 u113 u114 u115 u116 u117 u118 u119 u120 u121 u122 u123 u124 u125 u126 u127 u128 u129 u130 u131 u132 u133 u134 u135 u136 u137 u138 u139 u140 u141 u142 u143 u144 u145 u146 u147 u148 u149 u150 u151 u152 u153 u154 u155 u156 u157 u158 u159 u160 u161 u162 u163 u164 u165 u166 u167 u168 u169 u170 u171 u172 u173 u174 u175 u176 u177 u178 u179 u180 u181 u182 u183 u184 u185 u186 u187 u188 u189 u190 u191 u192 u193 u194 u195 u196 u197 u198 u199 u200 u201 u202 u203 u204 u205 u206 u207 u208 u209 u210 u211 u212 u213 u214 u215 u216 u217 u218 u219 u220 u221 u222 u223 u224 u225 u226 u227 u228 u229 u230 u231 u232 u233 u234 u235 u236 u237 u238 u239 u240 u241 u242 u243 u244 u245 u246 : Value) (wc : World) (hcut : HasRel l w u3 wc) :
    Code.wp Tryz.prog hasA (bodyPost Tryz.prog Tryz.f130 (HasPost 4 l.o3 ((ok0 l && decide (0 < l.term)) && (rightI l.prev.i l.prev.t l.prev.k && (inR l.commit 0 1099511627776 && rowOk l))) w)) ⟨#[.agg l.arr, .pointer (some ⟨w.heap.size, 0, none⟩), .pointer (some ⟨w.heap.size + 1, 0, none⟩), u3, u4, u5, u6, u7, u8, u9, u10, u11, u12, u13, u14, u15, u16, u17, u18, u19, u20, u21, u22, u23, u24, u25, u26, u27, u28, u29, u30, u31, u32, u33, u34, u35, u36, u37, u38, u39, u40, u41, u42, u43, u44, u45, u46, u47, u48, u49, u50, u51, u52, u53, u54, u55, u56, u57, u58, u59, u60, u61, u62, u63, u64, u65, u66, u67, u68, u69, u70, u71, u72, u73, u74, u75, u76, u77, u78, u79, u80, u81, u82, u83, u84, u85, u86, u87, u88, u89, u90, u91, u92, u93, u94, u95, u96, u97, u98, u99, u100, u101, u102, u103, u104, u105, u106, u107, u108, u109, u110, u111, u112, u113, u114, u115, u116, u117, u118, u119, u120, u121, u122, u123, u124, u125, u126, u127, u128, u129, u130, u131, u132, u133, u134, u135, u136, u137, u138, u139, u140, u141, u142, u143, u144, u145, u146, u147, u148, u149, u150, u151, u152, u153, u154, u155, u156, u157, u158, u159, u160, u161, u162, u163, u164, u165, u166, u167, u168, u169, u170, u171, u172, u173, u174, u175, u176, u177, u178, u179, u180, u181, u182, u183, u184, u185, u186, u187, u188, u189, u190, u191, u192, u193, u194, u195, u196, u197, u198, u199, u200, u201, u202, u203, u204, u205, u206, u207, u208, u209, u210, u211, u212, u213, u214, u215, u216, u217, u218, u219, u220, u221, u222, u223, u224, u225, u226, u227, u228, u229, u230, u231, u232, u233, u234, u235, u236, u237, u238, u239, u240, u241, u242, u243, u244, u245, u246], []⟩ wc := by
  have k1 : (l.kind == 1) = false := by simp; omega
  have k2 : (l.kind == 2) = false := by simp; omega
  have k3 : (l.kind == 3) = true := by simp; omega
  have k4 : (l.kind == 4) = false := by simp; omega
  have k5 : (l.kind == 5) = false := by simp; omega
  have k6 : (l.kind == 6) = false := by simp; omega
  have k7 : (l.kind == 7) = false := by simp; omega
  have k8 : (l.kind == 8) = false := by simp; omega
  clear hk
  obtain ⟨hEr, HE, G1, G2⟩ := hcut
  have HER := Lib.hid hEr
  clear hEr
  conv => arg 2; whnf
  have r1 := cell_of_heap G1
  have r2 := cell_of_heap G2
  have q2 := frozen_of_heap G2
  have HEX := Lib.hid HE
  have HG1 := Lib.hid G1
  have HG2 := Lib.hid G2
  clear HE G1 G2
  go_upto_region 23 with (first | (go_at_call 154; refine (within_any _ _ _ _).mono ?_; rintro e w' ⟨rfl, rfl⟩) | (go_at_call 132; refine (holds_part _ _ _).mono ?_; rintro e w' ⟨rfl, rfl⟩) | (refine wpList_build2 _ rfl _ _ rfl u3 _ rfl rfl HER.out.cells (holdsV_cells _ _) ?_) | (go_at_call 131; refine (join_errs 1 (some ⟨wc.heap.size, 0, none⟩) 2 [u3, holdsV ⟨#[116, 101, 114, 109]⟩ (decide (0 < l.term))] [ok0 l, decide (0 < l.term)] ((ok0 l) && (decide (0 < l.term))) _ (rd_heap (heap_alloc_new wc _)) (by simp) (by simp) ⟨HER.out.ext ((Ext.refl _).alloc _), (Err.holds _ _ _).le (by omega), trivial⟩).mono ?_; rintro e w5 ⟨e5, rfl, hEr5, hE5⟩; have hE6 := ((Ext.refl wc).alloc (.cells #[u3, holdsV ⟨#[116, 101, 114, 109]⟩ (decide (0 < l.term))] 101)).trans hE5; have g1 := hE6.blk HG1.out; have g2 := hE6.blk HG2.out; have h0 := HEX.out.trans hE6; clear r1 r2 q2 HEX HG1 HG2 HER; have r1 := cell_of_heap g1; have r2 := cell_of_heap g2; have q2 := frozen_of_heap g2; have HER := Lib.hid hEr5; have HEX := Lib.hid h0; have HG1 := Lib.hid g1; have HG2 := Lib.hid g2; clear g1 g2 h0 hE6 hE5 hEr5))
  refine Stab.wp_region_lex (Fr (isB (w.heap.size + 1))) (Fr (isB (w.heap.size + 1)) _) (fun W => Ext w W ∧ W.heap[w.heap.size + 1]? = some (.cells l.base.arr 35) ∧ Err 2 W ((ok0 l) && (decide (0 < l.term))) e5) (by kernel_rfl) (by kernel_rfl) (fun _ _ h => Fr.ofExt _ h) (fun _ _ h k => h.trans k (fun _ _ t => t)) (fun _ _ h k => ⟨h.1.trans k, k.blk h.2.1, h.2.2.ext k⟩) (Fr.ofExt _ ((Ext.refl _).drew)) ⟨HEX.out.drew, HG2.out, HER.out.ext ((Ext.refl _).drew)⟩ ?_
  simp only [Stab.zipL, Nat.reduceAdd]
  iterate 6 (refine Stab.wpX_val rfl rfl ?_; apply Exists.intro; refine ⟨fun wx hC _ => ?_, ?_⟩; (have r := cell_of_heap ((hC.block _ (heap_lt HG1.out) (by unfold isB; omega)).trans HG1.out); go_simp; (try simp (disch := omega) only [↓IntWalk.iteOmega, Stab.yieldsUpon_value, IntWalk.i64_in]); exact ⟨Ext.refl _, rfl⟩); simp only [Act.put, List.setIfInBounds_toArray, List.set_cons_zero, List.set_cons_succ])
  iterate 1 (refine Stab.wpX_val rfl rfl ?_; apply Exists.intro; refine ⟨fun wx hC _ => ?_, ?_⟩; (have r := cell_of_heap ((hC.block _ (heap_lt HG1.out) (by unfold isB; omega)).trans HG1.out); go_simp; (try simp (disch := omega) only [↓IntWalk.iteOmega, Stab.yieldsUpon_value, IntWalk.i64_in]); exact ⟨Ext.refl _, rfl⟩); simp only [Act.put, List.setIfInBounds_toArray, List.set_cons_zero, List.set_cons_succ])
  refine Stab.wpX_call (fun _ _ => True) (fun _ => fun W => Ext w W ∧ W.heap[w.heap.size + 1]? = some (.cells l.o3a.arr 35) ∧ Err 2 W ((ok0 l) && (decide (0 < l.term))) e5) rfl rfl (fun _ _ _ _ _ => trivial) (fun _ _ _ h k => ⟨h.1.trans k, k.blk h.2.1, h.2.2.ext k⟩) ?_ ?_
  · rintro wx hC ⟨hE, hG, hEr⟩ hF
    have r2 := cell_of_heap hG
    have q2 := frozen_of_heap hG
    go_simp
    exact ⟨((((Fr.refl (isB (w.heap.size + 1)) wx).set (p := ⟨w.heap.size + 1, 8, none⟩) (.inl rfl) _).set (p := ⟨w.heap.size + 1, 9, none⟩) (.inl rfl) _).set (p := ⟨w.heap.size + 1, 10, none⟩) (.inl rfl) _), (((hE.set (by simp) _).set (by simp) _).set (by simp) _), ((heap_set (heap_set (heap_set hG)))).trans (by simp only [Let.set8, Let.set9, Let.set10]; rfl), (Err.set (by decide) (Err.set (by decide) (Err.set (by decide) hEr)))⟩
  rintro us _
  simp only [Act.put]
  iterate 1 (refine Stab.wpX_val rfl rfl ?_; apply Exists.intro; refine ⟨fun wx hC _ => ?_, ?_⟩; (have r := cell_of_heap ((hC.block _ (heap_lt HG1.out) (by unfold isB; omega)).trans HG1.out); go_simp; (try simp (disch := omega) only [↓IntWalk.iteOmega, Stab.yieldsUpon_value, IntWalk.i64_in]); exact ⟨Ext.refl _, rfl⟩); simp only [Act.put, List.setIfInBounds_toArray, List.set_cons_zero, List.set_cons_succ])
  refine Stab.wpX_call (fun _ _ => True) (fun _ => fun W => Ext w W ∧ W.heap[w.heap.size + 1]? = some (.cells l.o3b.arr 35) ∧ Err 2 W ((ok0 l) && (decide (0 < l.term))) e5) rfl rfl (fun _ _ _ _ _ => trivial) (fun _ _ _ h k => ⟨h.1.trans k, k.blk h.2.1, h.2.2.ext k⟩) ?_ ?_
  · rintro wx hC ⟨hE, hG, hEr⟩ hF
    have r2 := cell_of_heap hG
    have q2 := frozen_of_heap hG
    go_simp
    exact ⟨((Fr.refl (isB (w.heap.size + 1)) wx).set (p := ⟨w.heap.size + 1, 12, none⟩) (.inl rfl) _), (hE.set (by simp) _), ((heap_set hG)).trans (by simp only [Let.set12]; rfl), (Err.set (by decide) hEr)⟩
  rintro us _
  simp only [Act.put]
  iterate 1 (refine Stab.wpX_val rfl rfl ?_; apply Exists.intro; refine ⟨fun wx hC _ => ?_, ?_⟩; (have r := cell_of_heap ((hC.block _ (heap_lt HG1.out) (by unfold isB; omega)).trans HG1.out); go_simp; (try simp (disch := omega) only [↓IntWalk.iteOmega, Stab.yieldsUpon_value, IntWalk.i64_in]); exact ⟨Ext.refl _, rfl⟩); simp only [Act.put, List.setIfInBounds_toArray, List.set_cons_zero, List.set_cons_succ])
  refine Stab.wpX_call (fun _ _ => True) (fun _ => fun W => Ext w W ∧ W.heap[w.heap.size + 1]? = some (.cells l.o3.arr 35) ∧ Err 2 W ((ok0 l) && (decide (0 < l.term))) e5) rfl rfl (fun _ _ _ _ _ => trivial) (fun _ _ _ h k => ⟨h.1.trans k, k.blk h.2.1, h.2.2.ext k⟩) ?_ ?_
  · rintro wx hC ⟨hE, hG, hEr⟩ hF
    have r2 := cell_of_heap hG
    have q2 := frozen_of_heap hG
    go_simp
    exact ⟨((Fr.refl (isB (w.heap.size + 1)) wx).set (p := ⟨w.heap.size + 1, 14, none⟩) (.inl rfl) _), (hE.set (by simp) _), ((heap_set hG)).trans (by simp only [Let.set14]; rfl), (Err.set (by decide) hEr)⟩
  rintro us _
  simp only [Act.put]
  refine Stab.wpX_end ?_
  rintro w2 hC ⟨HE, G2, hEr⟩ _
  have G1 := (hC.block _ (heap_lt HG1.out) (by unfold isB; omega)).trans HG1.out
  clear r1 r2 q2 HEX HG1 HG2 HER hC
  have HER := Lib.hid hEr
  clear hEr
  go_upto_region 24 with fail
  have HFO := Lib.hid (fun w' (h : Ext w w') => follows_any l.prev l.eA l.ec l.ents w' (hin.e1.ext h) (by have := hin.e2; unfold maxLen; omega) (hg.ext h))
  have HLA := Lib.hid (fun w' (h : Ext w w') => last_any Id.zero l.eA l.ec l.ents w' (hin.e1.ext h) (by have := hin.e2; unfold maxLen; omega))
  unfold Id.v idV at HFO HLA
  have he2 := hin.e2
  go_cut [4] (fun s4 wx => s4 = .bool (rowOk l) ∧ HasMem l l.o3 w wx ∧ Err 2 wx ((ok0 l) && (decide (0 < l.term))) e5)
  case first =>
    cases h1 : decide ((l.ents.length : Int) ≤ 8) with
    | false =>
      have hv : Hid (rowOk l = false) := Lib.hid (by unfold rowOk; rw [h1]; simp)
      refine Stab.wp_region_lex Ext (Ext _) (fun _ => True) (by kernel_rfl) (by kernel_rfl) (fun _ _ h => h) (fun _ _ h k => Ext.trans h k) (fun _ _ _ _ => trivial) ((Ext.refl _).drew) trivial ?_
      simp only [Stab.zipL, Nat.reduceAdd]
      iterate 5 (refine Stab.wpX_val rfl rfl ?_; apply Exists.intro; refine ⟨fun wx hC _ => ?_, ?_⟩; (have r := cell_of_heap (hC.blk G1); go_simp; (try simp (disch := omega) only [↓IntWalk.iteOmega, Stab.yieldsUpon_value, IntWalk.i64_in]); exact ⟨Ext.refl _, rfl⟩); simp only [Act.put, List.setIfInBounds_toArray, List.set_cons_zero, List.set_cons_succ])
      iterate 6 (refine Stab.wpX_skip rfl ?_; simp only [Act.put, List.setIfInBounds_toArray, List.set_cons_zero, List.set_cons_succ])
      iterate 2 (refine Stab.wpX_val rfl rfl ?_; apply Exists.intro; refine ⟨fun wx hC _ => ?_, ?_⟩; (have r := cell_of_heap (hC.blk G1); go_simp; (try simp (disch := omega) only [↓IntWalk.iteOmega, Stab.yieldsUpon_value, IntWalk.i64_in]); exact ⟨Ext.refl _, rfl⟩); simp only [Act.put, List.setIfInBounds_toArray, List.set_cons_zero, List.set_cons_succ])
      iterate 8 (refine Stab.wpX_skip rfl ?_; simp only [Act.put, List.setIfInBounds_toArray, List.set_cons_zero, List.set_cons_succ])
      iterate 2 (refine Stab.wpX_val rfl rfl ?_; apply Exists.intro; refine ⟨fun wx hC _ => ?_, ?_⟩; (have r := cell_of_heap (hC.blk G1); go_simp; (try simp (disch := omega) only [↓IntWalk.iteOmega, Stab.yieldsUpon_value, IntWalk.i64_in]); exact ⟨Ext.refl _, rfl⟩); simp only [Act.put, List.setIfInBounds_toArray, List.set_cons_zero, List.set_cons_succ])
      refine Stab.wpX_end fun w8 hC8 _ hF8 => ?_
      have z0 := hC8.blk G1
      have z1 := hC8.blk G2
      have z2 := HER.out.ext hC8
      go_wp2_with fail
      go_meet
      exact ⟨by rw [hv.out], ⟨HE.trans hC8, z0, z1⟩, z2⟩
    | true =>
      cases h2 : (followsN l.prev l.ents == 0) with
      | false =>
        have hv : Hid (rowOk l = false) := Lib.hid (by unfold rowOk; rw [h1, h2]; simp)
        refine Stab.wp_region_lex Ext (Ext _) (fun _ => True) (by kernel_rfl) (by kernel_rfl) (fun _ _ h => h) (fun _ _ h k => Ext.trans h k) (fun _ _ _ _ => trivial) ((Ext.refl _).drew) trivial ?_
        simp only [Stab.zipL, Nat.reduceAdd]
        iterate 9 (refine Stab.wpX_val rfl rfl ?_; apply Exists.intro; refine ⟨fun wx hC _ => ?_, ?_⟩; (have r := cell_of_heap (hC.blk G1); go_simp; (try simp (disch := omega) only [↓IntWalk.iteOmega, Stab.yieldsUpon_value, IntWalk.i64_in]); exact ⟨Ext.refl _, rfl⟩); simp only [Act.put, List.setIfInBounds_toArray, List.set_cons_zero, List.set_cons_succ])
        iterate 1 (refine Stab.wpX_call1 rfl rfl (fun _ _ _ _ => trivial) ?_; apply Exists.intro; refine ⟨fun wx hC _ _ => ?_, ?_⟩; (go_simp; refine ⟨rfl, ?_⟩; refine (HFO.out _ (HE.trans hC)).mono ?_; rintro ev w9 ⟨rfl, hb9⟩; (first | (subst hb9; exact ⟨Ext.refl _, rfl, trivial⟩) | (subst hb9; exact ⟨Ext.refl _, rfl⟩) | exact ⟨hb9, rfl, trivial⟩ | exact ⟨hb9, rfl⟩)); simp only [Act.put, List.setIfInBounds_toArray, List.set_cons_zero, List.set_cons_succ])
        iterate 3 (refine Stab.wpX_val rfl rfl ?_; apply Exists.intro; refine ⟨fun wx hC _ => ?_, ?_⟩; (have r := cell_of_heap (hC.blk G1); go_simp; (try simp (disch := omega) only [↓IntWalk.iteOmega, Stab.yieldsUpon_value, IntWalk.i64_in]); exact ⟨Ext.refl _, rfl⟩); simp only [Act.put, List.setIfInBounds_toArray, List.set_cons_zero, List.set_cons_succ])
        iterate 8 (refine Stab.wpX_skip rfl ?_; simp only [Act.put, List.setIfInBounds_toArray, List.set_cons_zero, List.set_cons_succ])
        iterate 2 (refine Stab.wpX_val rfl rfl ?_; apply Exists.intro; refine ⟨fun wx hC _ => ?_, ?_⟩; (have r := cell_of_heap (hC.blk G1); go_simp; (try simp (disch := omega) only [↓IntWalk.iteOmega, Stab.yieldsUpon_value, IntWalk.i64_in]); exact ⟨Ext.refl _, rfl⟩); simp only [Act.put, List.setIfInBounds_toArray, List.set_cons_zero, List.set_cons_succ])
        refine Stab.wpX_end fun w8 hC8 _ hF8 => ?_
        have z0 := hC8.blk G1
        have z1 := hC8.blk G2
        have z2 := HER.out.ext hC8
        go_wp2_with fail
        go_meet
        exact ⟨by rw [hv.out], ⟨HE.trans hC8, z0, z1⟩, z2⟩
      | true =>
        have hv : Hid (rowOk l = decide ((lastId Id.zero l.ents).t ≤ l.term)) := Lib.hid (by unfold rowOk; rw [h1, h2]; simp)
        refine Stab.wp_region_lex Ext (Ext _) (fun _ => True) (by kernel_rfl) (by kernel_rfl) (fun _ _ h => h) (fun _ _ h k => Ext.trans h k) (fun _ _ _ _ => trivial) ((Ext.refl _).drew) trivial ?_
        simp only [Stab.zipL, Nat.reduceAdd]
        iterate 9 (refine Stab.wpX_val rfl rfl ?_; apply Exists.intro; refine ⟨fun wx hC _ => ?_, ?_⟩; (have r := cell_of_heap (hC.blk G1); go_simp; (try simp (disch := omega) only [↓IntWalk.iteOmega, Stab.yieldsUpon_value, IntWalk.i64_in]); exact ⟨Ext.refl _, rfl⟩); simp only [Act.put, List.setIfInBounds_toArray, List.set_cons_zero, List.set_cons_succ])
        iterate 1 (refine Stab.wpX_call1 rfl rfl (fun _ _ _ _ => trivial) ?_; apply Exists.intro; refine ⟨fun wx hC _ _ => ?_, ?_⟩; (go_simp; refine ⟨rfl, ?_⟩; refine (HFO.out _ (HE.trans hC)).mono ?_; rintro ev w9 ⟨rfl, hb9⟩; (first | (subst hb9; exact ⟨Ext.refl _, rfl, trivial⟩) | (subst hb9; exact ⟨Ext.refl _, rfl⟩) | exact ⟨hb9, rfl, trivial⟩ | exact ⟨hb9, rfl⟩)); simp only [Act.put, List.setIfInBounds_toArray, List.set_cons_zero, List.set_cons_succ])
        iterate 6 (refine Stab.wpX_val rfl rfl ?_; apply Exists.intro; refine ⟨fun wx hC _ => ?_, ?_⟩; (have r := cell_of_heap (hC.blk G1); go_simp; (try simp (disch := omega) only [↓IntWalk.iteOmega, Stab.yieldsUpon_value, IntWalk.i64_in]); exact ⟨Ext.refl _, rfl⟩); simp only [Act.put, List.setIfInBounds_toArray, List.set_cons_zero, List.set_cons_succ])
        iterate 1 (refine Stab.wpX_call1 rfl rfl (fun _ _ _ _ => trivial) ?_; apply Exists.intro; refine ⟨fun wx hC _ _ => ?_, ?_⟩; (go_simp; refine ⟨rfl, ?_⟩; refine (HLA.out _ (HE.trans hC)).mono ?_; rintro ev w9 ⟨rfl, hb9⟩; (first | (subst hb9; exact ⟨Ext.refl _, rfl, trivial⟩) | (subst hb9; exact ⟨Ext.refl _, rfl⟩) | exact ⟨hb9, rfl, trivial⟩ | exact ⟨hb9, rfl⟩)); simp only [Act.put, List.setIfInBounds_toArray, List.set_cons_zero, List.set_cons_succ])
        iterate 6 (refine Stab.wpX_val rfl rfl ?_; apply Exists.intro; refine ⟨fun wx hC _ => ?_, ?_⟩; (have r := cell_of_heap (hC.blk G1); go_simp; (try simp (disch := omega) only [↓IntWalk.iteOmega, Stab.yieldsUpon_value, IntWalk.i64_in]); exact ⟨Ext.refl _, rfl⟩); simp only [Act.put, List.setIfInBounds_toArray, List.set_cons_zero, List.set_cons_succ])
        refine Stab.wpX_end fun w8 hC8 _ hF8 => ?_
        have z0 := hC8.blk G1
        have z1 := hC8.blk G2
        have z2 := HER.out.ext hC8
        go_wp2_with fail
        go_meet
        exact ⟨by rw [hv.out], ⟨HE.trans hC8, z0, z1⟩, z2⟩
  case rest =>
    clear HE G1 G2 HER
    obtain ⟨rfl, ⟨HE, G1, G2⟩, hEr⟩ := hcut
    have HER := Lib.hid hEr
    clear hEr
    go_upto_region 25 with fail
    refine Stab.wp_region_lexTail 14 Ext (Ext _) (fun _ => True) (by kernel_rfl) (by kernel_rfl) (fun _ _ h => h) (fun _ _ h k => Ext.trans h k) (fun _ _ _ _ => trivial) ((Ext.refl _).drew) trivial ?_
    simp only [List.take_succ_cons, List.take_zero, List.drop_succ_cons, List.drop_zero, Stab.zipL, Nat.reduceAdd]
    refine Stab.wpX_val rfl rfl ⟨l.o3.v, fun wx hC _ => yields_load_let _ rfl (w.heap.size + 1) l.o3 rfl (hC.blk G2), ?_⟩
    simp only [Act.put, List.setIfInBounds_toArray, List.set_cons_zero, List.set_cons_succ]
    iterate 3 (refine Stab.wpX_val rfl rfl ?_; apply Exists.intro; refine ⟨fun wx hC _ => ?_, ?_⟩; (have r := cell_of_heap (hC.blk G1); go_simp; (try simp (disch := omega) only [↓IntWalk.iteOmega, Stab.yieldsUpon_value, IntWalk.i64_in]); exact ⟨Ext.refl _, rfl⟩); simp only [Act.put, List.setIfInBounds_toArray, List.set_cons_zero, List.set_cons_succ])
    iterate 1 (refine Stab.wpX_call1 rfl rfl (fun _ _ _ _ => trivial) ?_; apply Exists.intro; refine ⟨fun wx hC _ _ => ?_, ?_⟩; (go_simp; refine ⟨rfl, ?_⟩; refine (rightId_any l.prev.i l.prev.t l.prev.k _).mono ?_; rintro ev w9 ⟨rfl, hb9⟩; (first | (subst hb9; exact ⟨Ext.refl _, rfl, trivial⟩) | (subst hb9; exact ⟨Ext.refl _, rfl⟩) | exact ⟨hb9, rfl, trivial⟩ | exact ⟨hb9, rfl⟩)); simp only [Act.put, List.setIfInBounds_toArray, List.set_cons_zero, List.set_cons_succ])
    iterate 1 (refine Stab.wpX_call1 rfl rfl (fun _ _ _ _ => trivial) ?_; apply Exists.intro; refine ⟨fun wx hC _ _ => ?_, ?_⟩; (go_simp; refine ⟨rfl, ?_⟩; refine (holds_part _ _ _).mono ?_; rintro ev w9 ⟨rfl, hb9⟩; (first | (subst hb9; exact ⟨Ext.refl _, rfl, trivial⟩) | (subst hb9; exact ⟨Ext.refl _, rfl⟩) | exact ⟨hb9, rfl, trivial⟩ | exact ⟨hb9, rfl⟩)); simp only [Act.put, List.setIfInBounds_toArray, List.set_cons_zero, List.set_cons_succ])
    iterate 2 (refine Stab.wpX_val rfl rfl ?_; apply Exists.intro; refine ⟨fun wx hC _ => ?_, ?_⟩; (have r := cell_of_heap (hC.blk G1); go_simp; (try simp (disch := omega) only [↓IntWalk.iteOmega, Stab.yieldsUpon_value, IntWalk.i64_in]); exact ⟨Ext.refl _, rfl⟩); simp only [Act.put, List.setIfInBounds_toArray, List.set_cons_zero, List.set_cons_succ])
    iterate 1 (refine Stab.wpX_call1 rfl rfl (fun _ _ _ _ => trivial) ?_; apply Exists.intro; refine ⟨fun wx hC _ _ => ?_, ?_⟩; (go_simp; refine ⟨rfl, ?_⟩; refine (within_any _ _ _ _).mono ?_; rintro ev w9 ⟨rfl, hb9⟩; (first | (subst hb9; exact ⟨Ext.refl _, rfl, trivial⟩) | (subst hb9; exact ⟨Ext.refl _, rfl⟩) | exact ⟨hb9, rfl, trivial⟩ | exact ⟨hb9, rfl⟩)); simp only [Act.put, List.setIfInBounds_toArray, List.set_cons_zero, List.set_cons_succ])
    iterate 1 (refine Stab.wpX_call1 rfl rfl (fun _ _ _ _ => trivial) ?_; apply Exists.intro; refine ⟨fun wx hC _ _ => ?_, ?_⟩; (go_simp; refine ⟨rfl, ?_⟩; refine (holds_part _ _ _).mono ?_; rintro ev w9 ⟨rfl, hb9⟩; (first | (subst hb9; exact ⟨Ext.refl _, rfl, trivial⟩) | (subst hb9; exact ⟨Ext.refl _, rfl⟩) | exact ⟨hb9, rfl, trivial⟩ | exact ⟨hb9, rfl⟩)); simp only [Act.put, List.setIfInBounds_toArray, List.set_cons_zero, List.set_cons_succ])
    iterate 1 (refine Stab.wpX_val rfl rfl ?_; apply Exists.intro; refine ⟨fun wx hC _ => ?_, ?_⟩; (have r := cell_of_heap (hC.blk G1); go_simp; (try simp (disch := omega) only [↓IntWalk.iteOmega, Stab.yieldsUpon_value, IntWalk.i64_in]); exact ⟨Ext.refl _, rfl⟩); simp only [Act.put, List.setIfInBounds_toArray, List.set_cons_zero, List.set_cons_succ])
    iterate 1 (refine Stab.wpX_call1 rfl rfl (fun _ _ _ _ => trivial) ?_; apply Exists.intro; refine ⟨fun wx hC _ _ => ?_, ?_⟩; (go_simp; refine ⟨rfl, ?_⟩; refine (holds_part _ _ _).mono ?_; rintro ev w9 ⟨rfl, hb9⟩; (first | (subst hb9; exact ⟨Ext.refl _, rfl, trivial⟩) | (subst hb9; exact ⟨Ext.refl _, rfl⟩) | exact ⟨hb9, rfl, trivial⟩ | exact ⟨hb9, rfl⟩)); simp only [Act.put, List.setIfInBounds_toArray, List.set_cons_zero, List.set_cons_succ])
    refine Stab.wpX_new (fun u W => ∃ b, u = .slice (some ⟨b, 0, none⟩) 4 4 ∧ W.heap[b]? = some (.cells #[e5, holdsV ⟨#[112, 114, 101, 118]⟩ (rightI l.prev.i l.prev.t l.prev.k), holdsV ⟨#[99, 111, 109, 109, 105, 116]⟩ (inR l.commit 0 1099511627776), holdsV ⟨#[101, 110, 116, 114, 105, 101, 115]⟩ (rowOk l)] 101)) rfl rfl (by kernel_rfl) (fun u W W' ⟨b, h1, h2⟩ hle => ⟨b, h1, hle.blk h2⟩) (fun _ _ _ _ => trivial) ?_ ?_
    · intro wx hC hF
      refine yields_build 4 _ rfl _ ?_ _ (build4 (e5) (holdsV ⟨#[112, 114, 101, 118]⟩ (rightI l.prev.i l.prev.t l.prev.k)) (holdsV ⟨#[99, 111, 109, 109, 105, 116]⟩ (inR l.commit 0 1099511627776)) (holdsV ⟨#[101, 110, 116, 114, 105, 101, 115]⟩ (rowOk l)) wx HER.out.cells (holdsV_cells _ _) (holdsV_cells _ _) (holdsV_cells _ _))
      simp [Act.eval]
    rintro ul ⟨_, _, ⟨lb, rfl, _⟩, _⟩
    simp only [Act.put, List.setIfInBounds_toArray, List.set_cons_zero, List.set_cons_succ]
    refine Stab.wpX_call (fun u W => Err (2 + 1) W ((ok0 l && decide (0 < l.term)) && (rightI l.prev.i l.prev.t l.prev.k && (inR l.commit 0 1099511627776 && rowOk l))) u) (fun _ _ => True) rfl rfl (fun _ _ _ h he => h.ext he) (fun _ _ _ _ _ => trivial) ?_ ?_
    · intro wx hC _ hF
      obtain ⟨lb', hl1, hl2⟩ := (hF 12 (by kernel_rfl)).2 rfl
      obtain rfl : lb = lb' := by simpa using hl1
      go_simp
      refine ⟨rfl, ?_⟩
      refine (join_errs 2 (some ⟨lb, 0, none⟩) 4 [e5, holdsV ⟨#[112, 114, 101, 118]⟩ (rightI l.prev.i l.prev.t l.prev.k), holdsV ⟨#[99, 111, 109, 109, 105, 116]⟩ (inR l.commit 0 1099511627776), holdsV ⟨#[101, 110, 116, 114, 105, 101, 115]⟩ (rowOk l)] [(ok0 l) && (decide (0 < l.term)), rightI l.prev.i l.prev.t l.prev.k, inR l.commit 0 1099511627776, rowOk l] ((ok0 l && decide (0 < l.term)) && (rightI l.prev.i l.prev.t l.prev.k && (inR l.commit 0 1099511627776 && rowOk l))) wx (rd_heap hl2) (by simp) (by simp [Bool.and_assoc]) ⟨HER.out.ext hC, (Err.holds _ _ _).le (by omega), (Err.holds _ _ _).le (by omega), (Err.holds _ _ _).le (by omega), trivial⟩).mono ?_
      rintro ev w9 ⟨v, rfl, hEr, hE9⟩
      exact ⟨hE9, hEr⟩
    rintro uj ⟨_, _, _, _⟩
    simp only [Act.put, List.setIfInBounds_toArray, List.set_cons_zero, List.set_cons_succ]
    refine Stab.wpX_end fun w8 hC8 _ hF8 => ?_
    have hEr := (hF8 13).2 rfl
    have z2 := hC8.blk G2
    go_wp2_with (refine wpList_store_let rfl _ _ rfl rfl (w.heap.size + 1) l.o3 rfl rfl z2 ?_)
    exact bodyPost_ret (v := .tuple #[l.o3.v, uj]) (results_has _ _ _ l.o3 uj rfl rfl z2) rfl ⟨_, rfl, hEr.le (by omega), HE.trans hC8⟩

theorem has_3 (l : Let) (w : World) (hin : l.inW w) (hg : ErrT w) (hk : l.kind = 3) :
    Calls Tryz.prog 130 #[l.v] w (HasPost 4 l.o3 ((ok0 l && decide (0 < l.term)) && (rightI l.prev.i l.prev.t l.prev.k && (inR l.commit 0 1099511627776 && rowOk l))) w) :=
  has_front l w _ fun _ _ _ _ _ _ _ _ _ _ _ _ _ _ _ _ _ _ _ _ _ _ _ _ _ _ _ _ _ _ _ _ _ _ _ _ _ _ _ _ _ _ _ _ _ _ _ _ _ _ _ _ _ _ _ _ _ _ _ _ _ _ _ _ _ _ _ _ _ _ _ _ _ _ _ _ _ _ _ _ _ _ _ _ _ _ _ _ _ _ _ _ _ _ _ _ _ _ _ _ _ _ _ _ _ _ _ _ _ _ _ _ _ _ _ _ _ _ _ _ _ _ _ _ _ _ _ _ _ _ _ _ _ _ _ _ _ _ _ _ _ _ _ _ _ _ _ _ _ _ _ _ _ _ _ _ _ _ _ _ _ _ _ _ _ _ _ _ _ _ _ _ _ _ _ _ _ _ _ _ _ _ _ _ _ _ _ _ _ _ _ _ _ _ _ _ _ _ _ _ _ _ _ _ _ _ _ _ _ _ _ _ _ _ _ _ _ _ _ _ _ _ _ _ _ _ _ _ _ _ _ _ _ _ _ _ _ _ _ _ _ _ _ _ wx h => tail_3 l w hin hg hk _ _ _ _ _ _ _ _ _ _ _ _ _ _ _ _ _ _ _ _ _ _ _ _ _ _ _ _ _ _ _ _ _ _ _ _ _ _ _ _ _ _ _ _ _ _ _ _ _ _ _ _ _ _ _ _ _ _ _ _ _ _ _ _ _ _ _ _ _ _ _ _ _ _ _ _ _ _ _ _ _ _ _ _ _ _ _ _ _ _ _ _ _ _ _ _ _ _ _ _ _ _ _ _ _ _ _ _ _ _ _ _ _ _ _ _ _ _ _ _ _ _ _ _ _ _ _ _ _ _ _ _ _ _ _ _ _ _ _ _ _ _ _ _ _ _ _ _ _ _ _ _ _ _ _ _ _ _ _ _ _ _ _ _ _ _ _ _ _ _ _ _ _ _ _ _ _ _ _ _ _ _ _ _ _ _ _ _ _ _ _ _ _ _ _ _ _ _ _ _ _ _ _ _ _ _ _ _ _ _ _ _ _ _ _ _ _ _ _ _ _ _ _ _ _ _ _ _ _ _ _ _ _ _ _ _ _ _ _ _ _ _ _ _ wx h
end Go.Proofs.YtjnllilmimngoaaGreatDoor
