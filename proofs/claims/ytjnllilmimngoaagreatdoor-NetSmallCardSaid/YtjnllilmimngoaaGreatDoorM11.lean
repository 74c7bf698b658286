/-
  has, at a letter of kind 8b.
  has, at a letter of kind X.
  A whole letter is stored; what a letter has in plain; how it is compared.
  How letters' plain parts are compared.
  has at any letter; check; Right.
-/
import Derived.Test.YtjnllilmimngoaaGreatDoorM7
import Derived.Test.YtjnllilmimngoaaGreatDoorM6
import Derived.Test.YtjnllilmimngoaaGreatDoorM8
import Derived.Test.YtjnllilmimngoaaGreatDoorM9
import Derived.Test.YtjnllilmimngoaaGreatDoorM10
import Derived.Test.YtjnllilmimngoaaGreatDoorM4
namespace Go.Proofs.YtjnllilmimngoaaGreatDoor
open Go.RowKit

set_option maxRecDepth 1000000 in
set_option maxHeartbeats 4000000 in
theorem tail_8b (l : Let) (w : World) (hin : l.inW w) (_hg : ErrT w) (hk : l.kind = 8) (hw : l.ents.length = 0) (u3 u4 u5 u6 u7 u8 u9 u10 u11 u12 u13 u14 u15 u16 u17 u18 u19 u20 u21 u22 u23 u24 u25 u26 u27 u28 u29 u30 u31 u32 u33 u34 u35 u36 u37 u38 u39 u40 u41 u42 u43 u44 u45 u46 u47 u48 u49 u50 u51 u52 u53 u54 u55 u56 u57 u58 u59 u60 u61 u62 u63 u64 u65 u66 u67 u68 u69 u70 u71 u72 u73 u74 u75 u76 u77 u78 u79 u80 u81 u82 u83 u84 u85 u86 u87 u88 u89 u90 u91 u92 u93 u94 u95 u96 u97 u98 u99 u100 u101 u102 u103 u104 u105 u106 u107 u108 u109 u110 u111 u112 u113 u114 u115 u116 u117 u118 u119 u120 u121 u122 u123 u124 u125 u126 u127 u128 u129 u130 u131 u132 u133 u134 u135 u136 u137 u138 u139 u140 u141 u142 u143 u144 u145 u146 u147 u148 u149 u150 u151 u152 u153 u154 u155 u156 u157 u158 u159 u160 u161 u162 u163 u164 u165 u166 u167 u168 u169 u170 u171 u172 u173 u174 u175 u176 u177 u178 u179 u180 u181 u182 u183 u184 u185 u186 u187 u188 u189 u190 u191 u192 u193 u194 u195 u196 u197 u198 u199 u200 u201 u202 u203 u204 u205 u206 u207 u208 u209 u210 u211 u212 u213 u214 u215 u216 u217 u218 u219 u220 u221 u222 u223 u224 u225 u226 u227 u228 u229 u230 u231 u232 u233 u234 u235 u236 u237 u238 u239 u240 u241 u242 u243 u244 u245 u246 : Value) (wc : World) (hcut : HasRel l w u3 wc) :
    Code.wp Tryz.prog hasA (bodyPost Tryz.prog Tryz.f130 (HasPost 4 l.o5 (ok0 l && carriedOk l) w)) ⟨#[.agg l.arr, .pointer (some ⟨w.heap.size, 0, none⟩), .pointer (some ⟨w.heap.size + 1, 0, none⟩), u3, u4, u5, u6, u7, u8, u9, u10, u11, u12, u13, u14, u15, u16, u17, u18, u19, u20, u21, u22, u23, u24, u25, u26, u27, u28, u29, u30, u31, u32, u33, u34, u35, u36, u37, u38, u39, u40, u41, u42, u43, u44, u45, u46, u47, u48, u49, u50, u51, u52, u53, u54, u55, u56, u57, u58, u59, u60, u61, u62, u63, u64, u65, u66, u67, u68, u69, u70, u71, u72, u73, u74, u75, u76, u77, u78, u79, u80, u81, u82, u83, u84, u85, u86, u87, u88, u89, u90, u91, u92, u93, u94, u95, u96, u97, u98, u99, u100, u101, u102, u103, u104, u105, u106, u107, u108, u109, u110, u111, u112, u113, u114, u115, u116, u117, u118, u119, u120, u121, u122, u123, u124, u125, u126, u127, u128, u129, u130, u131, u132, u133, u134, u135, u136, u137, u138, u139, u140, u141, u142, u143, u144, u145, u146, u147, u148, u149, u150, u151, u152, u153, u154, u155, u156, u157, u158, u159, u160, u161, u162, u163, u164, u165, u166, u167, u168, u169, u170, u171, u172, u173, u174, u175, u176, u177, u178, u179, u180, u181, u182, u183, u184, u185, u186, u187, u188, u189, u190, u191, u192, u193, u194, u195, u196, u197, u198, u199, u200, u201, u202, u203, u204, u205, u206, u207, u208, u209, u210, u211, u212, u213, u214, u215, u216, u217, u218, u219, u220, u221, u222, u223, u224, u225, u226, u227, u228, u229, u230, u231, u232, u233, u234, u235, u236, u237, u238, u239, u240, u241, u242, u243, u244, u245, u246], []⟩ wc := by
  have k1 : (l.kind == 1) = false := by simp; omega
  have k2 : (l.kind == 2) = false := by simp; omega
  have k3 : (l.kind == 3) = false := by simp; omega
  have k4 : (l.kind == 4) = false := by simp; omega
  have k5 : (l.kind == 5) = false := by simp; omega
  have k6 : (l.kind == 6) = false := by simp; omega
  have k7 : (l.kind == 7) = false := by simp; omega
  have k8 : (l.kind == 8) = true := by simp; omega
  clear hk
  obtain ⟨hEr, HE, G1, G2⟩ := hcut
  have HER := Lib.hid hEr
  clear hEr
  conv => arg 2; whnf
  have r1 := cell_of_heap G1
  have r2 := cell_of_heap G2
  have q2 := frozen_of_heap G2
  have HEX := Lib.hid HE
  have HG1 := Lib.hid G1
  have HG2 := Lib.hid G2
  clear HE G1 G2
  have dw : decide (0 < (l.ents.length : Int)) = false := by simp [hw]
  go_upto_region 38 with fail
  refine Stab.wp_region_lex (Fr (isB (w.heap.size + 1))) (Fr (isB (w.heap.size + 1)) _) (fun W => Ext w W ∧ W.heap[w.heap.size + 1]? = some (.cells l.base.arr 35) ∧ Err 1 W (ok0 l) u3) (by kernel_rfl) (by kernel_rfl) (fun _ _ h => Fr.ofExt _ h) (fun _ _ h k => h.trans k (fun _ _ t => t)) (fun _ _ h k => ⟨h.1.trans k, k.blk h.2.1, h.2.2.ext k⟩) (Fr.ofExt _ ((Ext.refl _).drew)) ⟨HEX.out.drew, HG2.out, HER.out.ext ((Ext.refl _).drew)⟩ ?_
  simp only [Stab.zipL, Nat.reduceAdd]
  iterate 6 (refine Stab.wpX_val rfl rfl ?_; apply Exists.intro; refine ⟨fun wx hC _ => ?_, ?_⟩; (have r := cell_of_heap ((hC.block _ (heap_lt HG1.out) (by unfold isB; omega)).trans HG1.out); go_simp; (try simp (disch := omega) only [↓IntWalk.iteOmega, Stab.yieldsUpon_value, IntWalk.i64_in]); exact ⟨Ext.refl _, rfl⟩); simp only [Act.put, List.setIfInBounds_toArray, List.set_cons_zero, List.set_cons_succ])
  iterate 1 (refine Stab.wpX_val rfl rfl ?_; apply Exists.intro; refine ⟨fun wx hC _ => ?_, ?_⟩; (have r := cell_of_heap ((hC.block _ (heap_lt HG1.out) (by unfold isB; omega)).trans HG1.out); go_simp; (try simp (disch := omega) only [↓IntWalk.iteOmega, Stab.yieldsUpon_value, IntWalk.i64_in]); exact ⟨Ext.refl _, rfl⟩); simp only [Act.put, List.setIfInBounds_toArray, List.set_cons_zero, List.set_cons_succ])
  refine Stab.wpX_call (fun _ _ => True) (fun _ => fun W => Ext w W ∧ W.heap[w.heap.size + 1]? = some (.cells l.o5a.arr 35) ∧ Err 1 W (ok0 l) u3) rfl rfl (fun _ _ _ _ _ => trivial) (fun _ _ _ h k => ⟨h.1.trans k, k.blk h.2.1, h.2.2.ext k⟩) ?_ ?_
  · rintro wx hC ⟨hE, hG, hEr⟩ hF
    have r2 := cell_of_heap hG
    have q2 := frozen_of_heap hG
    go_simp
    exact ⟨(((((((Fr.refl (isB (w.heap.size + 1)) wx).set (p := ⟨w.heap.size + 1, 15, none⟩) (.inl rfl) _).set (p := ⟨w.heap.size + 1, 16, none⟩) (.inl rfl) _).set (p := ⟨w.heap.size + 1, 17, none⟩) (.inl rfl) _).set (p := ⟨w.heap.size + 1, 18, none⟩) (.inl rfl) _).set (p := ⟨w.heap.size + 1, 19, none⟩) (.inl rfl) _).set (p := ⟨w.heap.size + 1, 20, none⟩) (.inl rfl) _), ((((((hE.set (by simp) _).set (by simp) _).set (by simp) _).set (by simp) _).set (by simp) _).set (by simp) _), ((heap_set (heap_set (heap_set (heap_set (heap_set (heap_set hG))))))).trans (by simp only [Let.set15, Let.set16, Let.set17, Let.set18, Let.set19, Let.set20]; rfl), (Err.set (by decide) (Err.set (by decide) (Err.set (by decide) (Err.set (by decide) (Err.set (by decide) (Err.set (by decide) hEr))))))⟩
  rintro us _
  simp only [Act.put]
  iterate 1 (refine Stab.wpX_val rfl rfl ?_; apply Exists.intro; refine ⟨fun wx hC _ => ?_, ?_⟩; (have r := cell_of_heap ((hC.block _ (heap_lt HG1.out) (by unfold isB; omega)).trans HG1.out); go_simp; (try simp (disch := omega) only [↓IntWalk.iteOmega, Stab.yieldsUpon_value, IntWalk.i64_in]); exact ⟨Ext.refl _, rfl⟩); simp only [Act.put, List.setIfInBounds_toArray, List.set_cons_zero, List.set_cons_succ])
  refine Stab.wpX_call (fun _ _ => True) (fun _ => fun W => Ext w W ∧ W.heap[w.heap.size + 1]? = some (.cells l.o5b.arr 35) ∧ Err 1 W (ok0 l) u3) rfl rfl (fun _ _ _ _ _ => trivial) (fun _ _ _ h k => ⟨h.1.trans k, k.blk h.2.1, h.2.2.ext k⟩) ?_ ?_
  · rintro wx hC ⟨hE, hG, hEr⟩ hF
    have r2 := cell_of_heap hG
    have q2 := frozen_of_heap hG
    go_simp
    exact ⟨((Fr.refl (isB (w.heap.size + 1)) wx).set (p := ⟨w.heap.size + 1, 21, none⟩) (.inl rfl) _), (hE.set (by simp) _), ((heap_set hG)).trans (by simp only [Let.set21]; rfl), (Err.set (by decide) hEr)⟩
  rintro us _
  simp only [Act.put]
  iterate 1 (refine Stab.wpX_val rfl rfl ?_; apply Exists.intro; refine ⟨fun wx hC _ => ?_, ?_⟩; (have r := cell_of_heap ((hC.block _ (heap_lt HG1.out) (by unfold isB; omega)).trans HG1.out); go_simp; (try simp (disch := omega) only [↓IntWalk.iteOmega, Stab.yieldsUpon_value, IntWalk.i64_in]); exact ⟨Ext.refl _, rfl⟩); simp only [Act.put, List.setIfInBounds_toArray, List.set_cons_zero, List.set_cons_succ])
  refine Stab.wpX_call (fun _ _ => True) (fun _ => fun W => Ext w W ∧ W.heap[w.heap.size + 1]? = some (.cells l.o5.arr 35) ∧ Err 1 W (ok0 l) u3) rfl rfl (fun _ _ _ _ _ => trivial) (fun _ _ _ h k => ⟨h.1.trans k, k.blk h.2.1, h.2.2.ext k⟩) ?_ ?_
  · rintro wx hC ⟨hE, hG, hEr⟩ hF
    have r2 := cell_of_heap hG
    have q2 := frozen_of_heap hG
    go_simp
    exact ⟨((Fr.refl (isB (w.heap.size + 1)) wx).set (p := ⟨w.heap.size + 1, 22, none⟩) (.inl rfl) _), (hE.set (by simp) _), ((heap_set hG)).trans (by simp only [Let.set22]; rfl), (Err.set (by decide) hEr)⟩
  rintro us _
  simp only [Act.put]
  refine Stab.wpX_end ?_
  rintro w2 hC ⟨HE, G2, hEr⟩ _
  have G1 := (hC.block _ (heap_lt HG1.out) (by unfold isB; omega)).trans HG1.out
  clear r1 r2 q2 HEX HG1 HG2 HER hC
  have HER := Lib.hid hEr
  clear hEr
  go_upto_region 39 with fail
  refine Stab.wp_region_lexTail 6 Ext (Ext _) (fun _ => True) (by kernel_rfl) (by kernel_rfl) (fun _ _ h => h) (fun _ _ h k => Ext.trans h k) (fun _ _ _ _ => trivial) ((Ext.refl _).drew) trivial ?_
  simp only [List.take_succ_cons, List.take_zero, List.drop_succ_cons, List.drop_zero, Stab.zipL, Nat.reduceAdd]
  refine Stab.wpX_val rfl rfl ⟨l.o5.v, fun wx hC _ => yields_load_let _ rfl (w.heap.size + 1) l.o5 rfl (hC.blk G2), ?_⟩
  simp only [Act.put, List.setIfInBounds_toArray, List.set_cons_zero, List.set_cons_succ]
  iterate 1 (refine Stab.wpX_val rfl rfl ?_; apply Exists.intro; refine ⟨fun wx hC _ => ?_, ?_⟩; (have r := cell_of_heap (hC.blk G1); go_simp; (try simp (disch := omega) only [↓IntWalk.iteOmega, Stab.yieldsUpon_value, IntWalk.i64_in]); exact ⟨Ext.refl _, rfl⟩); simp only [Act.put, List.setIfInBounds_toArray, List.set_cons_zero, List.set_cons_succ])
  refine Stab.wpX_val rfl rfl ⟨l.v, fun wx hC _ => yields_load_let _ rfl w.heap.size l rfl (hC.blk G1), ?_⟩
  simp only [Act.put, List.setIfInBounds_toArray, List.set_cons_zero, List.set_cons_succ]
  refine Stab.wpX_call (fun u W => Err 2 W (carriedOk l) u) (fun _ _ => True) rfl rfl (fun _ _ _ h he => h.ext he) (fun _ _ _ _ _ => trivial) ?_ ?_
  · intro wx hC _ hF
    go_simp
    refine ⟨rfl, ?_⟩
    refine (carried_v l _ (hin.ext (HE.trans hC))).mono ?_
    rintro ev w9 ⟨v, rfl, hEr, hE9⟩
    exact ⟨hE9, hEr⟩
  rintro ux ⟨_, _, _, _⟩
  simp only [Act.put, List.setIfInBounds_toArray, List.set_cons_zero, List.set_cons_succ]
  refine Stab.wpX_new (fun u W => ∃ b, u = .slice (some ⟨b, 0, none⟩) 2 2 ∧ W.heap[b]? = some (.cells #[u3, ux] 101)) rfl rfl (by kernel_rfl) (fun u W W' ⟨b, h1, h2⟩ hle => ⟨b, h1, hle.blk h2⟩) (fun _ _ _ _ => trivial) ?_ ?_
  · intro wx hC hF
    refine yields_build 2 _ rfl _ ?_ _ (build2 (u3) (ux) wx HER.out.cells ((hF 3 (by kernel_rfl)).2 rfl).cells)
    simp [Act.eval]
  rintro ul ⟨_, _, ⟨lb, rfl, _⟩, _⟩
  simp only [Act.put, List.setIfInBounds_toArray, List.set_cons_zero, List.set_cons_succ]
  refine Stab.wpX_call (fun u W => Err (2 + 1) W (ok0 l && carriedOk l) u) (fun _ _ => True) rfl rfl (fun _ _ _ h he => h.ext he) (fun _ _ _ _ _ => trivial) ?_ ?_
  · intro wx hC _ hF
    obtain ⟨lb', hl1, hl2⟩ := (hF 4 (by kernel_rfl)).2 rfl
    obtain rfl : lb = lb' := by simpa using hl1
    go_simp
    refine ⟨rfl, ?_⟩
    refine (join_errs 2 (some ⟨lb, 0, none⟩) 2 [u3, ux] [ok0 l, carriedOk l] (ok0 l && carriedOk l) wx (rd_heap hl2) (by simp) (by simp) ⟨(HER.out.ext hC).le (by omega), (hF 3 (by kernel_rfl)).1.2 rfl, trivial⟩).mono ?_
    rintro ev w9 ⟨v, rfl, hEr, hE9⟩
    exact ⟨hE9, hEr⟩
  rintro uj ⟨_, _, _, _⟩
  simp only [Act.put, List.setIfInBounds_toArray, List.set_cons_zero, List.set_cons_succ]
  refine Stab.wpX_end fun w8 hC8 _ hF8 => ?_
  have hEr := (hF8 5).2 rfl
  have z2 := hC8.blk G2
  go_wp2_with (refine wpList_store_let rfl _ _ rfl rfl (w.heap.size + 1) l.o5 rfl rfl z2 ?_)
  exact bodyPost_ret (v := .tuple #[l.o5.v, uj]) (results_has _ _ _ l.o5 uj rfl rfl z2) rfl ⟨_, rfl, hEr.le (by omega), HE.trans hC8⟩

theorem has_8b (l : Let) (w : World) (hin : l.inW w) (hg : ErrT w) (hk : l.kind = 8) (hw : l.ents.length = 0) :
    Calls Tryz.prog 130 #[l.v] w (HasPost 4 l.o5 (ok0 l && carriedOk l) w) :=
  has_front l w _ fun _ _ _ _ _ _ _ _ _ _ _ _ _ _ _ _ _ _ _ _ _ _ _ _ _ _ _ _ _ _ _ _ _ _ _ _ _ _ _ _ _ _ _ _ _ _ _ _ _ _ _ _ _ _ _ _ _ _ _ _ _ _ _ _ _ _ _ _ _ _ _ _ _ _ _ _ _ _ _ _ _ _ _ _ _ _ _ _ _ _ _ _ _ _ _ _ _ _ _ _ _ _ _ _ _ _ _ _ _ _ _ _ _ _ _ _ _ _ _ _ _ _ _ _ _ _ _ _ _ _ _ _ _ _ _ _ _ _ _ _ _ _ _ _ _ _ _ _ _ _ _ _ _ _ _ _ _ _ _ _ _ _ _ _ _ _ _ _ _ _ _ _ _ _ _ _ _ _ _ _ _ _ _ _ _ _ _ _ _ _ _ _ _ _ _ _ _ _ _ _ _ _ _ _ _ _ _ _ _ _ _ _ _ _ _ _ _ _ _ _ _ _ _ _ _ _ _ _ _ _ _ _ _ _ _ _ _ _ _ _ _ _ _ _ wx h => tail_8b l w hin hg hk hw _ _ _ _ _ _ _ _ _ _ _ _ _ _ _ _ _ _ _ _ _ _ _ _ _ _ _ _ _ _ _ _ _ _ _ _ _ _ _ _ _ _ _ _ _ _ _ _ _ _ _ _ _ _ _ _ _ _ _ _ _ _ _ _ _ _ _ _ _ _ _ _ _ _ _ _ _ _ _ _ _ _ _ _ _ _ _ _ _ _ _ _ _ _ _ _ _ _ _ _ _ _ _ _ _ _ _ _ _ _ _ _ _ _ _ _ _ _ _ _ _ _ _ _ _ _ _ _ _ _ _ _ _ _ _ _ _ _ _ _ _ _ _ _ _ _ _ _ _ _ _ _ _ _ _ _ _ _ _ _ _ _ _ _ _ _ _ _ _ _ _ _ _ _ _ _ _ _ _ _ _ _ _ _ _ _ _ _ _ _ _ _ _ _ _ _ _ _ _ _ _ _ _ _ _ _ _ _ _ _ _ _ _ _ _ _ _ _ _ _ _ _ _ _ _ _ _ _ _ _ _ _ _ _ _ _ _ _ _ _ _ _ _ _ wx h
end Go.Proofs.YtjnllilmimngoaaGreatDoor
namespace Go.Proofs.YtjnllilmimngoaaGreatDoor
open Go.RowKit

set_option maxRecDepth 1000000 in
set_option maxHeartbeats 4000000 in
theorem tail_X (l : Let) (w : World) (_hin : l.inW w) (_hg : ErrT w) (hk : l.kind < 1 ∨ 8 < l.kind) (u3 u4 u5 u6 u7 u8 u9 u10 u11 u12 u13 u14 u15 u16 u17 u18 u19 u20 u21 u22 u23 u24 u25 u26 u27 u28 u29 u30 u31 u32 u33 u34 u35 u36 u37 u38 u39 u40 u41 u42 u43 u44 u45 u46 u47 u48 u49 u50 u51 u52 u53 u54 u55 u56 u57 u58 u59 u60 u61 u62 u63 u64 u65 u66 u67 u68 u69 u70 u71 u72 u73 u74 u75 u76 u77 u78 u79 u80 u81 u82 u83 u84 u85 u86 u87 u88 u89 u90 u91 u92 u93 u94 u95 u96 u97 u98 u99 u100 u101 u102 u103 u104 u105 u106 u107 u108 u109 u110 u111 u112 u113 u114 u115 u116 u117 u118 u119 u120 u121 u122 u123 u124 u125 u126 u127 u128 u129 u130 u131 u132 u133 u134 u135 u136 u137 u138 u139 u140 u141 u142 u143 u144 u145 u146 u147 u148 u149 u150 u151 u152 u153 u154 u155 u156 u157 u158 u159 u160 u161 u162 u163 u164 u165 u166 u167 u168 u169 u170 u171 u172 u173 u174 u175 u176 u177 u178 u179 u180 u181 u182 u183 u184 u185 u186 u187 u188 u189 u190 u191 u192 u193 u194 u195 u196 u197 u198 u199 u200 u201 u202 u203 u204 u205 u206 u207 u208 u209 u210 u211 u212 u213 u214 u215 u216 u217 u218 u219 u220 u221 u222 u223 u224 u225 u226 u227 u228 u229 u230 u231 u232 u233 u234 u235 u236 u237 u238 u239 u240 u241 u242 u243 u244 u245 u246 : Value) (wc : World) (hcut : HasRel l w u3 wc) :
    Code.wp Tryz.prog hasA (bodyPost Tryz.prog Tryz.f130 (HasPost 4 l.base (false) w)) ⟨#[.agg l.arr, .pointer (some ⟨w.heap.size, 0, none⟩), .pointer (some ⟨w.heap.size + 1, 0, none⟩), u3, u4, u5, u6, u7, u8, u9, u10, u11, u12, u13, u14, u15, u16, u17, u18, u19, u20, u21, u22, u23, u24, u25, u26, u27, u28, u29, u30, u31, u32, u33, u34, u35, u36, u37, u38, u39, u40, u41, u42, u43, u44, u45, u46, u47, u48, u49, u50, u51, u52, u53, u54, u55, u56, u57, u58, u59, u60, u61, u62, u63, u64, u65, u66, u67, u68, u69, u70, u71, u72, u73, u74, u75, u76, u77, u78, u79, u80, u81, u82, u83, u84, u85, u86, u87, u88, u89, u90, u91, u92, u93, u94, u95, u96, u97, u98, u99, u100, u101, u102, u103, u104, u105, u106, u107, u108, u109, u110, u111, u112, u113, u114, u115, u116, u117, u118, u119, u120, u121, u122, u123, u124, u125, u126, u127, u128, u129, u130, u131, u132, u133, u134, u135, u136, u137, u138, u139, u140, u141, u142, u143, u144, u145, u146, u147, u148, u149, u150, u151, u152, u153, u154, u155, u156, u157, u158, u159, u160, u161, u162, u163, u164, u165, u166, u167, u168, u169, u170, u171, u172, u173, u174, u175, u176, u177, u178, u179, u180, u181, u182, u183, u184, u185, u186, u187, u188, u189, u190, u191, u192, u193, u194, u195, u196, u197, u198, u199, u200, u201, u202, u203, u204, u205, u206, u207, u208, u209, u210, u211, u212, u213, u214, u215, u216, u217, u218, u219, u220, u221, u222, u223, u224, u225, u226, u227, u228, u229, u230, u231, u232, u233, u234, u235, u236, u237, u238, u239, u240, u241, u242, u243, u244, u245, u246], []⟩ wc := by
  have k1 : (l.kind == 1) = false := by simp; omega
  have k2 : (l.kind == 2) = false := by simp; omega
  have k3 : (l.kind == 3) = false := by simp; omega
  have k4 : (l.kind == 4) = false := by simp; omega
  have k5 : (l.kind == 5) = false := by simp; omega
  have k6 : (l.kind == 6) = false := by simp; omega
  have k7 : (l.kind == 7) = false := by simp; omega
  have k8 : (l.kind == 8) = false := by simp; omega
  clear hk
  obtain ⟨hEr, HE, G1, G2⟩ := hcut
  have HER := Lib.hid hEr
  clear hEr
  conv => arg 2; whnf
  have r1 := cell_of_heap G1
  have r2 := cell_of_heap G2
  have q2 := frozen_of_heap G2
  have HEX := Lib.hid HE
  have HG1 := Lib.hid G1
  have HG2 := Lib.hid G2
  clear HE G1 G2
  go_upto_region 40 with fail
  have G2 := HG2.out
  clear r1 r2 q2
  refine Stab.wp_region_lexTail 2 Ext (Ext _) (fun _ => True) (by kernel_rfl) (by kernel_rfl) (fun _ _ h => h) (fun _ _ h k => Ext.trans h k) (fun _ _ _ _ => trivial) ((Ext.refl _).drew) trivial ?_
  simp only [List.take_succ_cons, List.take_zero, List.drop_succ_cons, List.drop_zero, Stab.zipL, Nat.reduceAdd]
  refine Stab.wpX_val rfl rfl ⟨l.base.v, fun wx hC _ => yields_load_let _ rfl (w.heap.size + 1) l.base rfl (hC.blk G2), ?_⟩
  simp only [Act.put, List.setIfInBounds_toArray, List.set_cons_zero, List.set_cons_succ]
  iterate 1 (refine Stab.wpX_call1 rfl rfl (fun _ _ _ _ => trivial) ?_; apply Exists.intro; refine ⟨fun wx hC _ _ => ?_, ?_⟩; (go_simp; refine ⟨rfl, ?_⟩; refine (holds_part _ _ _).mono ?_; rintro ev w9 ⟨rfl, hb9⟩; (first | (subst hb9; exact ⟨Ext.refl _, rfl, trivial⟩) | (subst hb9; exact ⟨Ext.refl _, rfl⟩) | exact ⟨hb9, rfl, trivial⟩ | exact ⟨hb9, rfl⟩)); simp only [Act.put, List.setIfInBounds_toArray, List.set_cons_zero, List.set_cons_succ])
  refine Stab.wpX_end fun w8 hC8 _ hF8 => ?_
  have z2 := hC8.blk G2
  go_wp2_with (refine wpList_store_let rfl _ _ rfl rfl (w.heap.size + 1) l.base rfl rfl z2 ?_)
  exact bodyPost_ret (v := .tuple #[l.base.v, holdsV ⟨#[107, 105, 110, 100]⟩ false]) (results_has _ _ _ l.base _ rfl rfl z2) rfl ⟨_, rfl, (Err.holds _ _ _).le (by omega), HEX.out.trans hC8⟩

theorem has_X (l : Let) (w : World) (hin : l.inW w) (hg : ErrT w) (hk : l.kind < 1 ∨ 8 < l.kind) :
    Calls Tryz.prog 130 #[l.v] w (HasPost 4 l.base (false) w) :=
  has_front l w _ fun _ _ _ _ _ _ _ _ _ _ _ _ _ _ _ _ _ _ _ _ _ _ _ _ _ _ _ _ _ _ _ _ _ _ _ _ _ _ _ _ _ _ _ _ _ _ _ _ _ _ _ _ _ _ _ _ _ _ _ _ _ _ _ _ _ _ _ _ _ _ _ _ _ _ _ _ _ _ _ _ _ _ _ _ _ _ _ _ _ _ _ _ _ _ _ _ _ _ _ _ _ _ _ _ _ _ _ _ _ _ _ _ _ _ _ _ _ _ _ _ _ _ _ _ _ _ _ _ _ _ _ _ _ _ _ _ _ _ _ _ _ _ _ _ _ _ _ _ _ _ _ _ _ _ _ _ _ _ _ _ _ _ _ _ _ _ _ _ _ _ _ _ _ _ _ _ _ _ _ _ _ _ _ _ _ _ _ _ _ _ _ _ _ _ _ _ _ _ _ _ _ _ _ _ _ _ _ _ _ _ _ _ _ _ _ _ _ _ _ _ _ _ _ _ _ _ _ _ _ _ _ _ _ _ _ _ _ _ _ _ _ _ _ _ wx h => tail_X l w hin hg hk _ _ _ _ _ _ _ _ _ _ _ _ _ _ _ _ _ _ _ _ _ _ _ _ _ _ _ _ _ _ _ _ _ _ _ _ _ _ _ _ _ _ _ _ _ _ _ _ _ _ _ _ _ _ _ _ _ _ _ _ _ _ _ _ _ _ _ _ _ _ _ _ _ _ _ _ _ _ _ _ _ _ _ _ _ _ _ _ _ _ _ _ _ _ _ _ _ _ _ _ _ _ _ _ _ _ _ _ _ _ _ _ _ _ _ _ _ _ _ _ _ _ _ _ _ _ _ _ _ _ _ _ _ _ _ _ _ _ _ _ _ _ _ _ _ _ _ _ _ _ _ _ _ _ _ _ _ _ _ _ _ _ _ _ _ _ _ _ _ _ _ _ _ _ _ _ _ _ _ _ _ _ _ _ _ _ _ _ _ _ _ _ _ _ _ _ _ _ _ _ _ _ _ _ _ _ _ _ _ _ _ _ _ _ _ _ _ _ _ _ _ _ _ _ _ _ _ _ _ _ _ _ _ _ _ _ _ _ _ _ _ _ _ _ wx h
end Go.Proofs.YtjnllilmimngoaaGreatDoor
namespace Go.Proofs.YtjnllilmimngoaaGreatDoor
open Go.RowKit

theorem storeVar_row (T : TypeId) (w : World) (b n : Nat) (cs vs : Array Value) (h : w.heap[b]? = some (.cells cs T)) (hi : (Tryz.prog.info? T).map (·.size) = some n) (hs : cs.size = n) (hv : vs.size = n) (h1 : ∀ v ∈ vs, v.oneCell' = true) :
    ∃ w', (storeVar T ⟨b, 0, none⟩ (.agg vs)).run Tryz.prog w = .ok () w' ∧ w'.heap[b]? = some (.cells vs T) ∧ Fr (isB b) w w' := by
  have hl : vs.toList.length = n := by simpa using hv
  have h2 := run_storeCells_at Tryz.prog b 0 T vs.toList 0 cs w h (by rw [hl]; omega) (fun v hv => h1 v (by simpa using hv))
  have hc : (cs.toList.take (0 + 0) ++ vs.toList ++ cs.toList.drop (0 + 0 + vs.toList.length)).toArray = vs := by
    have hd : cs.toList.drop n = [] := List.drop_of_length_le (by simp [hs])
    rw [hl, Nat.add_zero, Nat.zero_add, hd]
    simp
  rw [hc] at h2
  refine ⟨w.setRow b vs, ?_, setRow_heap w b cs _ _ _ h, ⟨rfl, rfl, rfl, by simp [World.setRow], fun i _ hi => setRow_other w b i _ (fun e => hi e)⟩⟩
  cases hq : Tryz.prog.info? T with
  | none => rw [hq] at hi; cases hi
  | some i =>
    rw [hq] at hi
    have hs : i.size = n := by simpa using hi
    simp only [storeVar, vcells, Sem.run_bind, sizeOf, typeInfo]
    simp [hq, hs, hv, h2]
theorem storeVar_all (w : World) (b : Nat) (cs : Array Value) (l : Let) (h : w.heap[b]? = some (.cells cs 35)) (hs : cs.size = 23) :
    ∃ w', (storeVar 35 ⟨b, 0, none⟩ l.v).run Tryz.prog w = .ok () w' ∧ w'.heap[b]? = some (.cells l.arr 35) ∧ Fr (isB b) w w' :=
  storeVar_row _ w b 23 cs l.arr h infoLet hs l.asize l.one
theorem wpList_store_row {ops : Array Oper} {rest : List Oper} {o : Oper} {a : Act} {w : World} {Q : Exit → Act → World → Prop} (hgd : o.guard = none) (T : TypeId) (x y : Operand) (ho : o.op = .store T x y) (hd : o.dst = none)
    (b n : Nat) (cs vs : Array Value) (hx : a.eval x = .pointer (some ⟨b, 0, none⟩)) (hy : a.eval y = .agg vs) (hg : w.heap[b]? = some (.cells cs T)) (hi : (Tryz.prog.info? T).map (·.size) = some n) (hs : cs.size = n) (hv : vs.size = n) (h1 : ∀ v ∈ vs, v.oneCell' = true)
    (h : ∀ w', w'.heap[b]? = some (.cells vs T) → Fr (isB b) w w' → wpList Tryz.prog ops Q rest a w') : wpList Tryz.prog ops Q (o :: rest) a w := by
  refine wpList_plain hgd fun K hK => ?_
  obtain ⟨w', g1, g2, g3⟩ := storeVar_row T w b n cs vs hg hi hs hv h1
  unfold Oper.wp execOp
  simp only [ho, hx, hy, Instr.storeAt, Instr.sureAddr, Sem.run_bind, Sem.run_pure, Result.andThen_ok, g1]
  have h4 := hK a w' (h w' g2 g3)
  simp [Oper.upon, hd, Act.put, h4]
theorem wpList_store_all {ops : Array Oper} {rest : List Oper} {o : Oper} {a : Act} {w : World} {Q : Exit → Act → World → Prop} (hgd : o.guard = none) (x y : Operand) (ho : o.op = .store 35 x y) (hd : o.dst = none)
    (b : Nat) (l : Let) (cs : Array Value) (hx : a.eval x = .pointer (some ⟨b, 0, none⟩)) (hy : a.eval y = l.v) (hg : w.heap[b]? = some (.cells cs 35)) (hs : cs.size = 23)
    (h : ∀ w', w'.heap[b]? = some (.cells l.arr 35) → Fr (isB b) w w' → wpList Tryz.prog ops Q rest a w') : wpList Tryz.prog ops Q (o :: rest) a w := by
  refine wpList_plain hgd fun K hK => ?_
  obtain ⟨w', h1, h2, h3⟩ := storeVar_all w b cs l hg hs
  unfold Oper.wp execOp
  simp only [ho, hx, hy, Instr.storeAt, Instr.sureAddr, Sem.run_bind, Sem.run_pure, Result.andThen_ok, h1]
  have h4 := hK a w' (h w' h2 h3)
  simp [Oper.upon, hd, Act.put, h4]

def plainArr (l : Let) : Array Value := #[.int .i64 l.index, .int .i64 l.commit, .int .i64 l.piece, .int .i64 l.size, .int .i64 l.last.i, .int .i64 l.last.t, .int .i64 l.last.k, .int .i64 l.prev.i, .int .i64 l.prev.t, .int .i64 l.prev.k, .int .i64 l.slast.i, .int .i64 l.slast.t, .int .i64 l.slast.k, .bool l.yes,
  .int .i64 l.want.length, .int .i64 l.ents.length, .int .i64 l.bs.length, .int .i64 l.mems.length, .int .i64 l.sums.length]
def plainV (l : Let) : Value := .agg (plainArr l)
theorem infoPlain : (Tryz.prog.info? 203).map (·.size) = some 19 := by kernel_rfl
theorem plain_one (l : Let) : ∀ u ∈ (#[.int .i64 l.index, .int .i64 l.commit, .int .i64 l.piece, .int .i64 l.size, .int .i64 l.last.i, .int .i64 l.last.t, .int .i64 l.last.k, .int .i64 l.prev.i, .int .i64 l.prev.t, .int .i64 l.prev.k, .int .i64 l.slast.i, .int .i64 l.slast.t, .int .i64 l.slast.k, .bool l.yes, .int .i64 l.want.length, .int .i64 l.ents.length, .int .i64 l.bs.length, .int .i64 l.mems.length, .int .i64 l.sums.length] : Array Value), u.oneCell' = true := by
  intro u hu
  simp only [List.mem_toArray, List.mem_cons, List.not_mem_nil, or_false] at hu
  rcases hu with rfl | rfl | rfl | rfl | rfl | rfl | rfl | rfl | rfl | rfl | rfl | rfl | rfl | rfl | rfl | rfl | rfl | rfl | rfl <;> rfl
set_option maxRecDepth 100000 in
set_option maxHeartbeats 2000000 in
theorem plainly_any (l : Let) (w : World) : Calls Tryz.prog 133 #[l.v] w fun e w' => e = .returned (plainV l) ∧ Ext w w' := by
  have hone := Lib.hid (plain_one l)
  unfold Let.v
  go_enter Tryz.func133, Tryz.ntmps133
  go_wp2_with (refine wpList_store_row rfl 203 _ _ rfl rfl (w.heap.size + 1) 19 _ #[.int .i64 l.index, .int .i64 l.commit, .int .i64 l.piece, .int .i64 l.size, .int .i64 l.last.i, .int .i64 l.last.t, .int .i64 l.last.k, .int .i64 l.prev.i, .int .i64 l.prev.t, .int .i64 l.prev.k, .int .i64 l.slast.i, .int .i64 l.slast.t, .int .i64 l.slast.k, .bool l.yes, .int .i64 l.want.length, .int .i64 l.ents.length, .int .i64 l.bs.length, .int .i64 l.mems.length, .int .i64 l.sums.length] rfl rfl (heap1 w _ _) infoPlain rfl rfl hone.out ?_; intro w5 hg5 hF5; have HG5 := Lib.hid hg5; have HF5 := Lib.hid hF5; clear hg5 hF5)
  exact bodyPost_ret (v := plainV l) (results_cell_row Tryz.results133 _ w5 (w.heap.size + 1) 203 _ (0, 0) _ rfl HG5.out Tryz.underlying203 rfl (by rw [infoPlain]; rfl)) rfl ⟨rfl, ((Fr.ofExt (isB (w.heap.size + 1)) (((Ext.refl w).alloc _).alloc _)).trans HF5.out (fun _ _ h => h)).toExt (fun i hi => by unfold isB at hi; omega)⟩

def eqI (a b : Id) : Bool := a.i == b.i && (a.t == b.t && a.k == b.k)
def plainEq (a b : Let) : Bool := a.index == b.index && (a.commit == b.commit && (a.piece == b.piece && (a.size == b.size && (eqI a.last b.last && (eqI a.prev b.prev && (eqI a.slast b.slast && (a.yes == b.yes &&
  (((a.want.length : Int) == b.want.length) && (((a.ents.length : Int) == b.ents.length) && (((a.bs.length : Int) == b.bs.length) && (((a.mems.length : Int) == b.mems.length) && ((a.sums.length : Int) == b.sums.length))))))))))))
end Go.Proofs.YtjnllilmimngoaaGreatDoor
namespace Go.Proofs.YtjnllilmimngoaaGreatDoor
open Go.RowKit

theorem partI (x : Int) (cs : Array Value) (k : Nat) (h : cs[k]? = some (.int .i64 x)) (w : World) : (part 3 cs k).run Tryz.prog w = .ok (.int .i64 x) w := by
  simp [part, isAgg, run_underlying Tryz.underlying3, h]
theorem eqIntRun (d : Nat) (x y : Int) (w : World) : (Op.equalIn (d + 1) 3 (.int .i64 x) (.int .i64 y)).run Tryz.prog w = .ok (x == y) w := run_equalIn_int w d _ .i64 .i64 x y Tryz.underlying3
set_option maxHeartbeats 1000000 in
theorem eqRows (d : Nat) (a b c e f a' b' c' e' f' : Int) (w : World) : (Op.equalIn (d + 2) 201 (.agg #[.int .i64 a, .int .i64 b, .int .i64 c, .int .i64 e, .int .i64 f]) (.agg #[.int .i64 a', .int .i64 b', .int .i64 c', .int .i64 e', .int .i64 f'])).run Tryz.prog w = .ok (a == a' && (b == b' && (c == c' && (e == e' && f == f')))) w := by
  obtain ⟨i0, hi, hz0, hz1, hz2⟩ := info_parts Tryz.infoEInts
  have p0 := fun (u v x y z : Int) => partI u #[.int .i64 u, .int .i64 v, .int .i64 x, .int .i64 y, .int .i64 z] 0 rfl
  have p1 := fun (u v x y z : Int) => partI v #[.int .i64 u, .int .i64 v, .int .i64 x, .int .i64 y, .int .i64 z] 1 rfl
  have p2 := fun (u v x y z : Int) => partI x #[.int .i64 u, .int .i64 v, .int .i64 x, .int .i64 y, .int .i64 z] 2 rfl
  have p3 := fun (u v x y z : Int) => partI y #[.int .i64 u, .int .i64 v, .int .i64 x, .int .i64 y, .int .i64 z] 3 rfl
  have p4 := fun (u v x y z : Int) => partI z #[.int .i64 u, .int .i64 v, .int .i64 x, .int .i64 y, .int .i64 z] 4 rfl
  rw [Op.equalIn]
  simp only [Sem.run_bind, run_underlying Tryz.underlying201, Result.andThen_ok, sizeOf, typeInfo, hi, Sem.run_pure, run_program]
  simp [hz1, Std.Legacy.Range.forIn_eq_forIn_range', Std.Legacy.Range.size, List.range', p0, p1, p2, p3, p4, eqIntRun]
  by_cases h1 : a = a' <;> by_cases h2 : b = b' <;> by_cases h3 : c = c' <;> by_cases h4 : e = e' <;> by_cases h5 : f = f' <;> simp [h1, h2, h3, h4, h5]
def eqRow (a b : Let) : Bool := ((a.want.length : Int) == b.want.length) && (((a.ents.length : Int) == b.ents.length) && (((a.bs.length : Int) == b.bs.length) && (((a.mems.length : Int) == b.mems.length) && ((a.sums.length : Int) == b.sums.length))))
theorem eqIdRun (d : Nat) (i t k i' t' k' : Int) (w : World) : (Op.equalIn (d + 2) 26 (.agg #[.int .i64 i, .int .i64 t, .int .i64 k]) (.agg #[.int .i64 i', .int .i64 t', .int .i64 k'])).run Tryz.prog w = .ok (i == i' && (t == t' && k == k')) w := by
  cases h1 : i == i' <;> cases h2 : t == t' <;> cases h3 : k == k'
  all_goals simp [go_sem, h1, h2, h3, Tryz.underlying26, Tryz.underlying3, Tryz.underlying24]
set_option maxHeartbeats 4000000 in
set_option maxRecDepth 100000 in
theorem eqPlain (a b : Let) (w : World) : (binOp .eql 203 (plainV a) (plainV b)).run Tryz.prog w = .ok (.bool (plainEq a b)) w := by
  have hR : ∀ w, (Op.equalIn 9999 201 (.agg #[.int .i64 a.want.length, .int .i64 a.ents.length, .int .i64 a.bs.length, .int .i64 a.mems.length, .int .i64 a.sums.length]) (.agg #[.int .i64 b.want.length, .int .i64 b.ents.length, .int .i64 b.bs.length, .int .i64 b.mems.length, .int .i64 b.sums.length])).run Tryz.prog w = .ok (((a.want.length : Int) == b.want.length) && (((a.ents.length : Int) == b.ents.length) && (((a.bs.length : Int) == b.bs.length) && (((a.mems.length : Int) == b.mems.length) && ((a.sums.length : Int) == b.sums.length))))) w := fun w => eqRows 9997 _ _ _ _ _ _ _ _ _ _ w
  have hL : ∀ w, (Op.equalIn 9999 26 (.agg #[.int .i64 a.last.i, .int .i64 a.last.t, .int .i64 a.last.k]) (.agg #[.int .i64 b.last.i, .int .i64 b.last.t, .int .i64 b.last.k])).run Tryz.prog w = .ok (a.last.i == b.last.i && (a.last.t == b.last.t && a.last.k == b.last.k)) w := fun w => eqIdRun 9997 _ _ _ _ _ _ w
  have hP : ∀ w, (Op.equalIn 9999 26 (.agg #[.int .i64 a.prev.i, .int .i64 a.prev.t, .int .i64 a.prev.k]) (.agg #[.int .i64 b.prev.i, .int .i64 b.prev.t, .int .i64 b.prev.k])).run Tryz.prog w = .ok (a.prev.i == b.prev.i && (a.prev.t == b.prev.t && a.prev.k == b.prev.k)) w := fun w => eqIdRun 9997 _ _ _ _ _ _ w
  have hS : ∀ w, (Op.equalIn 9999 26 (.agg #[.int .i64 a.slast.i, .int .i64 a.slast.t, .int .i64 a.slast.k]) (.agg #[.int .i64 b.slast.i, .int .i64 b.slast.t, .int .i64 b.slast.k])).run Tryz.prog w = .ok (a.slast.i == b.slast.i && (a.slast.t == b.slast.t && a.slast.k == b.slast.k)) w := fun w => eqIdRun 9997 _ _ _ _ _ _ w
  have hq : plainEq a b = (a.index == b.index && (a.commit == b.commit && (a.piece == b.piece && (a.size == b.size && (eqI a.last b.last && (eqI a.prev b.prev && (eqI a.slast b.slast && (a.yes == b.yes && eqRow a b)))))))) := by simp only [plainEq, eqRow]
  rw [hq]
  clear hq
  have e1 : (a.last.i == b.last.i && (a.last.t == b.last.t && a.last.k == b.last.k)) = eqI a.last b.last := rfl
  have e2 : (a.prev.i == b.prev.i && (a.prev.t == b.prev.t && a.prev.k == b.prev.k)) = eqI a.prev b.prev := rfl
  have e3 : (a.slast.i == b.slast.i && (a.slast.t == b.slast.t && a.slast.k == b.slast.k)) = eqI a.slast b.slast := rfl
  have e4 : (((a.want.length : Int) == b.want.length) && (((a.ents.length : Int) == b.ents.length) && (((a.bs.length : Int) == b.bs.length) && (((a.mems.length : Int) == b.mems.length) && ((a.sums.length : Int) == b.sums.length))))) = eqRow a b := rfl
  rw [e1] at hL
  rw [e2] at hP
  rw [e3] at hS
  rw [e4] at hR
  clear e1 e2 e3 e4
  unfold plainV plainArr
  generalize eqI a.last b.last = r5 at *
  generalize eqI a.prev b.prev = r6 at *
  generalize eqI a.slast b.slast = r7 at *
  generalize eqRow a b = r9 at *
  have sI : (Tryz.prog.info? 26).map (·.size) = some 3 := by kernel_rfl
  have sR : (Tryz.prog.info? 201).map (·.size) = some 5 := by kernel_rfl
  have pI : ∀ (cs : Array Value) (k : Nat) (w : World), (part 26 cs k).run Tryz.prog w = .ok (.agg (cs.extract k (k + 3))) w := fun cs k w => by
    cases hq : Tryz.prog.info? 26 with
    | none => rw [hq] at sI; cases sI
    | some i => rw [hq] at sI; have h3 : i.size = 3 := by simpa using sI
                simp [part, isAgg, run_underlying Tryz.underlying26, sizeOf, typeInfo, hq, h3]
  have pR : ∀ (cs : Array Value) (k : Nat) (w : World), (part 201 cs k).run Tryz.prog w = .ok (.agg (cs.extract k (k + 5))) w := fun cs k w => by
    cases hq : Tryz.prog.info? 201 with
    | none => rw [hq] at sR; cases sR
    | some i => rw [hq] at sR; have h3 : i.size = 5 := by simpa using sR
                simp [part, isAgg, run_underlying Tryz.underlying201, sizeOf, typeInfo, hq, h3]
  clear sI sR
  rw [run_eql_struct, run_equalIn_struct w 9999 203 _ _ (by kernel_rfl) (by kernel_rfl)]
  simp only [Program.fieldsOf, Tryz.underlying203, Op.eqFields]
  simp [hL, hP, hS, hR, part, isAgg, run_underlying Tryz.underlying3, run_underlying Tryz.underlying4, run_equalIn_int, run_equalIn_bool', Tryz.underlying3, Tryz.underlying4]
  clear pI pR hL hP hS hR
  by_cases h1 : a.index = b.index
  rotate_left
  · simp [h1]
  by_cases h2 : a.commit = b.commit
  rotate_left
  · simp [h2]
  by_cases h3 : a.piece = b.piece
  rotate_left
  · simp [h3]
  by_cases h4 : a.size = b.size
  rotate_left
  · simp [h4]
  by_cases h5 : a.yes = b.yes
  rotate_left
  · cases r5 <;> cases r6 <;> cases r7 <;> simp [h5]
  simp only [h1, h2, h3, h4, h5]
  cases r5 <;> cases r6 <;> cases r7 <;> cases r9 <;> simp
end Go.Proofs.YtjnllilmimngoaaGreatDoor
namespace Go.Proofs.YtjnllilmimngoaaGreatDoor
open Go.RowKit

def okT (l : Let) : Bool := ok0 l && decide (0 < l.term)
/-- What has makes of a letter, and whether it is right. -/
def Let.own (l : Let) : Let := if l.kind = 1 then l.o1 else if l.kind = 2 then l.o2 else if l.kind = 3 then l.o3 else if l.kind = 4 then l.o4 else if l.kind = 5 then l.o5 else if l.kind = 6 then l.o6
  else if l.kind = 7 then (if 0 < l.want.length then l.o7a else l.o7b) else if l.kind = 8 then (if 0 < l.ents.length then l.o8a else l.o5) else l.base
def Let.ok (l : Let) : Bool := if l.kind = 1 then okT l && l.last.right else if l.kind = 2 then ok0 l else if l.kind = 3 then okT l && (l.prev.right && (inR l.commit 0 1099511627776 && rowOk l)) else if l.kind = 4 then ok0 l && inR l.index 0 1099511627776
  else if l.kind = 5 then okT l && carriedOk l else if l.kind = 6 then ok0 l && (l.last.some_ && inR l.piece 0 48) else if l.kind = 7 then (if 0 < l.want.length then ok0 l && wantsOk l.want else ok0 l && (l.last.some_ && inR l.piece 0 47))
  else if l.kind = 8 then (if 0 < l.ents.length then ok0 l && (goodsOk l.ents && aheadsOk l.ents l.want) else ok0 l && carriedOk l) else false
theorem has_any (l : Let) (w : World) (hin : l.inW w) (hg : ErrT w) : Calls Tryz.prog 130 #[l.v] w (HasPost 4 l.own l.ok w) := by
  unfold Let.own Let.ok
  by_cases h1 : l.kind = 1
  · rw [if_pos h1, if_pos h1]; exact has_1 l w hin hg h1
  rw [if_neg h1, if_neg h1]
  by_cases h2 : l.kind = 2
  · rw [if_pos h2, if_pos h2]; exact has_2 l w hin hg h2
  rw [if_neg h2, if_neg h2]
  by_cases h3 : l.kind = 3
  · rw [if_pos h3, if_pos h3]; exact has_3 l w hin hg h3
  rw [if_neg h3, if_neg h3]
  by_cases h4 : l.kind = 4
  · rw [if_pos h4, if_pos h4]; exact has_4 l w hin hg h4
  rw [if_neg h4, if_neg h4]
  by_cases h5 : l.kind = 5
  · rw [if_pos h5, if_pos h5]; exact has_5 l w hin hg h5
  rw [if_neg h5, if_neg h5]
  by_cases h6 : l.kind = 6
  · rw [if_pos h6, if_pos h6]; exact has_6 l w hin hg h6
  rw [if_neg h6, if_neg h6]
  by_cases h7 : l.kind = 7
  · rw [if_pos h7, if_pos h7]
    by_cases hw : 0 < l.want.length
    · rw [if_pos hw, if_pos hw]; exact has_7a l w hin hg h7 hw
    · rw [if_neg hw, if_neg hw]; exact has_7b l w hin hg h7 (by omega)
  rw [if_neg h7, if_neg h7]
  by_cases h8 : l.kind = 8
  · rw [if_pos h8, if_pos h8]
    by_cases hw : 0 < l.ents.length
    · rw [if_pos hw, if_pos hw]; exact has_8a l w hin hg h8 hw
    · rw [if_neg hw, if_neg hw]; exact has_8b l w hin hg h8 (by omega)
  rw [if_neg h8, if_neg h8]
  exact has_X l w hin hg (by omega)
end Go.Proofs.YtjnllilmimngoaaGreatDoor
