/-
  has, as far as the first checks; what follows is taken out of the translation by a function.
-/
import Derived.Test.YtigljihohpdpeaaGreatDoorM15
import Derived.Test.YtigljihohpdpeaaGreatDoorStS
namespace Go.Proofs.YtigljihohpdpeaaGreatDoor
open Go.RowKit

def rightN : Nat → Code → Code
  | 0, c => c
  | n + 1, .seq _ b => rightN n b
  | _, c => c
noncomputable def hasA : Code := rightN 3 (Tryz.f44.body.getD .skip)

set_option maxRecDepth 1000000 in
set_option maxHeartbeats 4000000 in
theorem has_front (l : Let) (w : World) (R : Ending → World → Prop) (hQ : ∀ (u3 u4 u5 u6 u7 u8 u9 u10 u11 u12 u13 u14 u15 u16 u17 u18 u19 u20 u21 u22 u23 u24 u25 u26 u27 u28 u29 u30 u31 u32 u33 u34 u35 u36 u37 u38 u39 u40 u41 u42 u43 u44 u45 u46 u47 u48 u49 u50 u51 u52 u53 u54 u55 u56 u57 u58 u59 u60 u61 u62 u63 u64 u65 u66 u67 u68 u69 u70 u71 u72 u73 u74 u75 u76 u77 u78 u79 u80 u81 u82 u83 u84 u85 u86 u87 u88 u89 u90 u91 u92 u93 u94 u95 u96 u97 u98 u99 u100 u101 u102 u103 u104 u105 u106 u107 u108 u109 u110 u111 u112 u113 u114 u115 u116 u117 u118 u119 u120 u121 u122 u123 u124 u125 u126 u127 u128 u129 u130 u131 u132 u133 u134 u135 u136 u137 u138 u139 u140 u141 u142 u143 u144 u145 u146 u147 u148 u149 u150 u151 u152 u153 u154 u155 u156 u157 u158 u159 u160 u161 u162 u163 u164 u165 u166 u167 u168 u169 u170 u171 u172 u173 u174 u175 u176 u177 u178 u179 u180 u181 u182 u183 u184 u185 u186 u187 u188 u189 u190 u191 u192 u193 u194 u195 u196 u197 u198 u199 u200 u201 u202 u203 u204 u205 u206 u207 u208 u209 u210 u211 u212 u213 u214 u215 u216 u217 u218 u219 u220 u221 u222 u223 u224 u225 u226 u227 u228 u229 u230 u231 u232 u233 u234 u235 u236 u237 u238 u239 u240 u241 u242 u243 u244 u245 u246 : Value) (wx : World), HasRel l w u3 wx → Code.wp Tryz.prog hasA (bodyPost Tryz.prog Tryz.f44 R) ⟨#[.agg l.arr, .pointer (some ⟨w.heap.size, 0, none⟩), .pointer (some ⟨w.heap.size + 1, 0, none⟩), u3, u4, u5, u6, u7, u8, u9, u10, u11, u12, u13, u14, u15, u16, u17, u18, u19, u20, u21, u22, u23, u24, u25, u26, u27, u28, u29, u30, u31, u32, u33, u34, u35, u36, u37, u38, u39, u40, u41, u42, u43, u44, u45, u46, u47, u48, u49, u50, u51, u52, u53, u54, u55, u56, u57, u58, u59, u60, u61, u62, u63, u64, u65, u66, u67, u68, u69, u70, u71, u72, u73, u74, u75, u76, u77, u78, u79, u80, u81, u82, u83, u84, u85, u86, u87, u88, u89, u90, u91, u92, u93, u94, u95, u96, u97, u98, u99, u100, u101, u102, u103, u104, u105, u106, u107, u108, u109, u110, u111, u112, u113, u114, u115, u116, u117, u118, u119, u120, u121, u122, u123, u124, u125, u126, u127, u128, u129, u130, u131, u132, u133, u134, u135, u136, u137, u138, u139, u140, u141, u142, u143, u144, u145, u146, u147, u148, u149, u150, u151, u152, u153, u154, u155, u156, u157, u158, u159, u160, u161, u162, u163, u164, u165, u166, u167, u168, u169, u170, u171, u172, u173, u174, u175, u176, u177, u178, u179, u180, u181, u182, u183, u184, u185, u186, u187, u188, u189, u190, u191, u192, u193, u194, u195, u196, u197, u198, u199, u200, u201, u202, u203, u204, u205, u206, u207, u208, u209, u210, u211, u212, u213, u214, u215, u216, u217, u218, u219, u220, u221, u222, u223, u224, u225, u226, u227, u228, u229, u230, u231, u232, u233, u234, u235, u236, u237, u238, u239, u240, u241, u242, u243, u244, u245, u246], []⟩ wx) :
    Calls Tryz.prog 44 #[l.v] w R := by
  have HQ := Lib.hid hQ
  clear hQ
  unfold Let.v
  go_enter Tryz.func44, Tryz.ntmps44
  go_wp2_with fail
  go_region
  refine absW (fun W => HasMem l l.base w W) ⟨(((Ext.refl w).alloc _).alloc _).drew, heap0 w _ _, heap1 w _ _⟩ ?_
  rintro w1 ⟨HE, G1, G2⟩
  go_wp2_with fail
  go_cut [3] (fun s3 wx => HasRel l w s3 wx)
  case first =>
    cases h1 : inR l.too 1 7 with
    | false =>
      have hb : (inR l.too 1 7 && (l.too != l.frm)) = false := by rw [h1]; rfl
      refine Stab.wp_region_lex Ext (Ext _) (fun _ => True) (by kernel_rfl) (by kernel_rfl) (fun _ _ h => h) (fun _ _ h k => Ext.trans h k) (fun _ _ _ _ => trivial) ((Ext.refl _).drew) trivial ?_
      simp only [Stab.zipL, Nat.reduceAdd]
      repeat (first
        | (refine Stab.wpX_skip rfl ?_; simp only [Act.put, List.setIfInBounds_toArray, List.set_cons_zero, List.set_cons_succ])
        | (refine Stab.wpX_val rfl rfl ?_; apply Exists.intro; refine ⟨fun wx hC _ => ?_, ?_⟩; (have r := cell_of_heap (hC.blk G1); go_simp; (try simp (disch := omega) only [↓IntWalk.iteOmega, Stab.yieldsUpon_value, IntWalk.i64_in]); exact ⟨Ext.refl _, rfl⟩); simp only [Act.put, List.setIfInBounds_toArray, List.set_cons_zero, List.set_cons_succ])
        | (refine Stab.wpX_call1 rfl rfl (fun _ _ _ _ => trivial) ?_; apply Exists.intro; refine ⟨fun wx hC _ _ => ?_, ?_⟩; (go_simp; refine ⟨rfl, ?_⟩; refine (within_any _ _ _ _).mono ?_; rintro ev w9 ⟨rfl, hb9⟩; (first | (subst hb9; exact ⟨Ext.refl _, rfl, trivial⟩) | (subst hb9; exact ⟨Ext.refl _, rfl⟩) | exact ⟨hb9, rfl, trivial⟩ | exact ⟨hb9, rfl⟩)); simp only [Act.put, List.setIfInBounds_toArray, List.set_cons_zero, List.set_cons_succ])
        | (refine Stab.wpX_call1 rfl rfl (fun _ _ _ _ => trivial) ?_; apply Exists.intro; refine ⟨fun wx hC _ _ => ?_, ?_⟩; (go_simp; refine ⟨rfl, ?_⟩; refine (holds_part _ _ _).mono ?_; rintro ev w9 ⟨rfl, hb9⟩; (first | (subst hb9; exact ⟨Ext.refl _, rfl, trivial⟩) | (subst hb9; exact ⟨Ext.refl _, rfl⟩) | exact ⟨hb9, rfl, trivial⟩ | exact ⟨hb9, rfl⟩)); simp only [Act.put, List.setIfInBounds_toArray, List.set_cons_zero, List.set_cons_succ]))
      refine Stab.wpX_new (fun u W => ∃ b, u = .slice (some ⟨b, 0, none⟩) 3 3 ∧ W.heap[b]? = some (.cells #[holdsV ⟨#[102, 114, 111, 109]⟩ (inR l.frm 1 7), holdsV ⟨#[116, 111]⟩ false, holdsV ⟨#[116, 101, 114, 109]⟩ (inR l.term 0 1099511627776)] 69)) rfl rfl (by kernel_rfl) (fun u W W' ⟨b, h1, h2⟩ hle => ⟨b, h1, hle.blk h2⟩) (fun _ _ _ _ => trivial) ?_ ?_
      · intro wx hC _
        refine yields_build 3 _ rfl _ ?_ _ (build3 (holdsV ⟨#[102, 114, 111, 109]⟩ (inR l.frm 1 7)) (holdsV ⟨#[116, 111]⟩ false) (holdsV ⟨#[116, 101, 114, 109]⟩ (inR l.term 0 1099511627776)) wx (holdsV_cells _ _) (holdsV_cells _ _) (holdsV_cells _ _))
        simp [Act.eval]
      rintro ul ⟨_, _, ⟨lb, rfl, _⟩, _⟩
      simp only [Act.put, List.setIfInBounds_toArray, List.set_cons_zero, List.set_cons_succ]
      refine Stab.wpX_call (fun u W => Err (0 + 1) W (ok0 l) u) (fun _ _ => True) rfl rfl (fun _ _ _ h he => h.ext he) (fun _ _ _ _ _ => trivial) ?_ ?_
      · intro wx hC _ hF
        obtain ⟨lb', hl1, hl2⟩ := (hF 19 (by kernel_rfl)).2 rfl
        obtain rfl : lb = lb' := by simpa using hl1
        go_simp
        refine ⟨rfl, ?_⟩
        refine (join_errs 0 (some ⟨lb, 0, none⟩) 3 [holdsV ⟨#[102, 114, 111, 109]⟩ (inR l.frm 1 7), holdsV ⟨#[116, 111]⟩ false, holdsV ⟨#[116, 101, 114, 109]⟩ (inR l.term 0 1099511627776)] [inR l.frm 1 7, false, inR l.term 0 1099511627776] (ok0 l) wx (rd_heap hl2) (by simp) (by unfold ok0; rw [hb]; simp [Bool.and_assoc]) ⟨Err.holds _ _ _, Err.holds _ _ _, Err.holds _ _ _, trivial⟩).mono ?_
        rintro ev w9 ⟨v, rfl, hEr, hE9⟩
        exact ⟨hE9, hEr⟩
      rintro uj ⟨_, _, _, _⟩
      simp only [Act.put, List.setIfInBounds_toArray, List.set_cons_zero, List.set_cons_succ]
      iterate 1 (refine Stab.wpX_val rfl rfl ?_; apply Exists.intro; refine ⟨fun wx hC _ => ?_, ?_⟩; (go_simp; (try simp (disch := omega) only [↓IntWalk.iteOmega, Stab.yieldsUpon_value, IntWalk.i64_in]); exact ⟨Ext.refl _, rfl⟩); simp only [Act.put, List.setIfInBounds_toArray, List.set_cons_zero, List.set_cons_succ])
      refine Stab.wpX_end fun w8 hC8 _ hF8 => ?_
      have hEr := (hF8 20).2 rfl
      have z0 := hC8.blk G1
      have z1 := hC8.blk G2
      go_wp2_with fail
      go_meet
      exact ⟨hEr, HE.trans hC8, z0, z1⟩
    | true =>
      have hb : (inR l.too 1 7 && (l.too != l.frm)) = (l.too != l.frm) := by rw [h1]; rfl
      refine Stab.wp_region_lex Ext (Ext _) (fun _ => True) (by kernel_rfl) (by kernel_rfl) (fun _ _ h => h) (fun _ _ h k => Ext.trans h k) (fun _ _ _ _ => trivial) ((Ext.refl _).drew) trivial ?_
      simp only [Stab.zipL, Nat.reduceAdd]
      repeat (first
        | (refine Stab.wpX_skip rfl ?_; simp only [Act.put, List.setIfInBounds_toArray, List.set_cons_zero, List.set_cons_succ])
        | (refine Stab.wpX_val rfl rfl ?_; apply Exists.intro; refine ⟨fun wx hC _ => ?_, ?_⟩; (have r := cell_of_heap (hC.blk G1); go_simp; (try simp (disch := omega) only [↓IntWalk.iteOmega, Stab.yieldsUpon_value, IntWalk.i64_in]); exact ⟨Ext.refl _, rfl⟩); simp only [Act.put, List.setIfInBounds_toArray, List.set_cons_zero, List.set_cons_succ])
        | (refine Stab.wpX_call1 rfl rfl (fun _ _ _ _ => trivial) ?_; apply Exists.intro; refine ⟨fun wx hC _ _ => ?_, ?_⟩; (go_simp; refine ⟨rfl, ?_⟩; refine (within_any _ _ _ _).mono ?_; rintro ev w9 ⟨rfl, hb9⟩; (first | (subst hb9; exact ⟨Ext.refl _, rfl, trivial⟩) | (subst hb9; exact ⟨Ext.refl _, rfl⟩) | exact ⟨hb9, rfl, trivial⟩ | exact ⟨hb9, rfl⟩)); simp only [Act.put, List.setIfInBounds_toArray, List.set_cons_zero, List.set_cons_succ])
        | (refine Stab.wpX_call1 rfl rfl (fun _ _ _ _ => trivial) ?_; apply Exists.intro; refine ⟨fun wx hC _ _ => ?_, ?_⟩; (go_simp; refine ⟨rfl, ?_⟩; refine (holds_part _ _ _).mono ?_; rintro ev w9 ⟨rfl, hb9⟩; (first | (subst hb9; exact ⟨Ext.refl _, rfl, trivial⟩) | (subst hb9; exact ⟨Ext.refl _, rfl⟩) | exact ⟨hb9, rfl, trivial⟩ | exact ⟨hb9, rfl⟩)); simp only [Act.put, List.setIfInBounds_toArray, List.set_cons_zero, List.set_cons_succ]))
      refine Stab.wpX_new (fun u W => ∃ b, u = .slice (some ⟨b, 0, none⟩) 3 3 ∧ W.heap[b]? = some (.cells #[holdsV ⟨#[102, 114, 111, 109]⟩ (inR l.frm 1 7), holdsV ⟨#[116, 111]⟩ (l.too != l.frm), holdsV ⟨#[116, 101, 114, 109]⟩ (inR l.term 0 1099511627776)] 69)) rfl rfl (by kernel_rfl) (fun u W W' ⟨b, h1, h2⟩ hle => ⟨b, h1, hle.blk h2⟩) (fun _ _ _ _ => trivial) ?_ ?_
      · intro wx hC _
        refine yields_build 3 _ rfl _ ?_ _ (build3 (holdsV ⟨#[102, 114, 111, 109]⟩ (inR l.frm 1 7)) (holdsV ⟨#[116, 111]⟩ (l.too != l.frm)) (holdsV ⟨#[116, 101, 114, 109]⟩ (inR l.term 0 1099511627776)) wx (holdsV_cells _ _) (holdsV_cells _ _) (holdsV_cells _ _))
        simp [Act.eval]
      rintro ul ⟨_, _, ⟨lb, rfl, _⟩, _⟩
      simp only [Act.put, List.setIfInBounds_toArray, List.set_cons_zero, List.set_cons_succ]
      refine Stab.wpX_call (fun u W => Err (0 + 1) W (ok0 l) u) (fun _ _ => True) rfl rfl (fun _ _ _ h he => h.ext he) (fun _ _ _ _ _ => trivial) ?_ ?_
      · intro wx hC _ hF
        obtain ⟨lb', hl1, hl2⟩ := (hF 19 (by kernel_rfl)).2 rfl
        obtain rfl : lb = lb' := by simpa using hl1
        go_simp
        refine ⟨rfl, ?_⟩
        refine (join_errs 0 (some ⟨lb, 0, none⟩) 3 [holdsV ⟨#[102, 114, 111, 109]⟩ (inR l.frm 1 7), holdsV ⟨#[116, 111]⟩ (l.too != l.frm), holdsV ⟨#[116, 101, 114, 109]⟩ (inR l.term 0 1099511627776)] [inR l.frm 1 7, (l.too != l.frm), inR l.term 0 1099511627776] (ok0 l) wx (rd_heap hl2) (by simp) (by unfold ok0; rw [hb]; simp [Bool.and_assoc]) ⟨Err.holds _ _ _, Err.holds _ _ _, Err.holds _ _ _, trivial⟩).mono ?_
        rintro ev w9 ⟨v, rfl, hEr, hE9⟩
        exact ⟨hE9, hEr⟩
      rintro uj ⟨_, _, _, _⟩
      simp only [Act.put, List.setIfInBounds_toArray, List.set_cons_zero, List.set_cons_succ]
      iterate 1 (refine Stab.wpX_val rfl rfl ?_; apply Exists.intro; refine ⟨fun wx hC _ => ?_, ?_⟩; (go_simp; (try simp (disch := omega) only [↓IntWalk.iteOmega, Stab.yieldsUpon_value, IntWalk.i64_in]); exact ⟨Ext.refl _, rfl⟩); simp only [Act.put, List.setIfInBounds_toArray, List.set_cons_zero, List.set_cons_succ])
      refine Stab.wpX_end fun w8 hC8 _ hF8 => ?_
      have hEr := (hF8 20).2 rfl
      have z0 := hC8.blk G1
      have z1 := hC8.blk G2
      go_wp2_with fail
      go_meet
      exact ⟨hEr, HE.trans hC8, z0, z1⟩
  case rest =>
    clear HE G1 G2
    apply_assumption
    exact HQ.out _ _ _ _ _ _ _ _ _ _ _ _ _ _ _ _ _ _ _ _ _ _ _ _ _ _ _ _ _ _ _ _ _ _ _ _ _ _ _ _ _ _ _ _ _ _ _ _ _ _ _ _ _ _ _ _ _ _ _ _ _ _ _ _ _ _ _ _ _ _ _ _ _ _ _ _ _ _ _ _ _ _ _ _ _ _ _ _ _ _ _ _ _ _ _ _ _ _ _ _ _ _ _ _ _ _ _ _ _ _ _ _ _ _ _ _ _ _ _ _ _ _ _ _ _ _ _ _ _ _ _ _ _ _ _ _ _ _ _ _ _ _ _ _ _ _ _ _ _ _ _ _ _ _ _ _ _ _ _ _ _ _ _ _ _ _ _ _ _ _ _ _ _ _ _ _ _ _ _ _ _ _ _ _ _ _ _ _ _ _ _ _ _ _ _ _ _ _ _ _ _ _ _ _ _ _ _ _ _ _ _ _ _ _ _ _ _ _ _ _ _ _ _ _ _ _ _ _ _ _ _ _ _ _ _ _ _ _ _ _ _ _ _ _ _ hcut
end Go.Proofs.YtigljihohpdpeaaGreatDoor
