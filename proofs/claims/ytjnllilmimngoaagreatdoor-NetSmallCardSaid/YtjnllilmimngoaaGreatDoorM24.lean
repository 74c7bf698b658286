/-
  The document's snapshots and pieces: pieces, none, Snap, piece, sent.
  The document: has a letter nothing but what it says that it has (what is told).
  The document: has a letter nothing but what it says that it has (1, 2, 3).
-/
import Derived.Test.YtjnllilmimngoaaGreatDoorM23
namespace Go.Proofs.YtjnllilmimngoaaGreatDoor
open Go.RowKit

theorem rpieces_any (s : Int) (h0 : 0 ≤ s) (h1 : s ≤ 9600) (w : World) : Calls Tryz.prog 167 #[.int .i64 s] w fun e w' => e = .returned (.int .i64 ((s + 199) / 200)) ∧ w = w' := by
  have hq : (s + 200 - 1).tdiv 200 = (s + 199) / 200 := by rw [Int.tdiv_eq_ediv_of_nonneg (by omega)]; congr 1; omega
  go_enter Tryz.func167, Tryz.ntmps167
  go_wp2
  go_ret
  exact ⟨by rw [← hq]; rfl, rfl⟩
def Let.sagg (l : Let) : Value := .agg #[.int .i64 l.slast.i, .int .i64 l.slast.t, .int .i64 l.slast.k, .slice l.mA l.mems.length l.mc, .int .i64 l.size, .slice l.uA l.sums.length l.uc]
theorem snapOk_eq (l : Let) : snapOk l = (someI l.slast.i l.slast.t l.slast.k && (memR l.mems && (inR l.size 0 9600 && ((l.sums.length : Int) == (l.size + 199) / 200)))) := by
  unfold snapOk
  congr 1
  congr 1
  rw [Bool.eq_iff_iff]
  simp only [Bool.and_eq_true, inR_iff, decide_eq_true_eq, beq_iff_eq, lowS]
  constructor
  · rintro ⟨⟨h1, h2⟩, h3⟩
    split at h1 <;> refine ⟨⟨?_, ?_⟩, ?_⟩ <;> omega
  · rintro ⟨⟨h1, h2⟩, h3⟩
    split <;> refine ⟨⟨?_, ?_⟩, ?_⟩ <;> omega
set_option maxRecDepth 100000 in
set_option maxHeartbeats 2000000 in
theorem rsnap_any (l : Let) (w : World) (hin : l.inW w) : Calls Tryz.prog 144 #[l.sagg] w fun e w' => e = .returned (.bool (snapOk l)) ∧ Ext w w' := by
  have hM := hin.m1
  have hm2 := hin.m2
  have hu2 := hin.u2
  have HM := Lib.hid (fun w' (h : Ext w w') => rmembers_any l.mA l.mc l.mems w' (hM.ext h) (by unfold maxLen; omega))
  have HSO := Lib.hid (fun w' => rsomeones_any l.slast.i l.slast.t l.slast.k w')
  have HV := Lib.hid (snapOk_eq l)
  have EB := Lib.hid (heap_alloc_new w (.cells #[.int .i64 l.slast.i, .int .i64 l.slast.t, .int .i64 l.slast.k, .slice l.mA l.mems.length l.mc, .int .i64 l.size, .slice l.uA l.sums.length l.uc] 32))
  unfold idV at HSO
  unfold Let.sagg
  clear hin hM
  cases h1 : someI l.slast.i l.slast.t l.slast.k with
  | false =>
    have hv : Hid (snapOk l = false) := Lib.hid (by rw [HV.out, h1]; rfl)
    simp only [h1] at HSO
    clear h1
    go_enter Tryz.func144, Tryz.ntmps144
    go_wp2_with fail
    refine Stab.wp_region_lex Ext (Ext _) (fun _ => True) (by kernel_rfl) (by kernel_rfl) (fun _ _ h => h) (fun _ _ h k => Ext.trans h k) (fun _ _ _ _ => trivial) ((Ext.refl _).drew) trivial ?_
    simp only [Stab.zipL, Nat.reduceAdd]
    repeat (first
      | (refine Stab.wpX_skip rfl ?_; simp only [Act.put, List.setIfInBounds_toArray, List.set_cons_zero, List.set_cons_succ])
      | (refine Stab.wpX_val rfl rfl ?_; apply Exists.intro; refine ⟨fun wx hC _ => ?_, ?_⟩; (have r := cell_of_heap (hC.blk EB.out); go_simp; exact ⟨Ext.refl _, rfl⟩); simp only [Act.put, List.setIfInBounds_toArray, List.set_cons_zero, List.set_cons_succ])
      | (refine Stab.wpX_call1 rfl rfl (fun _ _ _ _ => trivial) ?_; apply Exists.intro; refine ⟨fun wx hC _ _ => ?_, ?_⟩; (go_simp; refine ⟨rfl, ?_⟩; refine (HSO.out _).mono ?_; rintro ev w9 ⟨rfl, hb9⟩; (first | (subst hb9; exact ⟨Ext.refl _, rfl, trivial⟩) | (subst hb9; exact ⟨Ext.refl _, rfl⟩) | exact ⟨hb9, rfl, trivial⟩ | exact ⟨hb9, rfl⟩)); simp only [Act.put, List.setIfInBounds_toArray, List.set_cons_zero, List.set_cons_succ]))
    refine Stab.wpX_end fun w8 hC8 _ _ => ?_
    go_wp2_with fail
    go_ret
    exact ⟨by rw [hv.out]; rfl, ((Ext.refl _).alloc _).trans hC8⟩
  | true =>
    cases h2 : memR l.mems with
    | false =>
      have hv : Hid (snapOk l = false) := Lib.hid (by rw [HV.out, h1, h2]; rfl)
      simp only [h1] at HSO
      simp only [h2] at HM
      clear h1 h2
      go_enter Tryz.func144, Tryz.ntmps144
      go_wp2_with fail
      refine Stab.wp_region_lex Ext (Ext _) (fun _ => True) (by kernel_rfl) (by kernel_rfl) (fun _ _ h => h) (fun _ _ h k => Ext.trans h k) (fun _ _ _ _ => trivial) ((Ext.refl _).drew) trivial ?_
      simp only [Stab.zipL, Nat.reduceAdd]
      repeat (first
        | (refine Stab.wpX_skip rfl ?_; simp only [Act.put, List.setIfInBounds_toArray, List.set_cons_zero, List.set_cons_succ])
        | (refine Stab.wpX_val rfl rfl ?_; apply Exists.intro; refine ⟨fun wx hC _ => ?_, ?_⟩; (have r := cell_of_heap (hC.blk EB.out); go_simp; exact ⟨Ext.refl _, rfl⟩); simp only [Act.put, List.setIfInBounds_toArray, List.set_cons_zero, List.set_cons_succ])
        | (refine Stab.wpX_call1 rfl rfl (fun _ _ _ _ => trivial) ?_; apply Exists.intro; refine ⟨fun wx hC _ _ => ?_, ?_⟩; (go_simp; refine ⟨rfl, ?_⟩; refine (HSO.out _).mono ?_; rintro ev w9 ⟨rfl, hb9⟩; (first | (subst hb9; exact ⟨Ext.refl _, rfl, trivial⟩) | (subst hb9; exact ⟨Ext.refl _, rfl⟩) | exact ⟨hb9, rfl, trivial⟩ | exact ⟨hb9, rfl⟩)); simp only [Act.put, List.setIfInBounds_toArray, List.set_cons_zero, List.set_cons_succ])
        | (refine Stab.wpX_call1 rfl rfl (fun _ _ _ _ => trivial) ?_; apply Exists.intro; refine ⟨fun wx hC _ _ => ?_, ?_⟩; (go_simp; refine ⟨rfl, ?_⟩; refine (HM.out _ (((Ext.refl _).alloc _).trans hC)).mono ?_; rintro ev w9 ⟨rfl, hb9⟩; (first | (subst hb9; exact ⟨Ext.refl _, rfl, trivial⟩) | (subst hb9; exact ⟨Ext.refl _, rfl⟩) | exact ⟨hb9, rfl, trivial⟩ | exact ⟨hb9, rfl⟩)); simp only [Act.put, List.setIfInBounds_toArray, List.set_cons_zero, List.set_cons_succ]))
      refine Stab.wpX_end fun w8 hC8 _ _ => ?_
      go_wp2_with fail
      go_ret
      exact ⟨by rw [hv.out]; rfl, ((Ext.refl _).alloc _).trans hC8⟩
    | true =>
      cases h3 : inR l.size 0 9600 with
      | false =>
        have hv : Hid (snapOk l = false) := Lib.hid (by rw [HV.out, h1, h2, h3]; rfl)
        simp only [h1] at HSO
        simp only [h2] at HM
        have HW := Lib.hid (fun w => rwithin_any l.size 0 9600 w)
        simp only [h3] at HW
        clear h1 h2 h3
        go_enter Tryz.func144, Tryz.ntmps144
        go_wp2_with fail
        refine Stab.wp_region_lex Ext (Ext _) (fun _ => True) (by kernel_rfl) (by kernel_rfl) (fun _ _ h => h) (fun _ _ h k => Ext.trans h k) (fun _ _ _ _ => trivial) ((Ext.refl _).drew) trivial ?_
        simp only [Stab.zipL, Nat.reduceAdd]
        repeat (first
          | (refine Stab.wpX_skip rfl ?_; simp only [Act.put, List.setIfInBounds_toArray, List.set_cons_zero, List.set_cons_succ])
          | (refine Stab.wpX_val rfl rfl ?_; apply Exists.intro; refine ⟨fun wx hC _ => ?_, ?_⟩; (have r := cell_of_heap (hC.blk EB.out); go_simp; exact ⟨Ext.refl _, rfl⟩); simp only [Act.put, List.setIfInBounds_toArray, List.set_cons_zero, List.set_cons_succ])
          | (refine Stab.wpX_call1 rfl rfl (fun _ _ _ _ => trivial) ?_; apply Exists.intro; refine ⟨fun wx hC _ _ => ?_, ?_⟩; (go_simp; refine ⟨rfl, ?_⟩; refine (HSO.out _).mono ?_; rintro ev w9 ⟨rfl, hb9⟩; (first | (subst hb9; exact ⟨Ext.refl _, rfl, trivial⟩) | (subst hb9; exact ⟨Ext.refl _, rfl⟩) | exact ⟨hb9, rfl, trivial⟩ | exact ⟨hb9, rfl⟩)); simp only [Act.put, List.setIfInBounds_toArray, List.set_cons_zero, List.set_cons_succ])
          | (refine Stab.wpX_call1 rfl rfl (fun _ _ _ _ => trivial) ?_; apply Exists.intro; refine ⟨fun wx hC _ _ => ?_, ?_⟩; (go_simp; refine ⟨rfl, ?_⟩; refine (HM.out _ (((Ext.refl _).alloc _).trans hC)).mono ?_; rintro ev w9 ⟨rfl, hb9⟩; (first | (subst hb9; exact ⟨Ext.refl _, rfl, trivial⟩) | (subst hb9; exact ⟨Ext.refl _, rfl⟩) | exact ⟨hb9, rfl, trivial⟩ | exact ⟨hb9, rfl⟩)); simp only [Act.put, List.setIfInBounds_toArray, List.set_cons_zero, List.set_cons_succ])
          | (refine Stab.wpX_call1 rfl rfl (fun _ _ _ _ => trivial) ?_; apply Exists.intro; refine ⟨fun wx hC _ _ => ?_, ?_⟩; (go_simp; refine ⟨rfl, ?_⟩; refine (HW.out _).mono ?_; rintro ev w9 ⟨rfl, hb9⟩; (first | (subst hb9; exact ⟨Ext.refl _, rfl, trivial⟩) | (subst hb9; exact ⟨Ext.refl _, rfl⟩) | exact ⟨hb9, rfl, trivial⟩ | exact ⟨hb9, rfl⟩)); simp only [Act.put, List.setIfInBounds_toArray, List.set_cons_zero, List.set_cons_succ]))
        refine Stab.wpX_end fun w8 hC8 _ _ => ?_
        go_wp2_with fail
        go_ret
        exact ⟨by rw [hv.out]; rfl, ((Ext.refl _).alloc _).trans hC8⟩
      | true =>
        have hsz := inR_iff.1 h3
        have hv : Hid (snapOk l = ((l.sums.length : Int) == (l.size + 199) / 200)) := Lib.hid (by rw [HV.out, h1, h2, h3]; rfl)
        simp only [h1] at HSO
        simp only [h2] at HM
        have HW := Lib.hid (fun w => rwithin_any l.size 0 9600 w)
        simp only [h3] at HW
        have HPI := Lib.hid (fun w => rpieces_any l.size hsz.1 hsz.2 w)
        clear h1 h2 h3 hsz
        go_enter Tryz.func144, Tryz.ntmps144
        go_wp2_with fail
        refine Stab.wp_region_lex Ext (Ext _) (fun _ => True) (by kernel_rfl) (by kernel_rfl) (fun _ _ h => h) (fun _ _ h k => Ext.trans h k) (fun _ _ _ _ => trivial) ((Ext.refl _).drew) trivial ?_
        simp only [Stab.zipL, Nat.reduceAdd]
        repeat (first
          | (refine Stab.wpX_skip rfl ?_; simp only [Act.put, List.setIfInBounds_toArray, List.set_cons_zero, List.set_cons_succ])
          | (refine Stab.wpX_val rfl rfl ?_; apply Exists.intro; refine ⟨fun wx hC _ => ?_, ?_⟩; (have r := cell_of_heap (hC.blk EB.out); go_simp; exact ⟨Ext.refl _, rfl⟩); simp only [Act.put, List.setIfInBounds_toArray, List.set_cons_zero, List.set_cons_succ])
          | (refine Stab.wpX_call1 rfl rfl (fun _ _ _ _ => trivial) ?_; apply Exists.intro; refine ⟨fun wx hC _ _ => ?_, ?_⟩; (go_simp; refine ⟨rfl, ?_⟩; refine (HSO.out _).mono ?_; rintro ev w9 ⟨rfl, hb9⟩; (first | (subst hb9; exact ⟨Ext.refl _, rfl, trivial⟩) | (subst hb9; exact ⟨Ext.refl _, rfl⟩) | exact ⟨hb9, rfl, trivial⟩ | exact ⟨hb9, rfl⟩)); simp only [Act.put, List.setIfInBounds_toArray, List.set_cons_zero, List.set_cons_succ])
          | (refine Stab.wpX_call1 rfl rfl (fun _ _ _ _ => trivial) ?_; apply Exists.intro; refine ⟨fun wx hC _ _ => ?_, ?_⟩; (go_simp; refine ⟨rfl, ?_⟩; refine (HM.out _ (((Ext.refl _).alloc _).trans hC)).mono ?_; rintro ev w9 ⟨rfl, hb9⟩; (first | (subst hb9; exact ⟨Ext.refl _, rfl, trivial⟩) | (subst hb9; exact ⟨Ext.refl _, rfl⟩) | exact ⟨hb9, rfl, trivial⟩ | exact ⟨hb9, rfl⟩)); simp only [Act.put, List.setIfInBounds_toArray, List.set_cons_zero, List.set_cons_succ])
          | (refine Stab.wpX_call1 rfl rfl (fun _ _ _ _ => trivial) ?_; apply Exists.intro; refine ⟨fun wx hC _ _ => ?_, ?_⟩; (go_simp; refine ⟨rfl, ?_⟩; refine (HW.out _).mono ?_; rintro ev w9 ⟨rfl, hb9⟩; (first | (subst hb9; exact ⟨Ext.refl _, rfl, trivial⟩) | (subst hb9; exact ⟨Ext.refl _, rfl⟩) | exact ⟨hb9, rfl, trivial⟩ | exact ⟨hb9, rfl⟩)); simp only [Act.put, List.setIfInBounds_toArray, List.set_cons_zero, List.set_cons_succ])
          | (refine Stab.wpX_call1 rfl rfl (fun _ _ _ _ => trivial) ?_; apply Exists.intro; refine ⟨fun wx hC _ _ => ?_, ?_⟩; (go_simp; refine ⟨rfl, ?_⟩; refine (HPI.out _).mono ?_; rintro ev w9 ⟨rfl, hb9⟩; (first | (subst hb9; exact ⟨Ext.refl _, rfl, trivial⟩) | (subst hb9; exact ⟨Ext.refl _, rfl⟩) | exact ⟨hb9, rfl, trivial⟩ | exact ⟨hb9, rfl⟩)); simp only [Act.put, List.setIfInBounds_toArray, List.set_cons_zero, List.set_cons_succ]))
        refine Stab.wpX_end fun w8 hC8 _ _ => ?_
        go_wp2_with fail
        go_ret
        exact ⟨by rw [hv.out]; rfl, ((Ext.refl _).alloc _).trans hC8⟩

set_option maxRecDepth 100000 in
set_option maxHeartbeats 2000000 in
theorem rpiece_any (l : Let) (w : World) (hin : l.inW w) : Calls Tryz.prog 107 #[l.v] w fun e w' => e = .returned (.bool (carriedOk l)) ∧ Ext w w' := by
  have hu2 := hin.u2
  have HS := Lib.hid (fun w' (h : Ext w w') => rsnap_any l w' (hin.ext h))
  have HG0 := Lib.hid (heap_alloc_new w (.cells l.arr 35))
  have r0 := cell_of_heap HG0.out
  have hV : l.v = .agg l.arr := rfl
  rw [hV]
  unfold Let.sagg at HS
  clear hin hV
  cases h1 : snapOk l with
  | false =>
    have hv : Hid (carriedOk l = false) := Lib.hid (by unfold carriedOk; rw [h1]; rfl)
    simp only [h1] at HS
    clear h1
    go_enter Tryz.func107, Tryz.ntmps107
    go_wp2_with fail
    refine (HS.out _ ((Ext.refl _).alloc _)).mono ?_
    rintro ev w1 ⟨rfl, hE1⟩
    clear r0
    have r1 := cell_of_heap (hE1.blk HG0.out)
    have HE1 := Lib.hid (((Ext.refl _).alloc _).trans hE1)
    clear hE1
    go_wp2_with fail
    go_ret
    exact ⟨by rw [hv.out]; rfl, HE1.out⟩
  | true =>
    simp only [h1] at HS
    have HW := Lib.hid (fun w => rwithin_any l.piece 0 (upP l.sums.length) w)
    have hup : (if (0 : Int) < (l.sums.length : Int) - 1 then (l.sums.length : Int) - 1 else 0) = upP l.sums.length := by unfold upP; split <;> split <;> omega
    have hup2 : (if (l.sums.length : Int) - 1 < 0 then 0 else (l.sums.length : Int) - 1) = upP l.sums.length := rfl
    cases h2 : inR l.piece 0 (upP l.sums.length) with
    | false =>
      have hv : Hid (carriedOk l = false) := Lib.hid (by unfold carriedOk; rw [h1, h2]; rfl)
      simp only [h2] at HW
      clear h1 h2
      go_enter Tryz.func107, Tryz.ntmps107
      go_wp2_with fail
      refine (HS.out _ ((Ext.refl _).alloc _)).mono ?_
      rintro ev w1 ⟨rfl, hE1⟩
      clear r0
      have r1 := cell_of_heap (hE1.blk HG0.out)
      have HE1 := Lib.hid (((Ext.refl _).alloc _).trans hE1)
      clear hE1
      go_wp2_with (go_at_call 103; (try rw [hup]); (try rw [hup2]); refine (HW.out _).mono ?_; rintro e w' ⟨rfl, rfl⟩)
      go_ret
      exact ⟨by rw [hv.out]; rfl, HE1.out⟩
    | true =>
      have hv : Hid (carriedOk l = decide ((l.bs.length : Int) ≤ 200)) := Lib.hid (by unfold carriedOk; rw [h1, h2]; rfl)
      simp only [h2] at HW
      clear h1 h2
      go_enter Tryz.func107, Tryz.ntmps107
      go_wp2_with fail
      refine (HS.out _ ((Ext.refl _).alloc _)).mono ?_
      rintro ev w1 ⟨rfl, hE1⟩
      clear r0
      have r1 := cell_of_heap (hE1.blk HG0.out)
      have HE1 := Lib.hid (((Ext.refl _).alloc _).trans hE1)
      clear hE1
      go_wp2_with (go_at_call 103; (try rw [hup]); (try rw [hup2]); refine (HW.out _).mono ?_; rintro e w' ⟨rfl, rfl⟩)
      go_ret
      exact ⟨by rw [hv.out]; simp, HE1.out⟩

theorem fieldT (x y z : Int) (w : World) : (Instr.field 26 (.agg #[.int .i64 x, .int .i64 y, .int .i64 z]) 1).run Tryz.prog w = .ok (.int .i64 y) w := by kernel_rfl
set_option maxRecDepth 100000 in
set_option maxHeartbeats 2000000 in
theorem rsent_any (l : Let) (w : World) (hin : l.inW w) : Calls Tryz.prog 106 #[.slice l.eA l.ents.length l.ec, .agg #[.int .i64 l.prev.i, .int .i64 l.prev.t, .int .i64 l.prev.k], .int .i64 l.term] w fun e w' => e = .returned (.bool (rowOk l)) ∧ Ext w w' := by
  have he2 := hin.e2
  have HE := Lib.hid hin.e1
  have HF := Lib.hid (fun w' (h : Ext w w') => rfollows_any l.prev l.eA l.ec l.ents w' (HE.out.ext h) (by unfold maxLen; omega))
  have HL := Lib.hid (fun w' (h : Ext w w') => rlast_any Id.zero l.eA l.ec l.ents w' (HE.out.ext h) (by unfold maxLen; omega))
  have HB0 := Lib.hid (heap_alloc_new w (.cells #[.int .i64 l.prev.i, .int .i64 l.prev.t, .int .i64 l.prev.k] 26))
  unfold Id.v idV Id.zero at HL
  unfold Id.v idV at HF
  clear hin
  by_cases h1 : (l.ents.length : Int) ≤ 8
  · have d1 : decide ((l.ents.length : Int) ≤ 8) = true := decide_eq_true h1
    cases h2 : (followsN l.prev l.ents == 0) with
    | false =>
      have hv : Hid (rowOk l = false) := Lib.hid (by unfold rowOk; rw [h2]; simp)
      go_enter Tryz.func106, Tryz.ntmps106
      go_wp2_with fail
      refine (HF.out _ ((Ext.refl _).alloc _)).mono ?_
      rintro ev w1 ⟨rfl, hE1⟩
      go_wp2_with fail
      go_ret
      exact ⟨by rw [hv.out]; rfl, ((Ext.refl _).alloc _).trans hE1⟩
    | true =>
      have hv : Hid (rowOk l = decide ((lastId Id.zero l.ents).t ≤ l.term)) := Lib.hid (by unfold rowOk; rw [h2, d1]; simp)
      go_enter Tryz.func106, Tryz.ntmps106
      go_wp2_with fail
      refine (HF.out _ ((Ext.refl _).alloc _)).mono ?_
      rintro ev w1 ⟨rfl, hE1⟩
      have HE1 := Lib.hid (((Ext.refl _).alloc _).trans hE1)
      clear hE1
      go_wp2_with fail
      refine (HL.out _ HE1.out).mono ?_
      rintro ev w2 ⟨rfl, hE2⟩
      have hfl := fieldT (lastId ⟨0, 0, 0⟩ l.ents).i (lastId ⟨0, 0, 0⟩ l.ents).t (lastId ⟨0, 0, 0⟩ l.ents).k
      go_wp2_with fail
      go_ret
      exact ⟨by rw [hv.out]; rfl, HE1.out.trans hE2⟩
  · have d1 : decide ((l.ents.length : Int) ≤ 8) = false := decide_eq_false h1
    have hv : Hid (rowOk l = false) := Lib.hid (by unfold rowOk; rw [d1]; rfl)
    go_enter Tryz.func106, Tryz.ntmps106
    go_wp2_with fail
    go_ret
    exact ⟨by rw [hv.out]; rfl, (Ext.refl _).alloc _⟩

def noneOk (l : Let) : Bool := zeroId l.slast.i l.slast.t l.slast.k && (((l.mems.length : Int) == 0) && ((l.size == 0) && ((l.sums.length : Int) == 0)))
set_option maxRecDepth 100000 in
set_option maxHeartbeats 1000000 in
theorem rnone_any (l : Let) (w : World) : Calls Tryz.prog 141 #[l.sagg] w fun e w' => e = .returned (.bool (noneOk l)) ∧ Ext w w' := by
  have heq := eqId l.slast.i l.slast.t l.slast.k 0 0 0
  have hz : (l.slast.i == 0 && (l.slast.t == 0 && l.slast.k == 0)) = zeroId l.slast.i l.slast.t l.slast.k := rfl
  rw [hz] at heq
  clear hz
  unfold Let.sagg
  cases h0 : zeroId l.slast.i l.slast.t l.slast.k with
  | false =>
    have hv : Hid (noneOk l = false) := Lib.hid (by unfold noneOk; rw [h0]; rfl)
    rw [h0] at heq
    go_enter Tryz.func141, Tryz.ntmps141
    go_wp2_with fail
    go_ret
    exact ⟨by rw [hv.out]; rfl, (Ext.refl _).alloc _⟩
  | true =>
    rw [h0] at heq
    cases h1 : ((l.mems.length : Int) == 0) with
    | false =>
      have hv : Hid (noneOk l = false) := Lib.hid (by unfold noneOk; rw [h0, h1]; rfl)
      go_enter Tryz.func141, Tryz.ntmps141
      go_wp2_with fail
      go_ret
      exact ⟨by rw [hv.out]; rfl, (Ext.refl _).alloc _⟩
    | true =>
      cases h2 : (l.size == 0) with
      | false =>
        have hv : Hid (noneOk l = false) := Lib.hid (by unfold noneOk; rw [h0, h1, h2]; rfl)
        go_enter Tryz.func141, Tryz.ntmps141
        go_wp2_with fail
        go_ret
        exact ⟨by rw [hv.out]; rfl, (Ext.refl _).alloc _⟩
      | true =>
        have hv : Hid (noneOk l = ((l.sums.length : Int) == 0)) := Lib.hid (by unfold noneOk; rw [h0, h1, h2]; rfl)
        go_enter Tryz.func141, Tryz.ntmps141
        go_wp2_with fail
        go_ret
        exact ⟨by rw [hv.out]; first | rfl | simp, (Ext.refl _).alloc _⟩
end Go.Proofs.YtjnllilmimngoaaGreatDoor
namespace Go.Proofs.YtjnllilmimngoaaGreatDoor
open Go.RowKit

def bareD (i la pr wa ye en sn pi : Bool) (l : Let) : Bool :=
  (i || l.index == 0) && ((la || zeroId l.last.i l.last.t l.last.k) && ((pr || (zeroId l.prev.i l.prev.t l.prev.k && l.commit == 0)) && ((wa || (l.want.length : Int) == 0) && ((ye || !l.yes) && ((en || (l.ents.length : Int) == 0) && ((sn || noneOk l) && (pi || (l.piece == 0 && (l.bs.length : Int) == 0))))))))
end Go.Proofs.YtjnllilmimngoaaGreatDoor
namespace Go.Proofs.YtjnllilmimngoaaGreatDoor
open Go.RowKit

set_option maxRecDepth 100000 in
set_option maxHeartbeats 4000000 in
theorem bare_1 (l : Let) (w : World) : Calls Tryz.prog 105 #[l.v, .bool false, .bool true, .bool false, .bool false, .bool false, .bool false, .bool false, .bool false] w fun e w' => e = .returned (.bool (bareD false true false false false false false false l)) ∧ Ext w w' := by
  have heq1 := eqId l.last.i l.last.t l.last.k 0 0 0
  have heq2 := eqId l.prev.i l.prev.t l.prev.k 0 0 0
  have hz1 : (l.last.i == 0 && (l.last.t == 0 && l.last.k == 0)) = zeroId l.last.i l.last.t l.last.k := rfl
  have hz2 : (l.prev.i == 0 && (l.prev.t == 0 && l.prev.k == 0)) = zeroId l.prev.i l.prev.t l.prev.k := rfl
  rw [hz1] at heq1
  rw [hz2] at heq2
  clear hz1 hz2
  have HNO := Lib.hid (fun w => rnone_any l w)
  unfold Let.sagg at HNO
  have HG0 := Lib.hid (heap_alloc_new w (.cells l.arr 35))
  have hV : l.v = .agg l.arr := rfl
  rw [hV]
  clear hV
  cases h0 : (l.index == 0) with
  | false =>
    have hv : Hid (bareD false true false false false false false false l = false) := Lib.hid (by unfold bareD; simp [h0])
    go_enter Tryz.func105, Tryz.ntmps105
    go_upto_region 2 with fail
    simp only [List.append]
    go_wp2_with fail
    go_ret
    exact ⟨by rw [hv.out]; first | rfl | simp, ((Ext.refl w).alloc _).alloc _⟩
  | true =>
    cases h1 : zeroId l.prev.i l.prev.t l.prev.k with
    | false =>
      rw [h1] at heq2
      have hv : Hid (bareD false true false false false false false false l = false) := Lib.hid (by unfold bareD; simp [h0, h1])
      clear h1
      go_enter Tryz.func105, Tryz.ntmps105
      go_upto_region 2 with fail
      simp only [List.append]
      go_wp2_with fail
      go_ret
      exact ⟨by rw [hv.out]; first | rfl | simp, ((Ext.refl w).alloc _).alloc _⟩
    | true =>
      rw [h1] at heq2
      cases h2 : (l.commit == 0) with
      | false =>
        have hv : Hid (bareD false true false false false false false false l = false) := Lib.hid (by unfold bareD; simp [h0, h1, h2])
        clear h1
        go_enter Tryz.func105, Tryz.ntmps105
        go_upto_region 2 with fail
        simp only [List.append]
        go_wp2_with fail
        go_ret
        exact ⟨by rw [hv.out]; first | rfl | simp, ((Ext.refl w).alloc _).alloc _⟩
      | true =>
        cases h3 : ((l.want.length : Int) == 0) with
        | false =>
          have hv : Hid (bareD false true false false false false false false l = false) := Lib.hid (by unfold bareD; simp [h0, h1, h2, h3])
          clear h1
          go_enter Tryz.func105, Tryz.ntmps105
          go_upto_region 2 with fail
          simp only [List.append]
          go_wp2_with fail
          go_ret
          exact ⟨by rw [hv.out]; first | rfl | simp, ((Ext.refl w).alloc _).alloc _⟩
        | true =>
          cases h4 : l.yes with
          | true =>
            have hv : Hid (bareD false true false false false false false false l = false) := Lib.hid (by unfold bareD; simp [h0, h1, h2, h3, h4])
            clear h1
            go_enter Tryz.func105, Tryz.ntmps105
            go_upto_region 2 with fail
            simp only [List.append]
            go_wp2_with fail
            go_ret
            exact ⟨by rw [hv.out]; first | rfl | simp, ((Ext.refl w).alloc _).alloc _⟩
          | false =>
            cases h5 : ((l.ents.length : Int) == 0) with
            | false =>
              have hv : Hid (bareD false true false false false false false false l = false) := Lib.hid (by unfold bareD; simp [h0, h1, h2, h3, h4, h5])
              clear h1
              go_enter Tryz.func105, Tryz.ntmps105
              go_upto_region 2 with fail
              simp only [List.append]
              go_wp2_with fail
              go_ret
              exact ⟨by rw [hv.out]; first | rfl | simp, ((Ext.refl w).alloc _).alloc _⟩
            | true =>
              cases h6 : noneOk l with
              | false =>
                simp only [h6] at HNO
                have hv : Hid (bareD false true false false false false false false l = false) := Lib.hid (by unfold bareD; simp [h0, h1, h2, h3, h4, h5, h6])
                clear h1 h6
                go_enter Tryz.func105, Tryz.ntmps105
                go_upto_region 2 with fail
                simp only [List.append]
                go_wp2_with fail
                refine (HNO.out _).mono ?_
                rintro ev w1 ⟨rfl, hE1⟩
                have r1 := cell_of_heap (hE1.blk (heap0 w _ _))
                have HE1 := Lib.hid ((((Ext.refl w).alloc _).alloc _).trans hE1)
                clear hE1
                go_wp2_with fail
                go_ret
                exact ⟨by rw [hv.out]; first | rfl | simp, HE1.out⟩
              | true =>
                simp only [h6] at HNO
                cases h7 : (l.piece == 0) with
                | false =>
                  have hv : Hid (bareD false true false false false false false false l = false) := Lib.hid (by unfold bareD; simp [h0, h1, h2, h3, h4, h5, h6, h7])
                  clear h1 h6
                  go_enter Tryz.func105, Tryz.ntmps105
                  go_upto_region 2 with fail
                  simp only [List.append]
                  go_wp2_with fail
                  refine (HNO.out _).mono ?_
                  rintro ev w1 ⟨rfl, hE1⟩
                  have r1 := cell_of_heap (hE1.blk (heap0 w _ _))
                  have HE1 := Lib.hid ((((Ext.refl w).alloc _).alloc _).trans hE1)
                  clear hE1
                  go_wp2_with fail
                  go_ret
                  exact ⟨by rw [hv.out]; first | rfl | simp, HE1.out⟩
                | true =>
                  have hv : Hid (bareD false true false false false false false false l = ((l.bs.length : Int) == 0)) := Lib.hid (by unfold bareD; simp [h0, h1, h2, h3, h4, h5, h6, h7])
                  clear h1 h6
                  go_enter Tryz.func105, Tryz.ntmps105
                  go_upto_region 2 with fail
                  simp only [List.append]
                  go_wp2_with fail
                  refine (HNO.out _).mono ?_
                  rintro ev w1 ⟨rfl, hE1⟩
                  have r1 := cell_of_heap (hE1.blk (heap0 w _ _))
                  have HE1 := Lib.hid ((((Ext.refl w).alloc _).alloc _).trans hE1)
                  clear hE1
                  go_wp2_with fail
                  go_ret
                  exact ⟨by rw [hv.out]; first | rfl | simp, HE1.out⟩

set_option maxRecDepth 100000 in
set_option maxHeartbeats 4000000 in
theorem bare_2 (l : Let) (w : World) : Calls Tryz.prog 105 #[l.v, .bool false, .bool false, .bool false, .bool false, .bool true, .bool false, .bool false, .bool false] w fun e w' => e = .returned (.bool (bareD false false false false true false false false l)) ∧ Ext w w' := by
  have heq1 := eqId l.last.i l.last.t l.last.k 0 0 0
  have heq2 := eqId l.prev.i l.prev.t l.prev.k 0 0 0
  have hz1 : (l.last.i == 0 && (l.last.t == 0 && l.last.k == 0)) = zeroId l.last.i l.last.t l.last.k := rfl
  have hz2 : (l.prev.i == 0 && (l.prev.t == 0 && l.prev.k == 0)) = zeroId l.prev.i l.prev.t l.prev.k := rfl
  rw [hz1] at heq1
  rw [hz2] at heq2
  clear hz1 hz2
  have HNO := Lib.hid (fun w => rnone_any l w)
  unfold Let.sagg at HNO
  have HG0 := Lib.hid (heap_alloc_new w (.cells l.arr 35))
  have hV : l.v = .agg l.arr := rfl
  rw [hV]
  clear hV
  cases h0 : (l.index == 0) with
  | false =>
    have hv : Hid (bareD false false false false true false false false l = false) := Lib.hid (by unfold bareD; simp [h0])
    go_enter Tryz.func105, Tryz.ntmps105
    go_upto_region 2 with fail
    simp only [List.append]
    go_wp2_with fail
    go_ret
    exact ⟨by rw [hv.out]; first | rfl | simp, ((Ext.refl w).alloc _).alloc _⟩
  | true =>
    cases h1 : zeroId l.last.i l.last.t l.last.k with
    | false =>
      rw [h1] at heq1
      have hv : Hid (bareD false false false false true false false false l = false) := Lib.hid (by unfold bareD; simp [h0, h1])
      clear h1
      go_enter Tryz.func105, Tryz.ntmps105
      go_upto_region 2 with fail
      simp only [List.append]
      go_wp2_with fail
      go_ret
      exact ⟨by rw [hv.out]; first | rfl | simp, ((Ext.refl w).alloc _).alloc _⟩
    | true =>
      rw [h1] at heq1
      cases h2 : zeroId l.prev.i l.prev.t l.prev.k with
      | false =>
        rw [h2] at heq2
        have hv : Hid (bareD false false false false true false false false l = false) := Lib.hid (by unfold bareD; simp [h0, h1, h2])
        clear h1 h2
        go_enter Tryz.func105, Tryz.ntmps105
        go_upto_region 2 with fail
        simp only [List.append]
        go_wp2_with fail
        go_ret
        exact ⟨by rw [hv.out]; first | rfl | simp, ((Ext.refl w).alloc _).alloc _⟩
      | true =>
        rw [h2] at heq2
        cases h3 : (l.commit == 0) with
        | false =>
          have hv : Hid (bareD false false false false true false false false l = false) := Lib.hid (by unfold bareD; simp [h0, h1, h2, h3])
          clear h1 h2
          go_enter Tryz.func105, Tryz.ntmps105
          go_upto_region 2 with fail
          simp only [List.append]
          go_wp2_with fail
          go_ret
          exact ⟨by rw [hv.out]; first | rfl | simp, ((Ext.refl w).alloc _).alloc _⟩
        | true =>
          cases h4 : ((l.want.length : Int) == 0) with
          | false =>
            have hv : Hid (bareD false false false false true false false false l = false) := Lib.hid (by unfold bareD; simp [h0, h1, h2, h3, h4])
            clear h1 h2
            go_enter Tryz.func105, Tryz.ntmps105
            go_upto_region 2 with fail
            simp only [List.append]
            go_wp2_with fail
            go_ret
            exact ⟨by rw [hv.out]; first | rfl | simp, ((Ext.refl w).alloc _).alloc _⟩
          | true =>
            cases h5 : ((l.ents.length : Int) == 0) with
            | false =>
              have hv : Hid (bareD false false false false true false false false l = false) := Lib.hid (by unfold bareD; simp [h0, h1, h2, h3, h4, h5])
              clear h1 h2
              go_enter Tryz.func105, Tryz.ntmps105
              go_upto_region 2 with fail
              simp only [List.append]
              go_wp2_with fail
              go_ret
              exact ⟨by rw [hv.out]; first | rfl | simp, ((Ext.refl w).alloc _).alloc _⟩
            | true =>
              cases h6 : noneOk l with
              | false =>
                simp only [h6] at HNO
                have hv : Hid (bareD false false false false true false false false l = false) := Lib.hid (by unfold bareD; simp [h0, h1, h2, h3, h4, h5, h6])
                clear h1 h2 h6
                go_enter Tryz.func105, Tryz.ntmps105
                go_upto_region 2 with fail
                simp only [List.append]
                go_wp2_with fail
                refine (HNO.out _).mono ?_
                rintro ev w1 ⟨rfl, hE1⟩
                have r1 := cell_of_heap (hE1.blk (heap0 w _ _))
                have HE1 := Lib.hid ((((Ext.refl w).alloc _).alloc _).trans hE1)
                clear hE1
                go_wp2_with fail
                go_ret
                exact ⟨by rw [hv.out]; first | rfl | simp, HE1.out⟩
              | true =>
                simp only [h6] at HNO
                cases h7 : (l.piece == 0) with
                | false =>
                  have hv : Hid (bareD false false false false true false false false l = false) := Lib.hid (by unfold bareD; simp [h0, h1, h2, h3, h4, h5, h6, h7])
                  clear h1 h2 h6
                  go_enter Tryz.func105, Tryz.ntmps105
                  go_upto_region 2 with fail
                  simp only [List.append]
                  go_wp2_with fail
                  refine (HNO.out _).mono ?_
                  rintro ev w1 ⟨rfl, hE1⟩
                  have r1 := cell_of_heap (hE1.blk (heap0 w _ _))
                  have HE1 := Lib.hid ((((Ext.refl w).alloc _).alloc _).trans hE1)
                  clear hE1
                  go_wp2_with fail
                  go_ret
                  exact ⟨by rw [hv.out]; first | rfl | simp, HE1.out⟩
                | true =>
                  have hv : Hid (bareD false false false false true false false false l = ((l.bs.length : Int) == 0)) := Lib.hid (by unfold bareD; simp [h0, h1, h2, h3, h4, h5, h6, h7])
                  clear h1 h2 h6
                  go_enter Tryz.func105, Tryz.ntmps105
                  go_upto_region 2 with fail
                  simp only [List.append]
                  go_wp2_with fail
                  refine (HNO.out _).mono ?_
                  rintro ev w1 ⟨rfl, hE1⟩
                  have r1 := cell_of_heap (hE1.blk (heap0 w _ _))
                  have HE1 := Lib.hid ((((Ext.refl w).alloc _).alloc _).trans hE1)
                  clear hE1
                  go_wp2_with fail
                  go_ret
                  exact ⟨by rw [hv.out]; first | rfl | simp, HE1.out⟩

set_option maxRecDepth 100000 in
set_option maxHeartbeats 4000000 in
theorem bare_3 (l : Let) (w : World) : Calls Tryz.prog 105 #[l.v, .bool false, .bool false, .bool true, .bool false, .bool false, .bool true, .bool false, .bool false] w fun e w' => e = .returned (.bool (bareD false false true false false true false false l)) ∧ Ext w w' := by
  have heq1 := eqId l.last.i l.last.t l.last.k 0 0 0
  have heq2 := eqId l.prev.i l.prev.t l.prev.k 0 0 0
  have hz1 : (l.last.i == 0 && (l.last.t == 0 && l.last.k == 0)) = zeroId l.last.i l.last.t l.last.k := rfl
  have hz2 : (l.prev.i == 0 && (l.prev.t == 0 && l.prev.k == 0)) = zeroId l.prev.i l.prev.t l.prev.k := rfl
  rw [hz1] at heq1
  rw [hz2] at heq2
  clear hz1 hz2
  have HNO := Lib.hid (fun w => rnone_any l w)
  unfold Let.sagg at HNO
  have HG0 := Lib.hid (heap_alloc_new w (.cells l.arr 35))
  have hV : l.v = .agg l.arr := rfl
  rw [hV]
  clear hV
  cases h0 : (l.index == 0) with
  | false =>
    have hv : Hid (bareD false false true false false true false false l = false) := Lib.hid (by unfold bareD; simp [h0])
    go_enter Tryz.func105, Tryz.ntmps105
    go_upto_region 2 with fail
    simp only [List.append]
    go_wp2_with fail
    go_ret
    exact ⟨by rw [hv.out]; first | rfl | simp, ((Ext.refl w).alloc _).alloc _⟩
  | true =>
    cases h1 : zeroId l.last.i l.last.t l.last.k with
    | false =>
      rw [h1] at heq1
      have hv : Hid (bareD false false true false false true false false l = false) := Lib.hid (by unfold bareD; simp [h0, h1])
      clear h1
      go_enter Tryz.func105, Tryz.ntmps105
      go_upto_region 2 with fail
      simp only [List.append]
      go_wp2_with fail
      go_ret
      exact ⟨by rw [hv.out]; first | rfl | simp, ((Ext.refl w).alloc _).alloc _⟩
    | true =>
      rw [h1] at heq1
      cases h2 : ((l.want.length : Int) == 0) with
      | false =>
        have hv : Hid (bareD false false true false false true false false l = false) := Lib.hid (by unfold bareD; simp [h0, h1, h2])
        clear h1
        go_enter Tryz.func105, Tryz.ntmps105
        go_upto_region 2 with fail
        simp only [List.append]
        go_wp2_with fail
        go_ret
        exact ⟨by rw [hv.out]; first | rfl | simp, ((Ext.refl w).alloc _).alloc _⟩
      | true =>
        cases h3 : l.yes with
        | true =>
          have hv : Hid (bareD false false true false false true false false l = false) := Lib.hid (by unfold bareD; simp [h0, h1, h2, h3])
          clear h1
          go_enter Tryz.func105, Tryz.ntmps105
          go_upto_region 2 with fail
          simp only [List.append]
          go_wp2_with fail
          go_ret
          exact ⟨by rw [hv.out]; first | rfl | simp, ((Ext.refl w).alloc _).alloc _⟩
        | false =>
          cases h4 : noneOk l with
          | false =>
            simp only [h4] at HNO
            have hv : Hid (bareD false false true false false true false false l = false) := Lib.hid (by unfold bareD; simp [h0, h1, h2, h3, h4])
            clear h1 h4
            go_enter Tryz.func105, Tryz.ntmps105
            go_upto_region 2 with fail
            simp only [List.append]
            go_wp2_with fail
            refine (HNO.out _).mono ?_
            rintro ev w1 ⟨rfl, hE1⟩
            have r1 := cell_of_heap (hE1.blk (heap0 w _ _))
            have HE1 := Lib.hid ((((Ext.refl w).alloc _).alloc _).trans hE1)
            clear hE1
            go_wp2_with fail
            go_ret
            exact ⟨by rw [hv.out]; first | rfl | simp, HE1.out⟩
          | true =>
            simp only [h4] at HNO
            cases h5 : (l.piece == 0) with
            | false =>
              have hv : Hid (bareD false false true false false true false false l = false) := Lib.hid (by unfold bareD; simp [h0, h1, h2, h3, h4, h5])
              clear h1 h4
              go_enter Tryz.func105, Tryz.ntmps105
              go_upto_region 2 with fail
              simp only [List.append]
              go_wp2_with fail
              refine (HNO.out _).mono ?_
              rintro ev w1 ⟨rfl, hE1⟩
              have r1 := cell_of_heap (hE1.blk (heap0 w _ _))
              have HE1 := Lib.hid ((((Ext.refl w).alloc _).alloc _).trans hE1)
              clear hE1
              go_wp2_with fail
              go_ret
              exact ⟨by rw [hv.out]; first | rfl | simp, HE1.out⟩
            | true =>
              have hv : Hid (bareD false false true false false true false false l = ((l.bs.length : Int) == 0)) := Lib.hid (by unfold bareD; simp [h0, h1, h2, h3, h4, h5])
              clear h1 h4
              go_enter Tryz.func105, Tryz.ntmps105
              go_upto_region 2 with fail
              simp only [List.append]
              go_wp2_with fail
              refine (HNO.out _).mono ?_
              rintro ev w1 ⟨rfl, hE1⟩
              have r1 := cell_of_heap (hE1.blk (heap0 w _ _))
              have HE1 := Lib.hid ((((Ext.refl w).alloc _).alloc _).trans hE1)
              clear hE1
              go_wp2_with fail
              go_ret
              exact ⟨by rw [hv.out]; first | rfl | simp, HE1.out⟩
end Go.Proofs.YtjnllilmimngoaaGreatDoor
