import Derived.Test.YtbknabgimjkcoaaPlanF
namespace Go.Proofs.Ytbknabgimjkcoaa
open Go.RowKit

set_option maxHeartbeats 4000000 in
theorem round_walk (s r p i k : Int) (w : World) :
    Calls Try.prog 3 #[.agg #[.int .i64 s, .int .i64 r, .int .i64 p], .int .i64 i, .int .i64 k] w fun e w' => e = .returned (.bool true) ∧ Ext w w' := by
  cases hR : rightB s r p with
  | false =>
    go_enter Try.func3, Try.ntmps3
    go_wp2_with fail
    have c0 : (w.alloc (.cells #[.int .i64 s, .int .i64 r, .int .i64 p] 23)).cell? ⟨w.heap.size, 0, none⟩ = some (.int .i64 s) := by simp [go_sem]
    have c1 : (w.alloc (.cells #[.int .i64 s, .int .i64 r, .int .i64 p] 23)).cell? ⟨w.heap.size, 1, none⟩ = some (.int .i64 r) := by simp [go_sem]
    have c2 : (w.alloc (.cells #[.int .i64 s, .int .i64 r, .int .i64 p] 23)).cell? ⟨w.heap.size, 2, none⟩ = some (.int .i64 p) := by simp [go_sem]
    have hE : Ext w (w.alloc (.cells #[.int .i64 s, .int .i64 r, .int .i64 p] 23)) := (Ext.refl _).alloc _
    go_call awake_any as e x1 ⟨rfl, hx1⟩
    replace c0 := hx1.cell c0
    replace c1 := hx1.cell c1
    replace c2 := hx1.cell c2
    replace hE := hE.trans hx1
    clear hx1
    go_wp2_with fail
    go_call (right_any s r p) as e x2 ⟨rfl, hx2⟩
    replace c0 := hx2.cell c0
    replace c1 := hx2.cell c1
    replace c2 := hx2.cell c2
    replace hE := hE.trans hx2
    clear hx2
    go_wp2_with fail
    go_ret
    exact ⟨rfl, hE⟩
  | true =>
  by_cases hin : (1 ≤ i ∧ i ≤ 1099511627776) ∧ 1 ≤ k ∧ k ≤ 1099511627776
  · obtain ⟨⟨hi1, hi2⟩, hk1, hk2⟩ := hin
    have hi := inB_true.2 ⟨hi1, hi2⟩
    have hk := inB_true.2 ⟨hk1, hk2⟩
    obtain ⟨⟨hs1, hs2⟩, ⟨hr1, hr2⟩, hp1, hp2⟩ := rightB_true.1 hR
    obtain ⟨sv, hg1, hg2⟩ := seg_val s r p i hR hi
    obtain ⟨hb1, hb2⟩ := rec_between s r p i hR hi
    obtain ⟨fv1, fv2, hf1, hf2, hf3, hf4⟩ := first_val s r p i hR hi
    obtain ⟨hm1, hm2⟩ := mulB (a := s) (b := r) (A := 16) (B := 32) (by omega) (by omega) (by omega) (by omega)
    have hm0 : 0 < s * r := Int.mul_pos (by omega) (by omega)
    have hre := rec_eq s r p i k hR hi hk
    have hq : (recordF s r p i == recordF s r p k) = ((i - k).tmod (s * r) == 0) := by rw [Bool.eq_iff_iff]; simpa using hre
    have hq4 : ((i - 1) / r == 0) = ((i - 1) / r * r + 1 == 1) := by rw [Bool.eq_iff_iff]; simpa using hf4
    have SV := Lib.hid sv
    have FV1 := Lib.hid fv1
    have FV2 := Lib.hid fv2
    clear sv fv1 fv2 hre hf4 hi hk
    generalize hG : (i - 1) / r = g at *
    generalize hA : recordF s r p i = a at *
    generalize hB : recordF s r p k = b at *
    have HA := Lib.hid hA
    have HB := Lib.hid hB
    clear hA hB hG
    go_enter Try.func3, Try.ntmps3
    go_wp2_with fail
    have c0 : (w.alloc (.cells #[.int .i64 s, .int .i64 r, .int .i64 p] 23)).cell? ⟨w.heap.size, 0, none⟩ = some (.int .i64 s) := by simp [go_sem]
    have c1 : (w.alloc (.cells #[.int .i64 s, .int .i64 r, .int .i64 p] 23)).cell? ⟨w.heap.size, 1, none⟩ = some (.int .i64 r) := by simp [go_sem]
    have c2 : (w.alloc (.cells #[.int .i64 s, .int .i64 r, .int .i64 p] 23)).cell? ⟨w.heap.size, 2, none⟩ = some (.int .i64 p) := by simp [go_sem]
    have hE : Ext w (w.alloc (.cells #[.int .i64 s, .int .i64 r, .int .i64 p] 23)) := (Ext.refl _).alloc _
    go_call awake_any as e x1 ⟨rfl, hx1⟩
    replace c0 := hx1.cell c0
    replace c1 := hx1.cell c1
    replace c2 := hx1.cell c2
    replace hE := hE.trans hx1
    clear hx1
    go_wp2_with fail
    go_call (right_any s r p) as e x2 ⟨rfl, hx2⟩
    rw [hR]
    replace c0 := hx2.cell c0
    replace c1 := hx2.cell c1
    replace c2 := hx2.cell c2
    replace hE := hE.trans hx2
    clear hx2
    go_wp2_with fail
    go_call (seg_any s r p i) as e x3 ⟨rfl, hx3⟩
    rw [SV.out]
    replace c0 := hx3.cell c0
    replace c1 := hx3.cell c1
    replace c2 := hx3.cell c2
    replace hE := hE.trans hx3
    clear hx3
    go_wp2_with fail
    refine Stab.wp_region_lex Ext (Ext _) (fun _ => True) (by kernel_rfl) (by kernel_rfl) (fun _ _ h => h) (fun _ _ h k => Ext.trans h k) (fun _ _ _ _ => trivial) ((Ext.refl _).drew) trivial ?_
    simp only [Stab.zipL, Nat.reduceAdd]
    repeat (first
      | (refine Stab.wpX_val rfl rfl ?_; apply Exists.intro; refine ⟨fun wx hC _ => ?_, ?_⟩; (have f0 := hC.cell c0; have f1 := hC.cell c1; have f2 := hC.cell c2; go_simp; (try simp (disch := omega) only [↓IntWalk.iteOmega, Stab.yieldsUpon_value, IntWalk.rem_in, IntWalk.i64_quo, IntWalk.i64_in]); exact ⟨Ext.refl _, rfl⟩); simp only [Act.put, List.setIfInBounds_toArray, List.set_cons_zero, List.set_cons_succ])
      | (refine Stab.wpX_call1 rfl rfl (by kernel_rfl) (fun _ _ _ _ => trivial) ?_; apply Exists.intro; refine ⟨fun wx hC _ _ => ?_, ?_⟩; (go_simp; refine ⟨rfl, ?_⟩; refine (record_any _ _ _ _ _).mono ?_; rintro e w9 ⟨rfl, hb9⟩; (first | exact ⟨hb9, rfl, trivial⟩ | exact ⟨hb9, rfl⟩)); simp only [Act.put, List.setIfInBounds_toArray, List.set_cons_zero, List.set_cons_succ]))
    refine Stab.wpX_end fun w8 hCw8 _ _ => ?_
    rw [HA.out, HB.out]
    replace c0 := hCw8.cell c0
    replace c1 := hCw8.cell c1
    replace c2 := hCw8.cell c2
    replace hE := hE.trans hCw8
    clear hCw8
    go_wp2_with fail
    go_call (head_any s r p g) as e x4 ⟨rfl, hx4⟩
    replace c0 := hx4.cell c0
    replace c1 := hx4.cell c1
    replace c2 := hx4.cell c2
    replace hE := hE.trans hx4
    clear hx4
    go_wp2_with fail
    go_call (foot_any s r p g) as e x5 ⟨rfl, hx5⟩
    replace c0 := hx5.cell c0
    replace c1 := hx5.cell c1
    replace c2 := hx5.cell c2
    replace hE := hE.trans hx5
    clear hx5
    go_wp2_with fail
    refine Stab.wp_region_lex Ext (Ext _) (fun _ => True) (by kernel_rfl) (by kernel_rfl) (fun _ _ h => h) (fun _ _ h k => Ext.trans h k) (fun _ _ _ _ => trivial) ((Ext.refl _).drew) trivial ?_
    simp only [Stab.zipL, Nat.reduceAdd]
    repeat (first
      | (refine Stab.wpX_val rfl rfl ?_; apply Exists.intro; refine ⟨fun wx hC _ => ?_, ?_⟩; (have f0 := hC.cell c0; have f1 := hC.cell c1; have f2 := hC.cell c2; go_simp; (try simp (disch := omega) only [↓IntWalk.iteOmega, Stab.yieldsUpon_value, IntWalk.rem_in, IntWalk.i64_quo, IntWalk.i64_in]); exact ⟨Ext.refl _, rfl⟩); simp only [Act.put, List.setIfInBounds_toArray, List.set_cons_zero, List.set_cons_succ])
      | (refine Stab.wpX_call1 rfl rfl (by kernel_rfl) (fun _ _ _ _ => trivial) ?_; apply Exists.intro; refine ⟨fun wx hC _ _ => ?_, ?_⟩; (go_simp; refine ⟨rfl, ?_⟩; refine (first_any _ _ _ _ _).mono ?_; rintro e w9 ⟨rfl, hb9⟩; (first | exact ⟨hb9, rfl, trivial⟩ | exact ⟨hb9, rfl⟩)); simp only [Act.put, List.setIfInBounds_toArray, List.set_cons_zero, List.set_cons_succ]))
    refine Stab.wpX_end fun w7 hCw7 _ _ => ?_
    rw [FV1.out, FV2.out]
    replace c0 := hCw7.cell c0
    replace c1 := hCw7.cell c1
    replace c2 := hCw7.cell c2
    replace hE := hE.trans hCw7
    clear hCw7
    go_wp2_with fail
    go_ret
    exact ⟨rfl, hE⟩
  · go_enter Try.func3, Try.ntmps3
    go_wp2_with fail
    have c0 : (w.alloc (.cells #[.int .i64 s, .int .i64 r, .int .i64 p] 23)).cell? ⟨w.heap.size, 0, none⟩ = some (.int .i64 s) := by simp [go_sem]
    have c1 : (w.alloc (.cells #[.int .i64 s, .int .i64 r, .int .i64 p] 23)).cell? ⟨w.heap.size, 1, none⟩ = some (.int .i64 r) := by simp [go_sem]
    have c2 : (w.alloc (.cells #[.int .i64 s, .int .i64 r, .int .i64 p] 23)).cell? ⟨w.heap.size, 2, none⟩ = some (.int .i64 p) := by simp [go_sem]
    have hE : Ext w (w.alloc (.cells #[.int .i64 s, .int .i64 r, .int .i64 p] 23)) := (Ext.refl _).alloc _
    go_call awake_any as e x1 ⟨rfl, hx1⟩
    replace c0 := hx1.cell c0
    replace c1 := hx1.cell c1
    replace c2 := hx1.cell c2
    replace hE := hE.trans hx1
    clear hx1
    go_wp2_with fail
    go_call (right_any s r p) as e x2 ⟨rfl, hx2⟩
    rw [hR]
    replace c0 := hx2.cell c0
    replace c1 := hx2.cell c1
    replace c2 := hx2.cell c2
    replace hE := hE.trans hx2
    clear hx2
    go_wp2_with fail
    all_goals first | (exfalso; omega) | (go_ret; exact ⟨rfl, hE⟩)

end Go.Proofs.Ytbknabgimjkcoaa
