import Derived.Test.YtbknabgimjkcoaaPlanN
namespace Go.Proofs.Ytbknabgimjkcoaa
open Go.RowKit

theorem rd_head (S R Q i : Nat) (hR : rightB S R Q = true) (hi : i < S) : slotF S R Q i 0 = ((6 + i * (R + 2) + 0 : Nat) : Int) := by
  obtain ⟨⟨hs1, hs2⟩, ⟨hr1, hr2⟩, hp1, hp2⟩ := rightB_true.1 hR
  have h : inB (i : Int) 0 1099511627776 = true := inB_true.2 (by omega)
  simp only [slotF, hR, h, Bool.and_self, if_true]
  rw [Int.emod_eq_of_lt (by omega) (by omega)]
  push_cast; rfl
theorem rd_foot (S R Q i : Nat) (hR : rightB S R Q = true) (hi : i < S) : slotF S R Q i ((R : Int) + 1) = ((6 + i * (R + 2) + (R + 1) : Nat) : Int) := by
  obtain ⟨⟨hs1, hs2⟩, ⟨hr1, hr2⟩, hp1, hp2⟩ := rightB_true.1 hR
  have h : inB (i : Int) 0 1099511627776 = true := inB_true.2 (by omega)
  simp only [slotF, hR, h, Bool.and_self, if_true]
  rw [Int.emod_eq_of_lt (by omega) (by omega)]
  push_cast; rfl
theorem rd_first (S R Q i : Nat) (hR : rightB S R Q = true) (hi : i < S) : firstF S R Q i = (i : Int) * R + 1 := by
  obtain ⟨⟨hs1, hs2⟩, ⟨hr1, hr2⟩, hp1, hp2⟩ := rightB_true.1 hR
  have h : inB (i : Int) 0 1099511627776 = true := inB_true.2 (by omega)
  simp only [firstF, hR, h, Bool.and_self, if_true]
theorem rd_rec (S R Q i t : Nat) (hR : rightB S R Q = true) (hi : i < S) (ht : 1 ≤ t) (ht2 : t ≤ R) : recordF S R Q ((i : Int) * R + 1 + ((t : Int) - 1)) = ((6 + i * (R + 2) + t : Nat) : Int) := by
  obtain ⟨⟨hs1, hs2⟩, ⟨hr1, hr2⟩, hp1, hp2⟩ := rightB_true.1 hR
  have hm := mulB (a := (i : Int)) (b := (R : Int)) (A := 16) (B := 32) (by omega) (by omega) (by omega) (by omega)
  have h : inB ((i : Int) * R + 1 + ((t : Int) - 1)) 1 1099511627776 = true := inB_true.2 (by omega)
  simp only [recordF, hR, h, Bool.and_self, if_true]
  have e : (i : Int) * R + 1 + ((t : Int) - 1) - 1 = ((i * R + (t - 1) : Nat) : Int) := by
    have : ((t - 1 : Nat) : Int) = (t : Int) - 1 := by omega
    push_cast; rw [this]; omega
  obtain ⟨d1, d2⟩ := divmodI i (t - 1) R (by omega)
  rw [e, d1, d2, Int.emod_eq_of_lt (by omega) (by omega)]
  have e2 : (1 : Int) + ((t - 1 : Nat) : Int) = t := by omega
  rw [e2]
  push_cast; rfl
theorem rd_snap (S R Q a : Nat) (hR : rightB S R Q = true) (ha : a < 2) : snapF S R Q a = ((6 + S * (R + 2) + a * (Q + 1) + 0 : Nat) : Int) := by
  have h : inB (a : Int) 0 1 = true := inB_true.2 (by omega)
  simp only [snapF, hR, h, Bool.and_self, if_true]
  have e0 : ((6 + S * (R + 2) + a * (Q + 1) + 0 : Nat) : Int) = 6 + (S : Int) * ((R : Int) + 2) + (a : Int) * ((Q : Int) + 1) + 0 := by push_cast; rfl
  rw [e0]; omega
theorem rd_piece (S R Q a t : Nat) (hR : rightB S R Q = true) (ha : a < 2) (ht : 1 ≤ t) (ht2 : t ≤ Q) : pieceF S R Q a ((t : Int) - 1) = ((6 + S * (R + 2) + a * (Q + 1) + t : Nat) : Int) := by
  have h : inB (a : Int) 0 1 = true := inB_true.2 (by omega)
  have h2 : inB ((t : Int) - 1) 0 ((Q : Int) - 1) = true := inB_true.2 (by omega)
  simp only [pieceF, hR, h, h2, Bool.and_self, if_true]
  have e0 : ((6 + S * (R + 2) + a * (Q + 1) + t : Nat) : Int) = 6 + (S : Int) * ((R : Int) + 2) + (a : Int) * ((Q : Int) + 1) + t := by push_cast; rfl
  rw [e0]; omega
theorem wh_seg (S R Q i t : Nat) (hR : rightB S R Q = true) (hi : i < S) (ht : t < R + 2) : whatF S R Q ((6 + i * (R + 2) + t : Nat) : Int) = (((segC R i t).1 : Int), ((segC R i t).2.1 : Int), ((segC R i t).2.2 : Int)) :=
  what_at S R Q _ hR _ (cellsL_seg S R Q i t hi ht)
theorem wh_are (S R Q a t : Nat) (hR : rightB S R Q = true) (ha : a < 2) (ht : t < Q + 1) : whatF S R Q ((6 + S * (R + 2) + a * (Q + 1) + t : Nat) : Int) = (((areC a t).1 : Int), ((areC a t).2.1 : Int), ((areC a t).2.2 : Int)) :=
  what_at S R Q _ hR _ (cellsL_are S R Q a t ha ht)
theorem wh_pre (S R Q k : Nat) (hR : rightB S R Q = true) (hk : k < 6) : whatF S R Q k = (1 + (k : Int) / 2, 0, (k : Int) % 2) := by
  rw [what_at S R Q k hR _ (cellsL_pre S R Q k hk)]; push_cast; rfl

theorem Try.info4 : (Try.prog.info? 4).map (fun i => (i.zero, i.size, i.bytes)) = some (some (.bool false), 1, 1) := by kernel_rfl

set_option maxRecDepth 100000 in
set_option maxHeartbeats 8000000 in
theorem apart_yes (S R Q : Nat) (w : World) (hR : rightB S R Q = true) :
    Calls Try.prog 6 #[.agg #[.int .i64 S, .int .i64 R, .int .i64 Q]] w fun e w' => e = .returned (.bool true) ∧ Ext w w' := by
  obtain ⟨⟨hs1, hs2⟩, ⟨hr1, hr2⟩, hp1, hp2⟩ := rightB_true.1 hR
  obtain ⟨i0, hi0, hz0, hz1, hz2⟩ := info_parts Try.info4
  have HB := Lib.hid (blocks_val S R Q hR)
  have HW := Lib.hid (what_end S R Q hR)
  have hm16 : S * (R + 2) ≤ 16 * 34 := Nat.mul_le_mul (by omega) (by omega)
  generalize hN : 6 + S * (R + 2) + 2 * (Q + 1) = N at *
  have hN2 : N ≤ 1000000 := by omega
  have hN3 : N ≤ 4096 := by omega
  have HN := Lib.hid hN
  clear hN
  have HR := Lib.hid hR
  clear hR
  go_enter Try.func6, Try.ntmps6
  go_wp2_with fail
  have c0 : (w.alloc (.cells #[.int .i64 S, .int .i64 R, .int .i64 Q] 23)).cell? ⟨w.heap.size, 0, none⟩ = some (.int .i64 S) := by simp [go_sem]
  have c1 : (w.alloc (.cells #[.int .i64 S, .int .i64 R, .int .i64 Q] 23)).cell? ⟨w.heap.size, 1, none⟩ = some (.int .i64 R) := by simp [go_sem]
  have c2 : (w.alloc (.cells #[.int .i64 S, .int .i64 R, .int .i64 Q] 23)).cell? ⟨w.heap.size, 2, none⟩ = some (.int .i64 Q) := by simp [go_sem]
  have hE : Ext w (w.alloc (.cells #[.int .i64 S, .int .i64 R, .int .i64 Q] 23)) := (Ext.refl _).alloc _
  have hwg0 : w.heap.size < (w.alloc (.cells #[.int .i64 S, .int .i64 R, .int .i64 Q] 23)).heap.size := by simp
  go_call awake_any as e x1 ⟨rfl, hx1⟩
  have hwg1 : w.heap.size < x1.heap.size := Nat.lt_of_lt_of_le hwg0 hx1.sz
  replace c0 := hx1.cell c0
  replace c1 := hx1.cell c1
  replace c2 := hx1.cell c2
  replace hE := hE.trans hx1
  clear hx1
  go_wp2_with fail
  go_call (right_any S R Q) as e x2 ⟨rfl, hx2⟩
  rw [HR.out]
  have hwg2 : w.heap.size < x2.heap.size := Nat.lt_of_lt_of_le hwg1 hx2.sz
  replace c0 := hx2.cell c0
  replace c1 := hx2.cell c1
  replace c2 := hx2.cell c2
  replace hE := hE.trans hx2
  clear hx2
  go_wp2_with fail
  go_call (blocks_any S R Q) as e x3 ⟨rfl, hx3⟩
  rw [HB.out]
  have hwg : w.heap.size < x3.heap.size := Nat.lt_of_lt_of_le hwg2 hx3.sz
  replace c0 := hx3.cell c0
  replace c1 := hx3.cell c1
  replace c2 := hx3.cell c2
  replace hE := hE.trans hx3
  clear hx3
  clear hwg0 hwg1 hwg2
  go_wp2_with (at_make; refine wpList_make_full x3 rfl _ _ 35 rfl x3.heap.size 4 i0 (.bool false) 1 Try.underlying35 hi0 hz0 hz1 .i64 .i64 _ _ N rfl rfl rfl rfl (by rw [hz2]; omega) (by unfold maxLen; omega) (Nat.le_refl _) ?_; intro w4 hown hgrow)
  have hX4 : Ext x3 w4 := Below.grown (Below.refl _ _) hgrow (Nat.le_refl _) (fun k hk => by cases hk)
  have hS4 := seen_made hown
  have hg4 : x3.heap.size < w4.heap.size := by
    rcases hown.2 with ⟨hv, _⟩ | ⟨g', cap, cur, hv, _, hh, _⟩
    · cases hv
    · cases hv; exact (Array.getElem?_eq_some_iff.1 hh).1
  generalize x3.heap.size = g at *
  have hA : AInv w g N S R Q 0 w4 := ⟨hS4, hE.trans hX4, hg4, hX4.cell c0, hX4.cell c1, hX4.cell c2⟩
  clear hown hgrow hX4 hS4 hg4 c0 c1 c2 hE hi0 hz0 hz1 hz2
  go_loopw [5, 6] (fun al b wr => ∃ k : Nat, k ≤ 6 ∧ b = .int .i64 k ∧ al = .int .i64 k ∧ AInv w g N S R Q k wr) (fun _ b _ => 6 - (intOf b).toNat)
  case atStart => exact ⟨0, by omega, rfl, rfl, hA⟩
  case round =>
    clear hA
    obtain ⟨k, hk, rfl, rfl, hJ⟩ := hrel
    by_cases hlt : k < 6
    · have hdk : decide ((k : Int) < 6) = true := by simp; omega
      obtain ⟨b0, b1, b2⟩ := hJ.2.2.2
      have HP := Lib.hid (wh_pre S R Q k HR.out hlt)
      go_wp2_with fail
      go_call (what_any S R Q k) as e y1 ⟨rfl, hy1⟩
      rw [HP.out]
      replace hJ := hJ.ext hy1
      clear b0 b1 b2 hy1
      have hkN : k < N := by have := HN.out; omega
      have s1 := hJ.1.1 k hkN
      have s2 := hJ.1.2 k
      rw [show decide (k < k) = false by simp] at s1
      have hi1 : (k : Int) < (N : Int) := by omega
      go_wp2_with fail
      go_roundw
      case rel => exact ⟨k + 1, by omega, by go_num, by go_num, hJ.next hwg (Below.setCell (Below.refl g y1) (p := ⟨g, k, none⟩) (Nat.le_refl _) _) (by simpa using hJ.2.2.1) (hJ.1.set hkN)⟩
      case measure => simp [intOf]; omega
    · have hk6 : k = 6 := by omega
      subst hk6
      clear hk hlt
      rw [show ((6 : Nat) : Int) = (6 : Int) from rfl]
      go_wp2_with fail
      go_loopw [5, 10] (fun al gi wr => ∃ i : Nat, i ≤ S ∧ gi = .int .i64 i ∧ al = .int .i64 ((6 + i * (R + 2) : Nat) : Int) ∧ AInv w g N S R Q (6 + i * (R + 2)) wr) (fun _ gi _ => S - (intOf gi).toNat)
      case atStart => exact ⟨0, by omega, rfl, by simp, by simpa using hJ⟩
      case round =>
        clear hJ
        obtain ⟨i, hi, rfl, rfl, hJ⟩ := hrel
        by_cases hlt : i < S
        · have hdi : decide (i < S) = true := by simp; omega
          obtain ⟨b0, b1, b2⟩ := hJ.2.2.2
          go_wp2_with fail
          clear b0 b1 b2
          generalize hM : i * (R + 2) = M at *
          have HM := Lib.hid hM
          clear hM
          go_loopw [5, 11] (fun al j wr => ∃ t : Nat, t ≤ R + 2 ∧ j = .int .i64 ((t : Int) - 1) ∧ al = .int .i64 ((6 + M + t : Nat) : Int) ∧ AInv w g N S R Q (6 + M + t) wr) (fun _ j _ => ((R : Int) + 1 - intOf j).toNat)
          case atStart => exact ⟨0, by omega, by simp, by simp, by simpa using hJ⟩
          case round =>
            clear hJ
            obtain ⟨t, ht, rfl, rfl, hJ⟩ := hrel
            obtain ⟨b0, b1, b2⟩ := hJ.2.2.2
            by_cases hlt2 : t < R + 2
            · have hdt : decide ((t : Int) - 1 ≤ (R : Int)) = true := by simp; omega
              obtain ⟨hmu1, hmu2⟩ := mulB (a := (i : Int)) (b := (R : Int)) (A := 16) (B := 32) (by omega) (by omega) (by omega) (by omega)
              have HF := Lib.hid (rd_first S R Q i HR.out hlt)
              go_wp2_with fail
              refine Stab.wp_region_lex Ext (Ext _) (fun _ => True) (by kernel_rfl) (by kernel_rfl) (fun _ _ h => h) (fun _ _ h k => Ext.trans h k) (fun _ _ _ _ => trivial) ((Ext.refl _).drew) trivial ?_
              simp only [Stab.zipL, Nat.reduceAdd]
              repeat (refine Stab.wpX_val rfl rfl ?_; apply Exists.intro; refine ⟨fun wx hC _ => ?_, ?_⟩; (have f0 := hC.cell b0; have f1 := hC.cell b1; have f2 := hC.cell b2; go_simp; (try simp (disch := omega) only [↓IntWalk.iteOmega, Stab.yieldsUpon_value, IntWalk.rem_in, IntWalk.i64_quo, IntWalk.i64_in]); exact ⟨Ext.refl _, rfl⟩); simp only [Act.put, List.setIfInBounds_toArray, List.set_cons_zero, List.set_cons_succ])
              (refine Stab.wpX_call1 rfl rfl (fun _ _ _ _ => trivial) ?_; apply Exists.intro; refine ⟨fun wx hC _ _ => ?_, ?_⟩; (go_simp; refine ⟨rfl, ?_⟩; with_reducible refine (first_any _ _ _ _ _).mono ?_; rintro e w9 ⟨rfl, hb9⟩; (first | exact ⟨hb9, rfl, trivial⟩ | exact ⟨hb9, rfl⟩)); rw [HF.out]; simp only [Act.put, List.setIfInBounds_toArray, List.set_cons_zero, List.set_cons_succ])
              repeat (refine Stab.wpX_val rfl rfl ?_; apply Exists.intro; refine ⟨fun wx hC _ => ?_, ?_⟩; (have f0 := hC.cell b0; have f1 := hC.cell b1; have f2 := hC.cell b2; go_simp; (try simp (disch := omega) only [↓IntWalk.iteOmega, Stab.yieldsUpon_value, IntWalk.rem_in, IntWalk.i64_quo, IntWalk.i64_in]); exact ⟨Ext.refl _, rfl⟩); simp only [Act.put, List.setIfInBounds_toArray, List.set_cons_zero, List.set_cons_succ])
              (refine Stab.wpX_call1 rfl rfl (fun _ _ _ _ => trivial) ?_; apply Exists.intro; refine ⟨fun wx hC _ _ => ?_, ?_⟩; (go_simp; refine ⟨rfl, ?_⟩; with_reducible refine (record_any _ _ _ _ _).mono ?_; rintro e w9 ⟨rfl, hb9⟩; (first | exact ⟨hb9, rfl, trivial⟩ | exact ⟨hb9, rfl⟩)); simp only [Act.put, List.setIfInBounds_toArray, List.set_cons_zero, List.set_cons_succ])
              repeat (refine Stab.wpX_val rfl rfl ?_; apply Exists.intro; refine ⟨fun wx hC _ => ?_, ?_⟩; (have f0 := hC.cell b0; have f1 := hC.cell b1; have f2 := hC.cell b2; go_simp; (try simp (disch := omega) only [↓IntWalk.iteOmega, Stab.yieldsUpon_value, IntWalk.rem_in, IntWalk.i64_quo, IntWalk.i64_in]); exact ⟨Ext.refl _, rfl⟩); simp only [Act.put, List.setIfInBounds_toArray, List.set_cons_zero, List.set_cons_succ])
              refine Stab.wpX_end fun w8 hC8 _ _ => ?_
              replace hJ := hJ.ext hC8
              clear hC8 b0 b1 b2
              obtain ⟨b0, b1, b2⟩ := hJ.2.2.2
              have hbN : 6 + M + t < N := by
                have h1 := HN.out
                have h2 : (i + 1) * (R + 2) ≤ S * (R + 2) := Nat.mul_le_mul_right _ hlt
                rw [Nat.add_mul, HM.out] at h2
                omega
              have hWS0 := wh_seg S R Q i t HR.out hlt hlt2
              rw [HM.out] at hWS0
              have hWS := Lib.hid hWS0
              clear hWS0
              by_cases ht0 : t < 1
              · have HT : Hid (t = 0) := by show _ = _; omega
                have hne : ((t : Int) - 1 == (R : Int)) = false := by simp; omega
                have HV0 := rd_head S R Q i HR.out hlt
                rw [HM.out] at HV0
                have HV := Lib.hid HV0
                clear HV0
                go_wp2_with fail
                go_call (head_any S R Q i) as e y1 ⟨rfl, hy1⟩
                rw [HV.out]
                replace hJ := hJ.ext hy1
                clear b0 b1 b2 hy1
                obtain ⟨b0, b1, b2⟩ := hJ.2.2.2
                go_wp2_with fail
                go_call (lies_any S R Q g N N (6 + M + 0) 4 i 0 _ (by have := HT.out; omega) hN2 hJ.2.2.1 (by have h := hJ.1; rw [HT.out] at h; exact h) (by have h := hWS.out; rw [HT.out] at h; simpa [segC] using h)) as e y2 ⟨rfl, hB9, hg9, hS9⟩
                have hJ2 := hJ.next hwg hB9 hg9 hS9
                clear hB9 hg9 hS9 b0 b1 b2
                go_wp2_with fail
                go_roundw
                case rel => exact ⟨t + 1, by omega, by go_num, by go_num, by have e : 6 + M + (t + 1) = 6 + M + 0 + 1 := (by have := HT.out; omega); rw [e]; exact hJ2⟩
                case measure => simp [intOf]; omega
              by_cases htR : R < t
              · have HT : Hid (t = R + 1) := by show _ = _; omega
                have hne : ((t : Int) - 1 == (R : Int)) = true := by simp; omega
                have HV0 := rd_foot S R Q i HR.out hlt
                rw [HM.out] at HV0
                have HV := Lib.hid HV0
                clear HV0
                go_wp2_with fail
                go_call (foot_any S R Q i) as e y1 ⟨rfl, hy1⟩
                rw [HV.out]
                replace hJ := hJ.ext hy1
                clear b0 b1 b2 hy1
                obtain ⟨b0, b1, b2⟩ := hJ.2.2.2
                go_wp2_with fail
                go_call (lies_any S R Q g N N (6 + M + (R + 1)) 6 i 0 _ (by have := HT.out; omega) hN2 hJ.2.2.1 (by have h := hJ.1; rw [HT.out] at h; exact h) (by have h := hWS.out; rw [HT.out] at h; simpa [segC] using h)) as e y2 ⟨rfl, hB9, hg9, hS9⟩
                have hJ2 := hJ.next hwg hB9 hg9 hS9
                clear hB9 hg9 hS9 b0 b1 b2
                go_wp2_with fail
                go_roundw
                case rel => exact ⟨t + 1, by omega, by go_num, by go_num, by have e : 6 + M + (t + 1) = 6 + M + (R + 1) + 1 := (by have := HT.out; omega); rw [e]; exact hJ2⟩
                case measure => simp [intOf]; omega
              · have hne : ((t : Int) - 1 == (R : Int)) = false := by simp; omega
                have HV0 := rd_rec S R Q i t HR.out hlt (by omega) (by omega)
                rw [HM.out] at HV0
                have HV := Lib.hid HV0
                clear HV0
                rw [HV.out]
                go_wp2_with fail
                go_call (lies_any S R Q g N N (6 + M + t) 5 i ((t : Int) - 1) _ hbN hN2 hJ.2.2.1 hJ.1 (by have h := hWS.out; rw [segC, if_neg (by omega), if_neg (by omega)] at h; rw [h]; simp; omega)) as e y2 ⟨rfl, hB9, hg9, hS9⟩
                have hJ2 := hJ.next hwg hB9 hg9 hS9
                clear hB9 hg9 hS9 b0 b1 b2
                go_wp2_with fail
                go_roundw
                case rel => exact ⟨t + 1, by omega, by go_num, by go_num, hJ2⟩
                case measure => simp [intOf]; omega
            · have htr : t = R + 2 := by omega
              subst htr
              clear ht hlt2
              have hdt : decide (((R + 2 : Nat) : Int) - 1 ≤ (R : Int)) = false := by simp; omega
              go_wp2_with fail
              go_roundw
              case rel =>
                have e : 6 + (i + 1) * (R + 2) = 6 + M + (R + 2) := by rw [Nat.add_mul, HM.out]; omega
                exact ⟨i + 1, by omega, by go_num, by rw [e], by rw [e]; exact hJ⟩
              case measure => simp [intOf]; omega
        · have hiS : i = S := by omega
          obtain ⟨b0, b1, b2⟩ := hJ.2.2.2
          have hdi : decide (i < S) = false := by simp; omega
          rw [hiS] at hJ
          rw [show ((6 + i * (R + 2) : Nat) : Int) = ((6 + S * (R + 2) : Nat) : Int) by rw [hiS]]
          generalize hM : S * (R + 2) = M at *
          have HM := Lib.hid hM
          clear hM hiS
          go_wp2_with fail
          clear b0 b1 b2
          go_loopw [5, 15] (fun al ai wr => ∃ a : Nat, a ≤ 2 ∧ ai = .int .i64 a ∧ al = .int .i64 ((6 + M + a * (Q + 1) : Nat) : Int) ∧ AInv w g N S R Q (6 + M + a * (Q + 1)) wr) (fun _ ai _ => 2 - (intOf ai).toNat)
          case atStart => exact ⟨0, by omega, rfl, by simp, by simpa using hJ⟩
          case round =>
            clear hJ
            obtain ⟨a, ha, rfl, rfl, hJ⟩ := hrel
            by_cases hlt3 : a < 2
            · have hda : decide ((a : Int) < 2) = true := by simp; omega
              have hAb : a * (Q + 1) + (Q + 1) ≤ 2 * (Q + 1) := by
                have : (a + 1) * (Q + 1) ≤ 2 * (Q + 1) := Nat.mul_le_mul_right _ hlt3
                rw [Nat.add_mul] at this; omega
              generalize hA : a * (Q + 1) = A at *
              have HA := Lib.hid hA
              clear hA
              go_wp2_with fail
              go_loopw [5, 16] (fun al j wr => ∃ t : Nat, t ≤ Q + 1 ∧ j = .int .i64 ((t : Int) - 1) ∧ al = .int .i64 ((6 + M + A + t : Nat) : Int) ∧ AInv w g N S R Q (6 + M + A + t) wr) (fun _ j _ => ((Q : Int) - intOf j).toNat)
              case atStart => exact ⟨0, by omega, by simp, by simp, by simpa using hJ⟩
              case round =>
                clear hJ
                obtain ⟨t, ht, rfl, rfl, hJ⟩ := hrel
                obtain ⟨b0, b1, b2⟩ := hJ.2.2.2
                by_cases hlt4 : t < Q + 1
                · have hdt : decide ((t : Int) - 1 < (Q : Int)) = true := by simp; omega
                  go_wp2_with fail
                  go_call (piece_any S R Q a ((t : Int) - 1)) as e y1 ⟨rfl, hy1⟩
                  replace hJ := hJ.ext hy1
                  clear b0 b1 b2 hy1
                  obtain ⟨b0, b1, b2⟩ := hJ.2.2.2
                  have hbN : 6 + M + A + t < N := by have h1 := HN.out; omega
                  have hWS0 := wh_are S R Q a t HR.out hlt3 hlt4
                  rw [HM.out, HA.out] at hWS0
                  have hWS := Lib.hid hWS0
                  clear hWS0
                  by_cases ht0 : t < 1
                  · have HT : Hid (t = 0) := by show _ = _; omega
                    have HV0 := rd_snap S R Q a HR.out hlt3
                    rw [HM.out, HA.out] at HV0
                    have HV := Lib.hid HV0
                    clear HV0
                    go_wp2_with fail
                    go_call (snap_any S R Q a) as e y3 ⟨rfl, hy3⟩
                    rw [HV.out]
                    replace hJ := hJ.ext hy3
                    clear b0 b1 b2 hy3
                    obtain ⟨b0, b1, b2⟩ := hJ.2.2.2
                    go_wp2_with fail
                    go_call (lies_any S R Q g N N (6 + M + A + 0) 8 a 0 _ (by have := HT.out; omega) hN2 hJ.2.2.1 (by have h := hJ.1; rw [HT.out] at h; exact h) (by have h := hWS.out; rw [HT.out] at h; simpa [areC] using h)) as e y2 ⟨rfl, hB9, hg9, hS9⟩
                    have hJ2 := hJ.next hwg hB9 hg9 hS9
                    clear hB9 hg9 hS9 b0 b1 b2
                    go_wp2_with fail
                    go_roundw
                    case rel => exact ⟨t + 1, by omega, by go_num, by go_num, by have e : 6 + M + A + (t + 1) = 6 + M + A + 0 + 1 := (by have := HT.out; omega); rw [e]; exact hJ2⟩
                    case measure => simp [intOf]; omega
                  · have HV0 := rd_piece S R Q a t HR.out hlt3 (by omega) (by omega)
                    rw [HM.out, HA.out] at HV0
                    have HV := Lib.hid HV0
                    clear HV0
                    rw [HV.out]
                    go_wp2_with fail
                    go_call (lies_any S R Q g N N (6 + M + A + t) 7 a ((t : Int) - 1) _ hbN hN2 hJ.2.2.1 hJ.1 (by have h := hWS.out; rw [areC, if_neg (by omega)] at h; rw [h]; simp; omega)) as e y2 ⟨rfl, hB9, hg9, hS9⟩
                    have hJ2 := hJ.next hwg hB9 hg9 hS9
                    clear hB9 hg9 hS9 b0 b1 b2
                    go_wp2_with fail
                    go_roundw
                    case rel => exact ⟨t + 1, by omega, by go_num, by go_num, hJ2⟩
                    case measure => simp [intOf]; omega
                · have htr : t = Q + 1 := by omega
                  subst htr
                  clear ht hlt4
                  have hdt : decide (((Q + 1 : Nat) : Int) - 1 < (Q : Int)) = false := by simp
                  go_wp2_with fail
                  go_roundw
                  case rel =>
                    have e : 6 + M + (a + 1) * (Q + 1) = 6 + M + A + (Q + 1) := by rw [Nat.add_mul, HA.out]; omega
                    exact ⟨a + 1, by omega, by go_num, by rw [e], by rw [e]; exact hJ⟩
                  case measure => simp [intOf]; omega
            · have ha2 : a = 2 := by omega
              have eN : 6 + M + a * (Q + 1) = N := by have := HN.out; rw [ha2]; exact this
              rw [eN] at hJ ⊢
              have hda : decide ((a : Int) < 2) = false := by simp; omega
              clear ha2 eN
              obtain ⟨b0, b1, b2⟩ := hJ.2.2.2
              go_wp2_with fail
              go_call (what_any S R Q N) as e y1 ⟨rfl, hy1⟩
              rw [HW.out]
              go_wp2_with fail
              go_ret
              exact ⟨rfl, hJ.2.1.trans hy1⟩

set_option maxRecDepth 100000 in
set_option maxHeartbeats 2000000 in
theorem apart_walk (s r p : Int) (w : World) : Calls Try.prog 6 #[.agg #[.int .i64 s, .int .i64 r, .int .i64 p]] w fun e w' => e = .returned (.bool true) ∧ Ext w w' := by
  cases hR : rightB s r p with
  | true =>
    obtain ⟨S, R, Q, rfl, rfl, rfl, _⟩ := lift3 hR
    exact apart_yes S R Q w hR
  | false =>
    have hv : blocksF s r p = 0 := by simp [blocksF, hR]
    go_enter Try.func6, Try.ntmps6
    go_wp2_with fail
    have c0 : (w.alloc (.cells #[.int .i64 s, .int .i64 r, .int .i64 p] 23)).cell? ⟨w.heap.size, 0, none⟩ = some (.int .i64 s) := by simp [go_sem]
    have c1 : (w.alloc (.cells #[.int .i64 s, .int .i64 r, .int .i64 p] 23)).cell? ⟨w.heap.size, 1, none⟩ = some (.int .i64 r) := by simp [go_sem]
    have c2 : (w.alloc (.cells #[.int .i64 s, .int .i64 r, .int .i64 p] 23)).cell? ⟨w.heap.size, 2, none⟩ = some (.int .i64 p) := by simp [go_sem]
    have hE : Ext w (w.alloc (.cells #[.int .i64 s, .int .i64 r, .int .i64 p] 23)) := (Ext.refl _).alloc _
    go_call awake_any as e x1 ⟨rfl, hx1⟩
    replace c0 := hx1.cell c0
    replace c1 := hx1.cell c1
    replace c2 := hx1.cell c2
    replace hE := hE.trans hx1
    clear hx1
    go_wp2_with fail
    go_call (right_any s r p) as e x2 ⟨rfl, hx2⟩
    rw [hR]
    replace c0 := hx2.cell c0
    replace c1 := hx2.cell c1
    replace c2 := hx2.cell c2
    replace hE := hE.trans hx2
    clear hx2
    go_wp2_with fail
    go_call (blocks_any s r p) as e x3 ⟨rfl, hx3⟩
    rw [hv]
    replace c0 := hx3.cell c0
    replace c1 := hx3.cell c1
    replace c2 := hx3.cell c2
    replace hE := hE.trans hx3
    clear hx3
    go_wp2_with fail
    go_ret
    exact ⟨rfl, hE⟩

end Go.Proofs.Ytbknabgimjkcoaa
