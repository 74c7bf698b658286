/-
  flatLetters: rows of letters that lie apart are told to.
  The verifier's flat functions at nil.
-/
import Derived.Test.YtjnllilmimngoaaGreatDoorM40
import Derived.Test.YtjnllilmimngoaaGreatDoorM2
namespace Go.Proofs.YtjnllilmimngoaaGreatDoor
open Go.RowKit

set_option maxRecDepth 100000 in
set_option maxHeartbeats 8000000 in
theorem flatLetters_any (B : Nat) (L : Option Addr) (cl N : Nat) (A : Nat → Option Addr) (n c : Nat → Nat) (X : Nat → List Value) (w : World) (hL : LsL w B L cl N A n c) (hR : RowsL w B N A n c X) (hd : Dis N A)
    (hN : N ≤ 1000) (hn : ∀ j, j < N → n j ≤ 100000) (hB : B ≤ w.heap.size) :
    Calls Tryz.prog 83 #[.slice L N cl] w fun e w' => e = .returned (.bool true) ∧ Fr (RB N A) w w' := by
  go_enter Tryz.func83, Tryz.ntmps83
  go_upto_block 0 with (fail)
  go_cut [] (fun w' => Fl1 B L cl N A n c w w')
  case first =>
    go_wp2_with fail
    go_loopw [3] (fun v wr => FlR1 B L cl N A n c w v wr) (fun v _ => N - (intOf v).toNat)
    case atStart => exact ⟨0, X, Nat.zero_le _, rfl, hL, fun j hj => by omega, hR, Fr.refl _ _⟩
    case round =>
      clear hL hR
      obtain ⟨k, X1, hk, rfl, hL, hM, hR, hF⟩ := hrel
      have HM := Lib.hid hM
      clear hM
      by_cases hlt : k < N
      · have hnk := hn k hlt
        go_wp2_with fail
        obtain ⟨wo, rfl⟩ : ∃ wo : World, wo = wr := ⟨_, rfl⟩
        go_loopw [4] (fun v wr => FlR2 B L cl N A n c k w v wr) (fun v _ => n k - (intOf v).toNat)
        case atStart => exact ⟨0, X1, Nat.zero_le _, rfl, hL, HM.out, by simp [mkF], hR, hF⟩
        case round =>
          clear hL hR hF HM
          obtain ⟨t, X2, hi, rfl, hL, hM, ht, hR, hF⟩ := hrel
          have HM := Lib.hid hM
          have HT := Lib.hid ht
          clear hM ht
          obtain ⟨gl, rfl, hcl⟩ := hL.cell hlt
          by_cases hlt2 : t < n k
          · have hRk := hR k hlt
            have HLEN := Lib.hid hRk.len
            obtain ⟨g, hA⟩ := hRk.some_ (by omega)
            have HA := Lib.hid hA
            rw [hA] at hcl hRk
            obtain ⟨cur, bt, hcu, hcs⟩ := HasRow.ofW hRk
            have hnc := hRk.cap.1
            have hcs2 : (t + 1) * 23 ≤ cur.size := by omega
            have HMM := Lib.hid (fun wx => markLetterK k t wx (by omega) (by omega))
            clear hA hRk
            go_wp2_with fail
            refine Stab.wp_region_lexTail 9 Ext (Ext _) (fun _ => True) (by kernel_rfl) (by kernel_rfl) (fun _ _ h => h) (fun _ _ h k => Ext.trans h k) (fun _ _ _ _ => trivial) ((Ext.refl _).drew) trivial ?_
            simp only [List.take_succ_cons, List.take_zero, List.drop_succ_cons, List.drop_zero, Stab.zipL, Nat.reduceAdd]
            iterate 7 (refine Stab.wpX_val rfl rfl ?_; apply Exists.intro; refine ⟨fun wx hC _ => ?_, ?_⟩; (have s2 := hC.cell hcl; go_simp; exact ⟨Ext.refl _, rfl⟩); simp only [Act.put, List.setIfInBounds_toArray, List.set_cons_zero, List.set_cons_succ])
            (refine Stab.wpX_call1 rfl rfl (fun _ _ _ _ => trivial) ?_; apply Exists.intro; refine ⟨fun wx hC _ _ => ?_, ?_⟩; (go_simp; refine ⟨rfl, ?_⟩; refine (HMM.out wx).mono ?_; rintro ev w9 ⟨rfl, hE9⟩; first | exact ⟨hE9, rfl⟩ | exact ⟨hE9, rfl, trivial⟩); simp only [Act.put, List.setIfInBounds_toArray, List.set_cons_zero, List.set_cons_succ])
            iterate 1 (refine Stab.wpX_val rfl rfl ?_; apply Exists.intro; refine ⟨fun wx hC _ => ?_, ?_⟩; (have s2 := hC.cell hcl; go_simp; exact ⟨Ext.refl _, rfl⟩); simp only [Act.put, List.setIfInBounds_toArray, List.set_cons_zero, List.set_cons_succ])
            refine Stab.wpX_end fun w1 hC _ _ => ?_
            have hc1 := hC.blk hcu
            have HC := Lib.hid hC
            clear hC
            go_wp2_with (refine wpList_store_at rfl 35 bt _ _ rfl rfl g t 23 cur (mkLetK k t).arr (by simp [Act.eval]) rfl hc1 infoLet hcs2 (arr_len _) (mkLetK k t).one ?_; intro w6 hS6; obtain ⟨hL2, hR2, hF2⟩ := mark_stepW neL hL hR hd hlt HA.out HC.out hS6 hlt2 (mcL_len k t); have HL2 := Lib.hid hL2; have HR2 := Lib.hid hR2; have HF2 := Lib.hid hF2; clear hL2 hR2 hF2 hS6)
            refine ⟨⟨t + 1, _, by omega, by go_num, HL2.out, ?_, ?_, HR2.out, hF.trans HF2.out (fun _ _ h => h)⟩, by simp [intOf]; omega⟩
            · intro j hj
              rw [upd_ne _ _ _ (by omega)]; exact HM.out j hj
            · rw [upd_same]
              exact (mark_next mcL_len HLEN.out hlt2 HT.out).2
          · obtain rfl : t = n k := by omega
            have HT2 : Hid (X2 k = mkF mcL k (n k)) := Lib.hid (by have h := HT.out; rw [List.take_of_length_le (by rw [(hR k hlt).len]; omega)] at h; exact h)
            go_wp2_with fail
            exact ⟨⟨k + 1, X2, by omega, by go_num, hL, fun j hj => by
              by_cases hjk : j = k
              · rw [hjk]; exact HT2.out
              · exact HM.out j (by omega), hR, hF⟩, by simp [intOf]; omega⟩
      · obtain rfl : k = N := by omega
        go_wp2_with fail
        go_meet
        case rel => exact ⟨hL, hR.cong HM.out, hF⟩
  case rest =>
    clear hL hR
    obtain ⟨hL, hR, hF⟩ := hcut
    have hmk := rowsL N (by omega)
    go_upto_block 4 with (fail)
    clear hmk
    have hsz := hF.size
    have hS : Fl2 B L cl N A n c wc.heap.size (wc.heap.size + 1) w (E2 n) 0 (wc.alloc (.cells (madeCells #[.slice none 0 0] N) 22)) := Fl2.start hL hR hF (by omega) (by omega)
    have hgl : ¬ blk L wc.heap.size := fun h => by have := (Own.lt hL h).2; omega
    clear hL hR hF
    generalize hgg : wc.heap.size = gg at *
    generalize wc.alloc (.cells (madeCells #[.slice none 0 0] N) 22) = w1 at *
    clear hgg
    go_cut [] (fun w' => Fl2 B L cl N A n c gg (gg + 1) w (E2 n) N w')
    case first =>
      go_wp2_with fail
      go_loopw [6] (fun v wr => FlR3 B L cl N A n c gg (gg + 1) w (E2 n) v wr) (fun v _ => N - (intOf v).toNat)
      case atStart => exact ⟨0, Nat.zero_le _, rfl, hS⟩
      case round =>
        clear hS
        obtain ⟨k, hk, rfl, hS⟩ := hrel
        by_cases hlt : k < N
        · have hnk := hn k hlt
          obtain ⟨V, A', c', sk, hG, hGA, hsk⟩ := hS
          obtain ⟨gl, rfl, hcl⟩ := hG.1.cell hlt
          have hGA2 := hGA.mono hsk
          clear hGA hsk
          go_wp2_with fail
          obtain ⟨wo, rfl⟩ : ∃ wo : World, wo = wr := ⟨_, rfl⟩
          go_loopw [7, 8] (fun v i wr => FlR4 B (some ⟨gl, 0, none⟩) cl N A n c gg w V (E2 n) A' c' k wo.heap.size v i wr) (fun _ i _ => 64 - (intOf i).toNat)
          case atStart => exact ⟨0, _, _, _, Nat.zero_le _, rfl, rfl, rfl, hG, hG.2.1 k hlt, fun i hi => .inl hi, Nat.le_refl _⟩
          case round =>
            have hFo := hG.2.2.1.size
            clear hG hcl
            obtain ⟨t, m, A2, c2, ht, rfl, rfl, hm, hG, hO2, hb2, hsk⟩ := hrel
            have HM := Lib.hid hm
            have HB2 := Lib.hid hb2
            clear hb2
            obtain ⟨gl2, hgl2, hcl⟩ := hG.1.cell hlt
            injection hgl2 with hgl2
            injection hgl2 with hgl2
            subst hgl2
            have hBw := hG.2.2.1.size
            by_cases hlt2 : t < 64
            · have HMM := Lib.hid (fun wx => markLetterK k (n k + t) wx (by omega) (by omega))
              rw [Int.natCast_add] at HMM
              have HG := Lib.hid hG
              have HO2 := Lib.hid hO2
              have hmle : m ≤ 200000 := by omega
              clear hG hO2 hm
              go_wp2_with fail
              refine (HMM.out _).mono ?_
              rintro e w5 ⟨rfl, hE5⟩
              have HE5 := Lib.hid (hE5.trans ((Ext.refl _).alloc (.cells (mkLetK k (n k + t)).arr 35)))
              have hsz5 := HE5.out.sz
              have HRD := Lib.hid (rd_new w5 (mkLetK k (n k + t)).arr 35)
              clear hE5
              go_wp2_with (first | (refine wpList_buildL rfl _ (mkLetK k (n k + t)) rfl rfl ?_) | (at_builtin; refine wpList_append_W _ rfl _ _ 22 rfl 35 23 264 Tryz.underlying22 infoLetP (by omega) B _ _ _ (mkF mcL k (n k + t)) rfl (HO2.out.ext HE5.out) _ 1 _ (mcL k (n k + t)) rfl (mcL_len _ _) HRD.out (oneL _ _) (by unfold maxLen; omega) (by omega) (by omega) ?_; intro A3 c3 w3 hO3 hF3 hA3 hz3 hg3; obtain ⟨hG3, hb3, hs3⟩ := grow_stepW neL (HG.out.ext HE5.out) hGA2 hlt hd (HO2.out.ext HE5.out) (mkF_pre k (n k) t) HB2.out (by omega) (by omega) hO3 hF3 hA3 (hg3.imp (fun h => h.2) (fun h => h.2)); have HG3 := Lib.hid hG3; have HB3 := Lib.hid hb3; have HO3 := Lib.hid hO3; clear hO3 hG3 hb3 hF3 hA3 hz3 hg3))
              exact ⟨⟨t + 1, _, _, _, by omega, by go_num, rfl, by have := HM.out; omega, HG3.out, by rw [← Nat.add_assoc, mkF_succ]; exact HO3.out, HB3.out, by omega⟩, by simp [intOf]; omega⟩
            · obtain rfl : t = 64 := by omega
              have hgk := GrL.vcell hG hlt
              have hgf := GrL.vfz hG k
              have hE : mkF mcL k (n k + 64) = mkF mcL k (n k) ++ E2 n k := by rw [mkF_add]; rfl
              rw [hE, hm] at hO2
              obtain ⟨hG4, hGA4⟩ := gs_storeW (m := m) neL hG hGA2 hlt hO2 HB2.out HM.out hgl (by omega) hsk
              have HG4 := Lib.hid hG4
              have HA4 := Lib.hid hGA4
              clear hG4 hGA4 hE hO2 hm
              go_wp2_with fail
              exact ⟨⟨k + 1, by omega, by go_num, _, _, _, _, HG4.out, HA4.out, by simp [World.setCell]⟩, by simp [intOf]; omega⟩
        · obtain rfl : k = N := by omega
          go_wp2_with fail
          go_meet
          case rel => exact hS
    case rest =>
      clear hS
      have hS := hcut
      clear hcut
      go_upto_block 8 with (fail)
      go_cut [] (fun w' => Fl2 B L cl N A n c gg (gg + 1) w (E2 n) N w')
      case first =>
        go_wp2_with fail
        go_loopw [9] (fun v wr => FlR5 B L cl N A n c gg (gg + 1) w (E2 n) v wr) (fun v _ => N - (intOf v).toNat)
        case atStart => exact ⟨0, Nat.zero_le _, rfl, hS⟩
        case round =>
          clear hS
          obtain ⟨k, hk, rfl, hS⟩ := hrel
          by_cases hlt : k < N
          · have hnk := hn k hlt
            obtain ⟨V, A', c', sk, hG, hGA, hsk⟩ := hS
            go_wp2_with fail
            obtain ⟨wo, rfl⟩ : ∃ wo : World, wo = wr := ⟨_, rfl⟩
            go_loopw [10] (fun v wr => FlR6 B L cl N A n c gg w V (E2 n) A' c' sk (n k + 64) v wr) (fun v _ => n k + 64 - (intOf v).toNat)
            case atStart => exact ⟨0, Nat.zero_le _, rfl, hG, hsk⟩
            case round =>
              clear hG hsk
              obtain ⟨t, ht, rfl, hG, hsk⟩ := hrel
              have hgk := GrL.vcell hG hlt
              rw [hGA.2.2.1 k hlt] at hgk
              obtain ⟨gl, rfl, hcl⟩ := hG.1.cell hlt
              by_cases hlt2 : t < n k + 64
              · have hO' := hG.2.2.2.2 k hlt
                obtain ⟨g', hA'⟩ := hO'.some_ (by omega)
                rw [hA'] at hgk hO'
                have hE : mkF mcL k (n k) ++ E2 n k = mkF mcL k (n k + 64) ++ [] := by rw [mkF_add, List.append_nil]; rfl
                rw [hE] at hO'
                have HR1 := Lib.hid (rangeL hO' hlt2)
                have HMM := Lib.hid (fun wx => markLetterK k t wx (by omega) (by omega))
                clear hA' hO' hE
                by_cases hin : t < n k
                · have hdi : decide (t < n k) = true := by simp; omega
                  have hAk := hG.2.1 k hlt
                  obtain ⟨g, hA⟩ := hAk.some_ (by omega)
                  rw [hA] at hcl hAk
                  have HR2 := Lib.hid (rangeL (m := n k) (ys := []) (by rw [List.append_nil]; exact hAk) hin)
                  clear hA hAk
                  go_wp2_with fail
                  refine Stab.wp_region_lex Ext (Ext wr) (fun _ => True) (by kernel_rfl) (by kernel_rfl) (fun _ _ h => h) (fun _ _ h k => Ext.trans h k) (fun _ _ _ _ => trivial) ((Ext.refl _).drew) trivial ?_
                  simp only [Stab.zipL, Nat.reduceAdd]
                  iterate 6 (refine Stab.wpX_val rfl rfl ?_; apply Exists.intro; refine ⟨fun wx hC _ => ?_, ?_⟩; (have s1 := hC.cell hgk; have s2 := hC.cell hcl; go_simp; exact ⟨Ext.refl _, rfl⟩); simp only [Act.put, List.setIfInBounds_toArray, List.set_cons_zero, List.set_cons_succ])
                  (refine Stab.wpX_val rfl rfl ?_; apply Exists.intro; refine ⟨fun wx hC _ => ?_, ?_⟩; (exact yieldsP_let _ rfl g' (t * 23) (mkLetK k t) rfl (fun j v hv => hC.cell (HR1.out j v hv))); simp only [Act.put, List.setIfInBounds_toArray, List.set_cons_zero, List.set_cons_succ])
                  iterate 2 (refine Stab.wpX_val rfl rfl ?_; apply Exists.intro; refine ⟨fun wx hC _ => ?_, ?_⟩; (have s1 := hC.cell hgk; have s2 := hC.cell hcl; go_simp; exact ⟨Ext.refl _, rfl⟩); simp only [Act.put, List.setIfInBounds_toArray, List.set_cons_zero, List.set_cons_succ])
                  (refine Stab.wpX_call1 rfl rfl (fun _ _ _ _ => trivial) ?_; apply Exists.intro; refine ⟨fun wx hC _ _ => ?_, ?_⟩; (go_simp; refine ⟨rfl, ?_⟩; refine (HMM.out wx).mono ?_; rintro ev w9 ⟨rfl, hE9⟩; first | exact ⟨hE9, rfl⟩ | exact ⟨hE9, rfl, trivial⟩); simp only [Act.put, List.setIfInBounds_toArray, List.set_cons_zero, List.set_cons_succ])
                  (refine Stab.wpX_call1 rfl rfl (fun _ _ _ _ => trivial) ?_; apply Exists.intro; refine ⟨fun wx hC _ _ => ?_, ?_⟩; (go_simp; refine ⟨rfl, ?_⟩; refine (same_mk k t wx).mono ?_; rintro ev w9 ⟨rfl, hE9⟩; first | exact ⟨hE9, rfl⟩ | exact ⟨hE9, rfl, trivial⟩); simp only [Act.put, List.setIfInBounds_toArray, List.set_cons_zero, List.set_cons_succ])
                  iterate 2 (refine Stab.wpX_val rfl rfl ?_; apply Exists.intro; refine ⟨fun wx hC _ => ?_, ?_⟩; (have s1 := hC.cell hgk; have s2 := hC.cell hcl; go_simp; exact ⟨Ext.refl _, rfl⟩); simp only [Act.put, List.setIfInBounds_toArray, List.set_cons_zero, List.set_cons_succ])
                  iterate 8 (refine Stab.wpX_val rfl rfl ?_; apply Exists.intro; refine ⟨fun wx hC _ => ?_, ?_⟩; (have s1 := hC.cell hgk; have s2 := hC.cell hcl; go_simp; exact ⟨Ext.refl _, rfl⟩); simp only [Act.put, List.setIfInBounds_toArray, List.set_cons_zero, List.set_cons_succ])
                  iterate 6 (refine Stab.wpX_val rfl rfl ?_; apply Exists.intro; refine ⟨fun wx hC _ => ?_, ?_⟩; (have s1 := hC.cell hgk; have s2 := hC.cell hcl; go_simp; exact ⟨Ext.refl _, rfl⟩); simp only [Act.put, List.setIfInBounds_toArray, List.set_cons_zero, List.set_cons_succ])
                  (refine Stab.wpX_val rfl rfl ?_; apply Exists.intro; refine ⟨fun wx hC _ => ?_, ?_⟩; (exact yieldsP_let _ rfl g (t * 23) (mkLetK k t) rfl (fun j v hv => hC.cell (HR2.out j v hv))); simp only [Act.put, List.setIfInBounds_toArray, List.set_cons_zero, List.set_cons_succ])
                  iterate 2 (refine Stab.wpX_val rfl rfl ?_; apply Exists.intro; refine ⟨fun wx hC _ => ?_, ?_⟩; (have s1 := hC.cell hgk; have s2 := hC.cell hcl; go_simp; exact ⟨Ext.refl _, rfl⟩); simp only [Act.put, List.setIfInBounds_toArray, List.set_cons_zero, List.set_cons_succ])
                  (refine Stab.wpX_call1 rfl rfl (fun _ _ _ _ => trivial) ?_; apply Exists.intro; refine ⟨fun wx hC _ _ => ?_, ?_⟩; (go_simp; refine ⟨rfl, ?_⟩; refine (HMM.out wx).mono ?_; rintro ev w9 ⟨rfl, hE9⟩; first | exact ⟨hE9, rfl⟩ | exact ⟨hE9, rfl, trivial⟩); simp only [Act.put, List.setIfInBounds_toArray, List.set_cons_zero, List.set_cons_succ])
                  (refine Stab.wpX_call1 rfl rfl (fun _ _ _ _ => trivial) ?_; apply Exists.intro; refine ⟨fun wx hC _ _ => ?_, ?_⟩; (go_simp; refine ⟨rfl, ?_⟩; refine (same_mk k t wx).mono ?_; rintro ev w9 ⟨rfl, hE9⟩; first | exact ⟨hE9, rfl⟩ | exact ⟨hE9, rfl, trivial⟩); simp only [Act.put, List.setIfInBounds_toArray, List.set_cons_zero, List.set_cons_succ])
                  iterate 3 (refine Stab.wpX_val rfl rfl ?_; apply Exists.intro; refine ⟨fun wx hC _ => ?_, ?_⟩; (have s1 := hC.cell hgk; have s2 := hC.cell hcl; go_simp; exact ⟨Ext.refl _, rfl⟩); simp only [Act.put, List.setIfInBounds_toArray, List.set_cons_zero, List.set_cons_succ])
                  refine Stab.wpX_end fun w8 hC8 _ _ => ?_
                  have HC8 := Lib.hid hC8
                  clear hC8
                  go_wp2_with fail
                  exact ⟨⟨t + 1, by omega, by go_num, hG.ext HC8.out, by have := HC8.out.sz; omega⟩, by simp [intOf]; omega⟩
                · have hdi : decide (t < n k) = false := by simp; omega
                  go_wp2_with fail
                  refine Stab.wp_region_lex Ext (Ext wr) (fun _ => True) (by kernel_rfl) (by kernel_rfl) (fun _ _ h => h) (fun _ _ h k => Ext.trans h k) (fun _ _ _ _ => trivial) ((Ext.refl _).drew) trivial ?_
                  simp only [Stab.zipL, Nat.reduceAdd]
                  iterate 6 (refine Stab.wpX_val rfl rfl ?_; apply Exists.intro; refine ⟨fun wx hC _ => ?_, ?_⟩; (have s1 := hC.cell hgk; have s2 := hC.cell hcl; go_simp; exact ⟨Ext.refl _, rfl⟩); simp only [Act.put, List.setIfInBounds_toArray, List.set_cons_zero, List.set_cons_succ])
                  (refine Stab.wpX_val rfl rfl ?_; apply Exists.intro; refine ⟨fun wx hC _ => ?_, ?_⟩; (exact yieldsP_let _ rfl g' (t * 23) (mkLetK k t) rfl (fun j v hv => hC.cell (HR1.out j v hv))); simp only [Act.put, List.setIfInBounds_toArray, List.set_cons_zero, List.set_cons_succ])
                  iterate 2 (refine Stab.wpX_val rfl rfl ?_; apply Exists.intro; refine ⟨fun wx hC _ => ?_, ?_⟩; (have s1 := hC.cell hgk; have s2 := hC.cell hcl; go_simp; exact ⟨Ext.refl _, rfl⟩); simp only [Act.put, List.setIfInBounds_toArray, List.set_cons_zero, List.set_cons_succ])
                  (refine Stab.wpX_call1 rfl rfl (fun _ _ _ _ => trivial) ?_; apply Exists.intro; refine ⟨fun wx hC _ _ => ?_, ?_⟩; (go_simp; refine ⟨rfl, ?_⟩; refine (HMM.out wx).mono ?_; rintro ev w9 ⟨rfl, hE9⟩; first | exact ⟨hE9, rfl⟩ | exact ⟨hE9, rfl, trivial⟩); simp only [Act.put, List.setIfInBounds_toArray, List.set_cons_zero, List.set_cons_succ])
                  (refine Stab.wpX_call1 rfl rfl (fun _ _ _ _ => trivial) ?_; apply Exists.intro; refine ⟨fun wx hC _ _ => ?_, ?_⟩; (go_simp; refine ⟨rfl, ?_⟩; refine (same_mk k t wx).mono ?_; rintro ev w9 ⟨rfl, hE9⟩; first | exact ⟨hE9, rfl⟩ | exact ⟨hE9, rfl, trivial⟩); simp only [Act.put, List.setIfInBounds_toArray, List.set_cons_zero, List.set_cons_succ])
                  iterate 2 (refine Stab.wpX_val rfl rfl ?_; apply Exists.intro; refine ⟨fun wx hC _ => ?_, ?_⟩; (have s1 := hC.cell hgk; have s2 := hC.cell hcl; go_simp; exact ⟨Ext.refl _, rfl⟩); simp only [Act.put, List.setIfInBounds_toArray, List.set_cons_zero, List.set_cons_succ])
                  iterate 8 (refine Stab.wpX_val rfl rfl ?_; apply Exists.intro; refine ⟨fun wx hC _ => ?_, ?_⟩; (have s1 := hC.cell hgk; have s2 := hC.cell hcl; go_simp; exact ⟨Ext.refl _, rfl⟩); simp only [Act.put, List.setIfInBounds_toArray, List.set_cons_zero, List.set_cons_succ])
                  iterate 12 (refine Stab.wpX_skip rfl ?_; simp only [Act.put, List.setIfInBounds_toArray, List.set_cons_zero, List.set_cons_succ])
                  iterate 2 (refine Stab.wpX_val rfl rfl ?_; apply Exists.intro; refine ⟨fun wx hC _ => ?_, ?_⟩; (have s1 := hC.cell hgk; have s2 := hC.cell hcl; go_simp; exact ⟨Ext.refl _, rfl⟩); simp only [Act.put, List.setIfInBounds_toArray, List.set_cons_zero, List.set_cons_succ])
                  refine Stab.wpX_end fun w8 hC8 _ _ => ?_
                  have HC8 := Lib.hid hC8
                  clear hC8
                  go_wp2_with fail
                  exact ⟨⟨t + 1, by omega, by go_num, hG.ext HC8.out, by have := HC8.out.sz; omega⟩, by simp [intOf]; omega⟩
              · obtain rfl : t = n k + 64 := by omega
                go_wp2_with fail
                exact ⟨⟨k + 1, by omega, by go_num, V, A', c', sk, hG, hGA, hsk⟩, by simp [intOf]; omega⟩
          · obtain rfl : k = N := by omega
            go_wp2_with fail
            go_meet
            case rel => exact hS
      case rest =>
        clear hS
        have hS := hcut.again (E' := E4 N)
        clear hcut
        go_upto_block 12 with (fail)
        go_cut [] (fun w' => Fl2 B L cl N A n c gg (gg + 1) w (E4 N) N w')
        case first =>
          go_wp2_with fail
          go_loopw [11] (fun v wr => FlR3 B L cl N A n c gg (gg + 1) w (E4 N) v wr) (fun v _ => N - (intOf v).toNat)
          case atStart => exact ⟨0, Nat.zero_le _, rfl, hS⟩
          case round =>
            clear hS
            obtain ⟨k, hk, rfl, hS⟩ := hrel
            by_cases hlt : k < N
            · have hnk := hn k hlt
              obtain ⟨V, A', c', sk, hG, hGA, hsk⟩ := hS
              have hGA2 := hGA.mono hsk
              have hFo := hG.2.2.1.size
              clear hGA hsk
              have hmk := mk64L
              go_wp2_with fail
              clear hmk
              obtain ⟨wo, rfl⟩ : ∃ wo : World, wo = wr := ⟨_, rfl⟩
              have hO0 := own64 wo 35 voteZ.arr 23 B (arr_len _) (by omega)
              go_loopw [13] (fun v wr => FlR8 B L cl N A n c gg w V (E4 N) A' c' k wo.heap.size wo.heap.size v wr) (fun v _ => 64 - (intOf v).toNat)
              case atStart => exact ⟨0, _, Nat.zero_le _, rfl, by rw [Array.length_toList, size_madeCells], by simp [mkF], hG.ext ((Ext.refl _).alloc _), hO0, by simp⟩
              case round =>
                clear hG hO0
                obtain ⟨t, Y, ht, rfl, hY, hYt, hG, hO, hsk⟩ := hrel
                have HY := Lib.hid hY
                have HYT := Lib.hid hYt
                have HG := Lib.hid hG
                have HO := Lib.hid hO
                have hBw := hG.2.2.1.size
                clear hY hYt hG hO
                by_cases hlt2 : t < 64
                · obtain ⟨cur, bt, hg5, hs5⟩ := HasRow.ofW HO.out
                  have HMM := Lib.hid (fun wx => markLetterK (k + N) t wx (by omega) (by omega))
                  rw [Int.natCast_add] at HMM
                  go_wp2_with fail
                  refine (HMM.out _).mono ?_
                  rintro e w5 ⟨rfl, hE5⟩
                  have HE5 := Lib.hid hE5
                  have hg6 := hE5.blk hg5
                  have hsz5 := hE5.sz
                  clear hE5
                  go_wp2_with (refine wpList_store_at rfl 35 bt _ _ rfl rfl wo.heap.size t 23 cur (mkLetK (k + N) t).arr (by simp [Act.eval]) rfl hg6 infoLet (by omega) (arr_len _) (mkLetK (k + N) t).one ?_; intro w6 hS6; have HS6 := Lib.hid hS6; clear hS6)
                  have hsz6 := HS6.out.1.size
                  exact ⟨⟨t + 1, _, by omega, by go_num, (mark_next mcL_len HY.out hlt2 HYT.out).1, (mark_next mcL_len HY.out hlt2 HYT.out).2, GrL.setNew (HG.out.ext HE5.out) hGA2 (HO.out.ext HE5.out) (Nat.le_refl _) hFo HS6.out.1, (HO.out.ext HE5.out).stored HS6.out hlt2 (mcL_len (k + N) t), by omega⟩, by simp [intOf]; omega⟩
                · obtain rfl : t = 64 := by omega
                  obtain rfl : Y = mkF mcL (k + N) 64 := by have h := HYT.out; rw [List.take_of_length_le (by rw [HY.out]; omega)] at h; exact h
                  obtain ⟨gl, rfl, hcl⟩ := HG.out.1.cell hlt
                  go_wp2_with (at_builtin; refine wpList_append_W _ rfl _ _ 22 rfl 35 23 264 Tryz.underlying22 infoLetP (by omega) B _ _ _ (mkF mcL k (n k)) rfl (HG.out.2.1 k hlt) _ 64 _ (mkF mcL (k + N) 64) rfl (by rw [mkF_len mcL_len]) HO.out.rd (oneFL _ _) (by unfold maxLen; omega) (by omega) (by omega) ?_; intro A3 c3 w3 hO3 hF3 hA3 hz3 hg3; obtain ⟨hG3, hb3, hs3⟩ := grow_stepW neL HG.out hGA2 hlt hd (HG.out.2.1 k hlt) (List.prefix_refl _) (fun i hi => .inl hi) hFo (by omega) hO3 hF3 hA3 (hg3.imp (fun h => h.2) (fun h => h.2)); obtain ⟨hG4, hGA4⟩ := gs_storeW (m := n k + 64) neL hG3 hGA2 hlt hO3 hb3 rfl hgl (by omega) (by omega); have hgk := GrL.vcell hG3 hlt; have hgf := GrL.vfz hG3 k; have HG4 := Lib.hid hG4; have HA4 := Lib.hid hGA4; clear hb3 hg3 hG4 hGA4 hG3 hO3 hF3 hA3 hz3)
                  exact ⟨⟨k + 1, by omega, by go_num, _, _, _, _, HG4.out, HA4.out, by simp [World.setCell]⟩, by simp [intOf]; omega⟩
            · obtain rfl : k = N := by omega
              go_wp2_with fail
              go_meet
              case rel => exact hS
        case rest =>
          clear hS
          have hS := hcut
          clear hcut
          go_wp2_with fail
          go_loopw [14] (fun v wr => FlR5 B L cl N A n c gg (gg + 1) w (E4 N) v wr) (fun v _ => N - (intOf v).toNat)
          case atStart => exact ⟨0, Nat.zero_le _, rfl, hS⟩
          case round =>
            clear hS
            obtain ⟨k, hk, rfl, hS⟩ := hrel
            by_cases hlt : k < N
            · have hnk := hn k hlt
              obtain ⟨V, A', c', sk, hG, hGA, hsk⟩ := hS
              go_wp2_with fail
              obtain ⟨wo, rfl⟩ : ∃ wo : World, wo = wr := ⟨_, rfl⟩
              go_loopw [15] (fun v wr => FlR6 B L cl N A n c gg w V (E4 N) A' c' sk (n k) v wr) (fun v _ => n k - (intOf v).toNat)
              case atStart => exact ⟨0, Nat.zero_le _, rfl, hG, hsk⟩
              case round =>
                clear hG hsk
                obtain ⟨t, ht, rfl, hG, hsk⟩ := hrel
                have hgk := GrL.vcell hG hlt
                rw [hGA.2.2.1 k hlt] at hgk
                obtain ⟨gl, rfl, hcl⟩ := hG.1.cell hlt
                by_cases hlt2 : t < n k
                · have hO' := hG.2.2.2.2 k hlt
                  obtain ⟨g', hA'⟩ := hO'.some_ (by omega)
                  rw [hA'] at hgk hO'
                  have HR1 := Lib.hid (rangeL hO' hlt2)
                  have HMM := Lib.hid (fun wx => markLetterK k t wx (by omega) (by omega))
                  clear hA' hO'
                  have hAk := hG.2.1 k hlt
                  obtain ⟨g, hA⟩ := hAk.some_ (by omega)
                  rw [hA] at hcl hAk
                  have HR2 := Lib.hid (rangeL (m := n k) (ys := []) (by rw [List.append_nil]; exact hAk) hlt2)
                  clear hA hAk
                  have hxx : ((t : Int) < (n k : Int) + 64) = True := eq_true (by omega)
                  go_wp2_with fail
                  refine Stab.wp_region_lex Ext (Ext wr) (fun _ => True) (by kernel_rfl) (by kernel_rfl) (fun _ _ h => h) (fun _ _ h k => Ext.trans h k) (fun _ _ _ _ => trivial) ((Ext.refl _).drew) trivial ?_
                  simp only [Stab.zipL, Nat.reduceAdd]
                  iterate 6 (refine Stab.wpX_val rfl rfl ?_; apply Exists.intro; refine ⟨fun wx hC _ => ?_, ?_⟩; (have s1 := hC.cell hgk; have s2 := hC.cell hcl; go_simp; exact ⟨Ext.refl _, rfl⟩); simp only [Act.put, List.setIfInBounds_toArray, List.set_cons_zero, List.set_cons_succ])
                  (refine Stab.wpX_val rfl rfl ?_; apply Exists.intro; refine ⟨fun wx hC _ => ?_, ?_⟩; (exact yieldsP_let _ rfl g (t * 23) (mkLetK k t) rfl (fun j v hv => hC.cell (HR2.out j v hv))); simp only [Act.put, List.setIfInBounds_toArray, List.set_cons_zero, List.set_cons_succ])
                  iterate 2 (refine Stab.wpX_val rfl rfl ?_; apply Exists.intro; refine ⟨fun wx hC _ => ?_, ?_⟩; (have s1 := hC.cell hgk; have s2 := hC.cell hcl; go_simp; exact ⟨Ext.refl _, rfl⟩); simp only [Act.put, List.setIfInBounds_toArray, List.set_cons_zero, List.set_cons_succ])
                  (refine Stab.wpX_call1 rfl rfl (fun _ _ _ _ => trivial) ?_; apply Exists.intro; refine ⟨fun wx hC _ _ => ?_, ?_⟩; (go_simp; refine ⟨rfl, ?_⟩; refine (HMM.out wx).mono ?_; rintro ev w9 ⟨rfl, hE9⟩; first | exact ⟨hE9, rfl⟩ | exact ⟨hE9, rfl, trivial⟩); simp only [Act.put, List.setIfInBounds_toArray, List.set_cons_zero, List.set_cons_succ])
                  (refine Stab.wpX_call1 rfl rfl (fun _ _ _ _ => trivial) ?_; apply Exists.intro; refine ⟨fun wx hC _ _ => ?_, ?_⟩; (go_simp; refine ⟨rfl, ?_⟩; refine (same_mk k t wx).mono ?_; rintro ev w9 ⟨rfl, hE9⟩; first | exact ⟨hE9, rfl⟩ | exact ⟨hE9, rfl, trivial⟩); simp only [Act.put, List.setIfInBounds_toArray, List.set_cons_zero, List.set_cons_succ])
                  iterate 2 (refine Stab.wpX_val rfl rfl ?_; apply Exists.intro; refine ⟨fun wx hC _ => ?_, ?_⟩; (have s1 := hC.cell hgk; have s2 := hC.cell hcl; go_simp; exact ⟨Ext.refl _, rfl⟩); simp only [Act.put, List.setIfInBounds_toArray, List.set_cons_zero, List.set_cons_succ])
                  iterate 6 (refine Stab.wpX_val rfl rfl ?_; apply Exists.intro; refine ⟨fun wx hC _ => ?_, ?_⟩; (have s1 := hC.cell hgk; have s2 := hC.cell hcl; go_simp; exact ⟨Ext.refl _, rfl⟩); simp only [Act.put, List.setIfInBounds_toArray, List.set_cons_zero, List.set_cons_succ])
                  (refine Stab.wpX_val rfl rfl ?_; apply Exists.intro; refine ⟨fun wx hC _ => ?_, ?_⟩; (exact yieldsP_let _ rfl g' (t * 23) (mkLetK k t) rfl (fun j v hv => hC.cell (HR1.out j v hv))); simp only [Act.put, List.setIfInBounds_toArray, List.set_cons_zero, List.set_cons_succ])
                  iterate 2 (refine Stab.wpX_val rfl rfl ?_; apply Exists.intro; refine ⟨fun wx hC _ => ?_, ?_⟩; (have s1 := hC.cell hgk; have s2 := hC.cell hcl; go_simp; exact ⟨Ext.refl _, rfl⟩); simp only [Act.put, List.setIfInBounds_toArray, List.set_cons_zero, List.set_cons_succ])
                  (refine Stab.wpX_call1 rfl rfl (fun _ _ _ _ => trivial) ?_; apply Exists.intro; refine ⟨fun wx hC _ _ => ?_, ?_⟩; (go_simp; refine ⟨rfl, ?_⟩; refine (HMM.out wx).mono ?_; rintro ev w9 ⟨rfl, hE9⟩; first | exact ⟨hE9, rfl⟩ | exact ⟨hE9, rfl, trivial⟩); simp only [Act.put, List.setIfInBounds_toArray, List.set_cons_zero, List.set_cons_succ])
                  (refine Stab.wpX_call1 rfl rfl (fun _ _ _ _ => trivial) ?_; apply Exists.intro; refine ⟨fun wx hC _ _ => ?_, ?_⟩; (go_simp; refine ⟨rfl, ?_⟩; refine (same_mk k t wx).mono ?_; rintro ev w9 ⟨rfl, hE9⟩; first | exact ⟨hE9, rfl⟩ | exact ⟨hE9, rfl, trivial⟩); simp only [Act.put, List.setIfInBounds_toArray, List.set_cons_zero, List.set_cons_succ])
                  iterate 2 (refine Stab.wpX_val rfl rfl ?_; apply Exists.intro; refine ⟨fun wx hC _ => ?_, ?_⟩; (have s1 := hC.cell hgk; have s2 := hC.cell hcl; go_simp; exact ⟨Ext.refl _, rfl⟩); simp only [Act.put, List.setIfInBounds_toArray, List.set_cons_zero, List.set_cons_succ])
                  refine Stab.wpX_end fun w8 hC8 _ _ => ?_
                  have HC8 := Lib.hid hC8
                  clear hC8
                  go_wp2_with fail
                  exact ⟨⟨t + 1, by omega, by go_num, hG.ext HC8.out, by have := HC8.out.sz; omega⟩, by simp [intOf]; omega⟩
                · obtain rfl : t = n k := by omega
                  go_wp2_with fail
                  exact ⟨⟨k + 1, by omega, by go_num, V, A', c', sk, hG, hGA, hsk⟩, by simp [intOf]; omega⟩
            · obtain rfl : k = N := by omega
              obtain ⟨V, A', c', sk, hG, hGA, hsk⟩ := hS
              go_wp2_with fail
              go_ret
              exact ⟨rfl, hG.2.2.1⟩
end Go.Proofs.YtjnllilmimngoaaGreatDoor
namespace Go.Proofs.YtjnllilmimngoaaGreatDoor
open Go.RowKit

set_option maxRecDepth 100000 in
set_option maxHeartbeats 600000 in
theorem flatWords_nil (w : World) : Calls Tryz.prog 70 #[.slice none 0 0] w fun e w' => e = .returned (.bool true) ∧ Ext w w' := by
  have hmk : ∀ W : World, (Instr.makeSlice 82 (.int .i64 0) (.int .i64 0)).run Tryz.prog W = .ok (.slice (some ⟨W.heap.size, 0, none⟩) 0 0) (W.alloc (.cells #[] 172)) := fun _ => by kernel_rfl
  go_enter Tryz.func70, Tryz.ntmps70
  go_wp2
  go_rounds 1
  go_wp2
  go_rounds 1
  go_wp2
  go_rounds 1
  go_wp2
  go_rounds 1
  go_wp2
  go_rounds 1
  go_wp2
  go_ret
  exact ⟨rfl, (Ext.refl _).alloc _⟩

set_option maxRecDepth 100000 in
set_option maxHeartbeats 600000 in
theorem flatLongs_nil (w : World) : Calls Tryz.prog 72 #[.slice none 0 0] w fun e w' => e = .returned (.bool true) ∧ Ext w w' := by
  have hmk : ∀ W : World, (Instr.makeSlice 84 (.int .i64 0) (.int .i64 0)).run Tryz.prog W = .ok (.slice (some ⟨W.heap.size, 0, none⟩) 0 0) (W.alloc (.cells #[] 173)) := fun _ => by kernel_rfl
  go_enter Tryz.func72, Tryz.ntmps72
  go_wp2
  go_rounds 1
  go_wp2
  go_rounds 1
  go_wp2
  go_rounds 1
  go_wp2
  go_rounds 1
  go_wp2
  go_rounds 1
  go_wp2
  go_ret
  exact ⟨rfl, (Ext.refl _).alloc _⟩

set_option maxRecDepth 100000 in
set_option maxHeartbeats 600000 in
theorem flatTexts_nil (w : World) : Calls Tryz.prog 73 #[.slice none 0 0] w fun e w' => e = .returned (.bool true) ∧ Ext w w' := by
  have hmk : ∀ W : World, (Instr.makeSlice 85 (.int .i64 0) (.int .i64 0)).run Tryz.prog W = .ok (.slice (some ⟨W.heap.size, 0, none⟩) 0 0) (W.alloc (.cells #[] 174)) := fun _ => by kernel_rfl
  go_enter Tryz.func73, Tryz.ntmps73
  go_wp2
  go_rounds 1
  go_wp2
  go_rounds 1
  go_wp2
  go_rounds 1
  go_wp2
  go_rounds 1
  go_wp2
  go_rounds 1
  go_wp2
  go_ret
  exact ⟨rfl, (Ext.refl _).alloc _⟩

set_option maxRecDepth 100000 in
set_option maxHeartbeats 600000 in
theorem flatTruths_nil (w : World) : Calls Tryz.prog 75 #[.slice none 0 0] w fun e w' => e = .returned (.bool true) ∧ Ext w w' := by
  have hmk : ∀ W : World, (Instr.makeSlice 87 (.int .i64 0) (.int .i64 0)).run Tryz.prog W = .ok (.slice (some ⟨W.heap.size, 0, none⟩) 0 0) (W.alloc (.cells #[] 176)) := fun _ => by kernel_rfl
  go_enter Tryz.func75, Tryz.ntmps75
  go_wp2
  go_rounds 1
  go_wp2
  go_rounds 1
  go_wp2
  go_rounds 1
  go_wp2
  go_rounds 1
  go_wp2
  go_rounds 1
  go_wp2
  go_ret
  exact ⟨rfl, (Ext.refl _).alloc _⟩

set_option maxRecDepth 100000 in
set_option maxHeartbeats 600000 in
theorem flatUnits_nil (w : World) : Calls Tryz.prog 76 #[.slice none 0 0] w fun e w' => e = .returned (.bool true) ∧ Ext w w' := by
  have hmk : ∀ W : World, (Instr.makeSlice 88 (.int .i64 0) (.int .i64 0)).run Tryz.prog W = .ok (.slice (some ⟨W.heap.size, 0, none⟩) 0 0) (W.alloc (.cells #[] 177)) := fun _ => by kernel_rfl
  go_enter Tryz.func76, Tryz.ntmps76
  go_wp2
  go_rounds 1
  go_wp2
  go_rounds 1
  go_wp2
  go_rounds 1
  go_wp2
  go_rounds 1
  go_wp2
  go_rounds 1
  go_wp2
  go_ret
  exact ⟨rfl, (Ext.refl _).alloc _⟩

set_option maxRecDepth 100000 in
set_option maxHeartbeats 600000 in
theorem flatMetas_nil (w : World) : Calls Tryz.prog 79 #[.slice none 0 0] w fun e w' => e = .returned (.bool true) ∧ Ext w w' := by
  have hmk : ∀ W : World, (Instr.makeSlice 91 (.int .i64 0) (.int .i64 0)).run Tryz.prog W = .ok (.slice (some ⟨W.heap.size, 0, none⟩) 0 0) (W.alloc (.cells #[] 184)) := fun _ => by kernel_rfl
  go_enter Tryz.func79, Tryz.ntmps79
  go_wp2
  go_rounds 1
  go_wp2
  go_rounds 1
  go_wp2
  go_rounds 1
  go_wp2
  go_rounds 1
  go_wp2
  go_rounds 1
  go_wp2
  go_ret
  exact ⟨rfl, (Ext.refl _).alloc _⟩

set_option maxRecDepth 100000 in
set_option maxHeartbeats 600000 in
theorem flatMarks_nil (w : World) : Calls Tryz.prog 80 #[.slice none 0 0] w fun e w' => e = .returned (.bool true) ∧ Ext w w' := by
  have hmk : ∀ W : World, (Instr.makeSlice 92 (.int .i64 0) (.int .i64 0)).run Tryz.prog W = .ok (.slice (some ⟨W.heap.size, 0, none⟩) 0 0) (W.alloc (.cells #[] 188)) := fun _ => by kernel_rfl
  go_enter Tryz.func80, Tryz.ntmps80
  go_wp2
  go_rounds 1
  go_wp2
  go_rounds 1
  go_wp2
  go_rounds 1
  go_wp2
  go_rounds 1
  go_wp2
  go_rounds 1
  go_wp2
  go_ret
  exact ⟨rfl, (Ext.refl _).alloc _⟩

set_option maxRecDepth 100000 in
set_option maxHeartbeats 600000 in
theorem flatSnaps_nil (w : World) : Calls Tryz.prog 81 #[.slice none 0 0] w fun e w' => e = .returned (.bool true) ∧ Ext w w' := by
  have hmk : ∀ W : World, (Instr.makeSlice 93 (.int .i64 0) (.int .i64 0)).run Tryz.prog W = .ok (.slice (some ⟨W.heap.size, 0, none⟩) 0 0) (W.alloc (.cells #[] 192)) := fun _ => by kernel_rfl
  go_enter Tryz.func81, Tryz.ntmps81
  go_wp2
  go_rounds 1
  go_wp2
  go_rounds 1
  go_wp2
  go_rounds 1
  go_wp2
  go_rounds 1
  go_wp2
  go_rounds 1
  go_wp2
  go_ret
  exact ⟨rfl, (Ext.refl _).alloc _⟩

set_option maxRecDepth 100000 in
set_option maxHeartbeats 600000 in
theorem flatShapes_nil (w : World) : Calls Tryz.prog 82 #[.slice none 0 0] w fun e w' => e = .returned (.bool true) ∧ Ext w w' := by
  have hmk : ∀ W : World, (Instr.makeSlice 94 (.int .i64 0) (.int .i64 0)).run Tryz.prog W = .ok (.slice (some ⟨W.heap.size, 0, none⟩) 0 0) (W.alloc (.cells #[] 194)) := fun _ => by kernel_rfl
  go_enter Tryz.func82, Tryz.ntmps82
  go_wp2
  go_rounds 1
  go_wp2
  go_rounds 1
  go_wp2
  go_rounds 1
  go_wp2
  go_rounds 1
  go_wp2
  go_rounds 1
  go_wp2
  go_ret
  exact ⟨rfl, (Ext.refl _).alloc _⟩
end Go.Proofs.YtjnllilmimngoaaGreatDoor
