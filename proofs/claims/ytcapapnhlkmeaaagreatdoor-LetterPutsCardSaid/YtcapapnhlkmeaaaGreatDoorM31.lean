/-
  flatBytes: rows that lie apart are told to.
-/
import Derived.Test.YtcapapnhlkmeaaaGreatDoorM30
import Derived.Deep.CutBlock
namespace Go.Proofs.YtcapapnhlkmeaaaGreatDoor
open Go.RowKit

/-- Behind the first loop: all rows are marked. -/
def Fl1 (B : Nat) (L : Option Addr) (cl N : Nat) (A : Nat → Option Addr) (n c : Nat → Nat) (w0 w : World) : Prop :=
  LsOwn w B L cl N A n c ∧ Rows_ w B N A c (fun k => mk k (n k)) ∧ Fr (RB N A) w0 w
def FlRel1 (B : Nat) (L : Option Addr) (cl N : Nat) (A : Nat → Option Addr) (n c : Nat → Nat) (w0 : World) (v : Value) (w : World) : Prop :=
  ∃ (k : Nat) (X : Nat → List Int), k ≤ N ∧ v = .int .i64 k ∧ LsOwn w B L cl N A n c ∧ (∀ j, j < N → (X j).length = n j) ∧ (∀ j, j < k → X j = mk j (n j)) ∧ Rows_ w B N A c X ∧ Fr (RB N A) w0 w
def FlRel2 (B : Nat) (L : Option Addr) (cl N : Nat) (A : Nat → Option Addr) (n c : Nat → Nat) (k : Nat) (w0 : World) (v : Value) (w : World) : Prop :=
  ∃ (i : Nat) (X : Nat → List Int), i ≤ n k ∧ v = .int .i64 i ∧ LsOwn w B L cl N A n c ∧ (∀ j, j < N → (X j).length = n j) ∧ (∀ j, j < k → X j = mk j (n j)) ∧ (X k).take i = mk k i ∧ Rows_ w B N A c X ∧ Fr (RB N A) w0 w

theorem Rows_.cong {w : World} {B N : Nat} {A : Nat → Option Addr} {c : Nat → Nat} {X Y : Nat → List Int} (h : Rows_ w B N A c X) (he : ∀ j, j < N → X j = Y j) : Rows_ w B N A c Y := fun j hj => by rw [← he j hj]; exact h j hj
theorem set_take {l : List Int} {i : Nat} (hi : i < l.length) (m : Int) : (l.set i m).take (i + 1) = l.take i ++ [m] := by
  rw [List.take_succ_eq_append_getElem (by simpa using hi), List.take_set_of_le (Nat.le_refl _)]
  simp

theorem Tryz.infoER : (Tryz.prog.info? 32).map (fun i => (i.zero, i.size, i.bytes)) = some (some (.slice none 0 0), 1, 24) := by kernel_rfl
theorem mkRows (N : Nat) (hn : N ≤ 100000) (w : World) : (Instr.makeSlice 45 (.int .i64 (N : Int)) (.int .i64 (N : Int))).run Tryz.prog w = .ok (.slice (some ⟨w.heap.size, 0, none⟩) N N) (w.alloc (.cells (madeCells #[.slice none 0 0] N) 32)) := by
  obtain ⟨i0, hi, hz0, hz1, hz2⟩ := info_parts Tryz.infoER
  exact run_mk0 (P := Tryz.prog) 45 32 i0 _ Tryz.underlying45 hi hz0 hz1 N N (N : Int) rfl (Nat.le_refl _) (by omega) (by omega) w

set_option maxRecDepth 100000 in
set_option maxHeartbeats 2000000 in
theorem flatBytes_1 (B : Nat) (L : Option Addr) (cl N : Nat) (A : Nat → Option Addr) (n c : Nat → Nat) (X : Nat → List Int) (w : World) (hL : LsOwn w B L cl N A n c) (hX : ∀ j, j < N → (X j).length = n j) (hR : Rows_ w B N A c X) (hd : Dis N A)
    (hN : N ≤ 100000) (hn : ∀ j, j < N → n j ≤ 1000000000) (hB : B ≤ w.heap.size) :
    Calls Tryz.prog 95 #[.slice L N cl] w fun e w' => e = .returned (.bool true) ∧ Fr (RB N A) w w' := by
  go_enter Tryz.func95, Tryz.ntmps95
  go_upto_block 0 with (fail)
  go_cut [] (fun w' => Fl1 B L cl N A n c w w')
  case first =>
    go_wp2_with fail
    go_loopw [3] (fun v wr => FlRel1 B L cl N A n c w v wr) (fun v _ => N - (intOf v).toNat)
    case atStart => exact ⟨0, X, Nat.zero_le _, rfl, hL, hX, fun j hj => by omega, hR, Fr.refl _ _⟩
    case round =>
      clear hL hX hR
      obtain ⟨k, X1, hk, rfl, hL, hX, hM, hR, hF⟩ := hrel
      have HX := Lib.hid hX
      have HM := Lib.hid hM
      clear hX hM
      by_cases hlt : k < N
      · have hnk := hn k hlt
        go_wp2_with fail
        obtain ⟨wo, rfl⟩ : ∃ wo : World, wo = wr := ⟨_, rfl⟩
        go_loopw [4] (fun v wr => FlRel2 B L cl N A n c k w v wr) (fun v _ => n k - (intOf v).toNat)
        case atStart => exact ⟨0, X1, Nat.zero_le _, rfl, hL, HX.out, HM.out, rfl, hR, hF⟩
        case round =>
          clear hL hR hF HX HM
          obtain ⟨i, X2, hi, rfl, hL, hX, hM, ht, hR, hF⟩ := hrel
          have HX := Lib.hid hX
          have HM := Lib.hid hM
          have HT := Lib.hid ht
          clear hX hM ht
          obtain ⟨gl, rfl, hcl⟩ := hL.cell hlt
          by_cases hlt2 : i < n k
          · have hRk := hR k hlt
            obtain ⟨g, hA⟩ := hRk.some_ (by rw [bys_length, HX.out k hlt]; omega)
            have HA := Lib.hid hA
            rw [hA] at hcl hRk
            obtain ⟨x, hcx, _⟩ := hRk.intAt (i := i) (by rw [HX.out k hlt]; omega)
            have hfx := hRk.frozen i
            clear hA
            go_wp2_with fail
            refine Stab.wp_region_lexTail 9 Ext (Ext _) (fun _ => True) (by kernel_rfl) (by kernel_rfl) (fun _ _ h => h) (fun _ _ h k => Ext.trans h k) (fun _ _ _ _ => trivial) ((Ext.refl _).drew) trivial ?_
            simp only [List.take_succ_cons, List.take_zero, List.drop_succ_cons, List.drop_zero, Stab.zipL, Nat.reduceAdd]
            repeat (first
              | (refine Stab.wpX_val rfl rfl ?_; apply Exists.intro; refine ⟨fun w1 hC _ => ?_, ?_⟩; (have hc1 := hC.cell hcl; go_simp; exact ⟨Ext.refl _, rfl⟩); simp only [Act.put, List.setIfInBounds_toArray, List.set_cons_zero, List.set_cons_succ])
              | (refine Stab.wpX_call1 rfl rfl (fun _ _ _ _ => trivial) ?_; apply Exists.intro; refine ⟨fun w1 hC _ _ => ?_, ?_⟩; (go_simp; refine ⟨rfl, ?_⟩; refine (markByte_any k i _ (by omega) (by omega)).mono ?_; rintro e w2 ⟨rfl, rfl⟩; (first | exact ⟨Ext.refl _, rfl, trivial⟩ | exact ⟨Ext.refl _, rfl⟩)); simp only [Act.put, List.setIfInBounds_toArray, List.set_cons_zero, List.set_cons_succ]))
            refine Stab.wpX_end fun w1 hC _ _ => ?_
            have hc1 := hC.cell hcx
            have hf1 := hC.frozen (World.block_lt_of_cell? _ _ hcx) hfx
            obtain ⟨hL2, hR2, hF2⟩ := mark_step (i := i) hL hR hd hlt HA.out hC (markB k i)
            have HL2 := Lib.hid hL2
            have HR2 := Lib.hid hR2
            have HF2 := Lib.hid hF2
            clear hL2 hR2 hF2 hC
            go_wp2_with fail
            refine ⟨⟨i + 1, _, by omega, by go_num, HL2.out, ?_, ?_, ?_, HR2.out, hF.trans HF2.out (fun _ _ h => h)⟩, by simp [intOf]; omega⟩
            · intro j hj
              by_cases hjk : j = k
              · subst hjk; rw [upd_same, List.length_set]; exact HX.out j hj
              · rw [upd_ne _ _ _ hjk]; exact HX.out j hj
            · intro j hj
              rw [upd_ne _ _ _ (by omega)]; exact HM.out j hj
            · rw [upd_same, set_take (by rw [HX.out k hlt]; exact hlt2), HT.out, mk_succ]
          · obtain rfl : i = n k := by omega
            have HT2 : Hid (X2 k = mk k (n k)) := Lib.hid (by have h := HT.out; rw [List.take_of_length_le (by rw [HX.out k hlt]; omega)] at h; exact h)
            go_wp2_with fail
            exact ⟨⟨k + 1, X2, by omega, by go_num, hL, HX.out, fun j hj => by
              by_cases hjk : j = k
              · rw [hjk]; exact HT2.out
              · exact HM.out j (by omega), hR, hF⟩, by simp [intOf]; omega⟩
      · obtain rfl : k = N := by omega
        go_wp2_with fail
        go_meet
        case rel => exact ⟨hL, hR.cong HM.out, hF⟩
  case rest =>
    clear hL hX hR
    obtain ⟨hL, hR, hF⟩ := hcut
    have hmk := mkRows N hN
    go_upto_block 4 with (fail)
    clear hmk
    have hsz := hF.size
    have hS : Fl2 B L cl N A n c wc.heap.size (wc.heap.size + 1) w (E2 n) 0 (wc.alloc (.cells (madeCells #[.slice none 0 0] N) 32)) := Fl2.start hL hR hF (by omega) hN
    have hgl : ¬ blk L wc.heap.size := fun h => by have := (Own.lt hL h).2; omega
    clear hL hR hF
    generalize hgg : wc.heap.size = gg at *
    generalize wc.alloc (.cells (madeCells #[.slice none 0 0] N) 32) = w1 at *
    clear hgg
    go_cut [] (fun w' => Fl2 B L cl N A n c gg (gg + 1) w (E2 n) N w')
    case first =>
      go_wp2_with fail
      go_loopw [6] (fun v wr => FlRel3 B L cl N A n c gg (gg + 1) w (E2 n) v wr) (fun v _ => N - (intOf v).toNat)
      case atStart => exact ⟨0, Nat.zero_le _, rfl, hS⟩
      case round =>
        clear hS
        obtain ⟨k, hk, rfl, hS⟩ := hrel
        by_cases hlt : k < N
        · have hnk := hn k hlt
          obtain ⟨V, A', c', sk, hG, hGA, hsk⟩ := hS
          obtain ⟨gl, rfl, hcl⟩ := hG.1.cell hlt
          have hGA2 := hGA.mono hsk
          clear hGA hsk
          go_wp2_with fail
          obtain ⟨wo, rfl⟩ : ∃ wo : World, wo = wr := ⟨_, rfl⟩
          go_loopw [7, 8] (fun v i wr => FlRel4 B (some ⟨gl, 0, none⟩) cl N A n c gg w V (E2 n) A' c' k wo.heap.size v i wr) (fun _ i _ => 64 - (intOf i).toNat)
          case atStart => exact ⟨0, _, _, _, Nat.zero_le _, rfl, rfl, rfl, hG, hG.2.1 k hlt, fun i hi => .inl hi, Nat.le_refl _⟩
          case round =>
            have hFo := hG.2.2.1.size
            clear hG hcl
            obtain ⟨t, m, A2, c2, ht, rfl, rfl, hm, hG, hO2, hb2, hsk⟩ := hrel
            have HM := Lib.hid hm
            have HB2 := Lib.hid hb2
            clear hm hb2
            obtain ⟨gl2, hgl2, hcl⟩ := hG.1.cell hlt
            injection hgl2 with hgl2
            injection hgl2 with hgl2
            subst hgl2
            have hBw := hG.2.2.1.size
            by_cases hlt2 : t < 64
            · go_wp2_with (first | (go_at_call 55; refine (markByte_add k (n k) t _ (by omega) (by omega)).mono ?_; rintro e w' ⟨rfl, rfl⟩) | (at_builtin; refine appendBytes2 _ rfl _ _ rfl B _ _ _ (mk k (n k + t)) rfl (by rw [HM.out, mk_length]) (hO2.ext ((Ext.refl _).alloc _)) _ _ _ [markB k (n k + t)] rfl rfl (rd_one _ _ _) (by rw [mk_length]; simp; omega) (by simp; omega) ?_; intro A3 c3 m3 w3 hm3 hO3 hg3; obtain ⟨hG3, hb3, hs3⟩ := grow_step (hG.ext ((Ext.refl _).alloc _)) hGA2 hlt hd (hO2.ext ((Ext.refl _).alloc _)) (mk_pre k (n k) t) HB2.out (by omega) (by simp; omega) hO3 hg3; have HM3 := Lib.hid hm3; have HB3 := Lib.hid hb3; clear hm3 hb3 hg3))
              exact ⟨⟨t + 1, _, _, _, by omega, by go_num, rfl, by rw [HM3.out]; simp [mk_length]; omega, hG3, Own.cong hO3 (by rw [← Nat.add_assoc, mk_succ, bys_app]), HB3.out, by simp at hs3; omega⟩, by simp [intOf]; omega⟩
            · obtain rfl : t = 64 := by omega
              have hgk := hG.2.2.2.1.cellAt (i := k) (u := V k) (by simp [hlt])
              have hgf := hG.2.2.2.1.frozen k
              have hE : bys (mk k (n k + 64)) = bys (mk k (n k) ++ E2 n k) := by rw [mk_add]; rfl
              obtain ⟨hG4, hGA4⟩ := gs_store (m := m) hG hGA2 hlt (Own.cong hO2 hE) HB2.out HM.out hgl (by omega) hsk
              have HG4 := Lib.hid hG4
              have HA4 := Lib.hid hGA4
              clear hG4 hGA4 hE
              go_wp2_with fail
              exact ⟨⟨k + 1, by omega, by go_num, _, _, _, _, HG4.out, HA4.out, by simp [World.setCell]⟩, by simp [intOf]; omega⟩
        · obtain rfl : k = N := by omega
          go_wp2_with fail
          go_meet
          case rel => exact hS
    case rest =>
      clear hS
      have hS := hcut
      clear hcut
      go_upto_block 8 with (fail)
      go_cut [] (fun w' => Fl2 B L cl N A n c gg (gg + 1) w (E2 n) N w')
      case first =>
        go_wp2_with fail
        go_loopw [9] (fun v wr => FlRel5 B L cl N A n c gg (gg + 1) w (E2 n) v wr) (fun v _ => N - (intOf v).toNat)
        case atStart => exact ⟨0, Nat.zero_le _, rfl, hS⟩
        case round =>
          clear hS
          obtain ⟨k, hk, rfl, hS⟩ := hrel
          by_cases hlt : k < N
          · have hnk := hn k hlt
            obtain ⟨V, A', c', sk, hG, hGA, hsk⟩ := hS
            go_wp2_with fail
            obtain ⟨wo, rfl⟩ : ∃ wo : World, wo = wr := ⟨_, rfl⟩
            go_loopw [10] (fun v wr => FlRel6 B L cl N A n c gg w V (E2 n) A' c' sk (n k + 64) v wr) (fun v _ => n k + 64 - (intOf v).toNat)
            case atStart => exact ⟨0, Nat.zero_le _, rfl, hG, hsk⟩
            case round =>
              clear hG hsk
              obtain ⟨t, ht, rfl, hG, hsk⟩ := hrel
              have hgk := hG.2.2.2.1.cellAt (i := k) (u := V k) (by simp [hlt])
              rw [hGA.2.2.1 k hlt] at hgk
              obtain ⟨gl, rfl, hcl⟩ := hG.1.cell hlt
              by_cases hlt2 : t < n k + 64
              · have hO' := hG.2.2.2.2 k hlt
                obtain ⟨g', hA'⟩ := hO'.some_ (by rw [bys_length, List.length_append, mk_length]; simp [E2, E4, mk_length]; try omega)
                rw [hA'] at hgk hO'
                have hE : mk k (n k) ++ E2 n k = mk k (n k + 64) := by rw [mk_add]; rfl
                have hc1 := hO'.cellAt (i := t) (u := .int .u8 (markB k t)) (by rw [hE, bys, List.getElem?_map, mk_get hlt2]; rfl)
                clear hA' hO' hE
                by_cases hin : t < n k
                · have hdi : decide (t < n k) = true := by simp; omega
                  have hAk := hG.2.1 k hlt
                  obtain ⟨g, hA⟩ := hAk.some_ (by rw [bys_length, mk_length]; omega)
                  rw [hA] at hcl hAk
                  have hc2 := hAk.cellAt (i := t) (u := .int .u8 (markB k t)) (by rw [bys, List.getElem?_map, mk_get hin]; rfl)
                  clear hA hAk
                  go_wp2_with fail
                  go_quiet ((go_at_call 55; exact Calls.quiet_of_same ((markByte_any k t _ (by omega) (by omega)).mono fun _ _ h => ⟨h.1, h.2.symm⟩)))
                  go_wp2_with fail
                  exact ⟨⟨t + 1, by omega, by go_num, hG.ext ((Ext.refl _).drewN _), by simpa using hsk⟩, by simp [intOf]; omega⟩
                · have hdi : decide (t < n k) = false := by simp; omega
                  go_wp2_with fail
                  go_quiet ((go_at_call 55; exact Calls.quiet_of_same ((markByte_any k t _ (by omega) (by omega)).mono fun _ _ h => ⟨h.1, h.2.symm⟩)))
                  go_wp2_with fail
                  exact ⟨⟨t + 1, by omega, by go_num, hG.ext ((Ext.refl _).drewN _), by simpa using hsk⟩, by simp [intOf]; omega⟩
              · obtain rfl : t = n k + 64 := by omega
                go_wp2_with fail
                exact ⟨⟨k + 1, by omega, by go_num, V, A', c', sk, hG, hGA, hsk⟩, by simp [intOf]; omega⟩
          · obtain rfl : k = N := by omega
            go_wp2_with fail
            go_meet
            case rel => exact hS
      case rest =>
        clear hS
        have hS := hcut.again (E' := E4 N)
        clear hcut
        go_upto_block 12 with (fail)
        go_cut [] (fun w' => Fl2 B L cl N A n c gg (gg + 1) w (E4 N) N w')
        case first =>
          go_wp2_with fail
          go_loopw [11] (fun v wr => FlRel3 B L cl N A n c gg (gg + 1) w (E4 N) v wr) (fun v _ => N - (intOf v).toNat)
          case atStart => exact ⟨0, Nat.zero_le _, rfl, hS⟩
          case round =>
            clear hS
            obtain ⟨k, hk, rfl, hS⟩ := hrel
            by_cases hlt : k < N
            · have hnk := hn k hlt
              obtain ⟨V, A', c', sk, hG, hGA, hsk⟩ := hS
              have hGA2 := hGA.mono hsk
              have hFo := hG.2.2.1.size
              clear hGA hsk
              have hmk := mk64
              go_wp2_with fail
              clear hmk
              obtain ⟨wo, rfl⟩ : ∃ wo : World, wo = wr := ⟨_, rfl⟩
              have hO0 := own_64 wo B (by omega)
              go_loopw [13] (fun v wr => FlRel8 B L cl N A n c gg w V (E4 N) A' c' k wo.heap.size wo.heap.size v wr) (fun v _ => 64 - (intOf v).toNat)
              case atStart => exact ⟨0, _, Nat.zero_le _, rfl, by simp, rfl, hG.ext ((Ext.refl _).alloc _), hO0, by simp⟩
              case round =>
                clear hG hO0
                obtain ⟨t, Y, ht, rfl, hY, hYt, hG, hO, hsk⟩ := hrel
                have HY := Lib.hid hY
                have HYT := Lib.hid hYt
                clear hY hYt
                by_cases hlt2 : t < 64
                · obtain ⟨x, hcx, _⟩ := hO.intAt (i := t) (by rw [HY.out]; exact hlt2)
                  have hfx := hO.frozen t
                  have hG3 := Lib.hid (hG.setNew hGA2 hO (Nat.le_refl _) (by omega) t (.int .u8 (markB (k + N) t)))
                  have hO3 := Lib.hid (Own.cong (hO.set t (.int .u8 (markB (k + N) t))) (ys := bys (Y.set t (markB (k + N) t))) (by simp [bys, List.map_set]))
                  go_wp2_with (go_at_call 55; refine (markByte_addk k N t _ (by omega) (by omega)).mono ?_; rintro e w' ⟨rfl, rfl⟩)
                  exact ⟨⟨t + 1, _, by omega, by go_num, by rw [List.length_set, HY.out], by rw [set_take' (by rw [HY.out]; exact hlt2), HYT.out, mk_succ], hG3.out, hO3.out, by simpa [World.setCell] using hsk⟩, by simp [intOf]; omega⟩
                · obtain rfl : t = 64 := by omega
                  obtain rfl : Y = mk (k + N) 64 := by have h := HYT.out; rw [List.take_of_length_le (by rw [HY.out]; omega)] at h; exact h
                  obtain ⟨gl, rfl, hcl⟩ := hG.1.cell hlt
                  have hBw := hG.2.2.1.size
                  go_wp2_with (at_builtin; refine appendBytes2 _ rfl _ _ rfl B _ _ _ (mk k (n k)) rfl (by rw [mk_length]) (hG.2.1 k hlt) _ _ _ (mk (k + N) 64) rfl (by rw [mk_length]) hO.rd (by rw [mk_length, mk_length]; omega) (by omega) ?_; intro A3 c3 m3 w3 hm3 hO3 hg3; obtain ⟨hG3, hb3, hs3⟩ := grow_step hG hGA2 hlt hd (hG.2.1 k hlt) (List.prefix_refl _) (fun i hi => .inl hi) (by omega) (by omega) hO3 hg3; have hm4 : m3 = n k + 64 := (by rw [hm3, List.length_append, mk_length, mk_length]); obtain ⟨hG4, hGA4⟩ := gs_store (m := m3) hG3 hGA2 hlt (Own.cong hO3 (by rw [bys_app]; rfl)) hb3 hm4 hgl (by omega) (by omega); have hgk := hG3.2.2.2.1.cellAt (i := k) (u := V k) (by simp [hlt]); have hgf := hG3.2.2.2.1.frozen k; have HG4 := Lib.hid hG4; have HA4 := Lib.hid hGA4; clear hm3 hb3 hg3 hm4 hG4 hGA4)
                  exact ⟨⟨k + 1, by omega, by go_num, _, _, _, _, HG4.out, HA4.out, by simp [World.setCell]⟩, by simp [intOf]; omega⟩
            · obtain rfl : k = N := by omega
              go_wp2_with fail
              go_meet
              case rel => exact hS
        case rest =>
          clear hS
          have hS := hcut
          clear hcut
          go_wp2_with fail
          go_loopw [14] (fun v wr => FlRel5 B L cl N A n c gg (gg + 1) w (E4 N) v wr) (fun v _ => N - (intOf v).toNat)
          case atStart => exact ⟨0, Nat.zero_le _, rfl, hS⟩
          case round =>
            clear hS
            obtain ⟨k, hk, rfl, hS⟩ := hrel
            by_cases hlt : k < N
            · have hnk := hn k hlt
              obtain ⟨V, A', c', sk, hG, hGA, hsk⟩ := hS
              go_wp2_with fail
              obtain ⟨wo, rfl⟩ : ∃ wo : World, wo = wr := ⟨_, rfl⟩
              go_loopw [15] (fun v wr => FlRel6 B L cl N A n c gg w V (E4 N) A' c' sk (n k) v wr) (fun v _ => n k - (intOf v).toNat)
              case atStart => exact ⟨0, Nat.zero_le _, rfl, hG, hsk⟩
              case round =>
                clear hG hsk
                obtain ⟨t, ht, rfl, hG, hsk⟩ := hrel
                have hgk := hG.2.2.2.1.cellAt (i := k) (u := V k) (by simp [hlt])
                rw [hGA.2.2.1 k hlt] at hgk
                obtain ⟨gl, rfl, hcl⟩ := hG.1.cell hlt
                by_cases hlt2 : t < n k
                · have hO' := hG.2.2.2.2 k hlt
                  obtain ⟨g', hA'⟩ := hO'.some_ (by rw [bys_length, List.length_append, mk_length]; simp [E2, E4, mk_length]; try omega)
                  rw [hA'] at hgk hO'
                  have hc1 := hO'.cellAt (i := t) (u := .int .u8 (markB k t)) (by rw [bys, List.getElem?_map, List.getElem?_append_left (by rw [mk_length]; exact hlt2), mk_get hlt2]; rfl)
                  clear hA' hO'
                  have hin := hlt2
                  have hAk := hG.2.1 k hlt
                  obtain ⟨g, hA⟩ := hAk.some_ (by rw [bys_length, mk_length]; omega)
                  rw [hA] at hcl hAk
                  have hc2 := hAk.cellAt (i := t) (u := .int .u8 (markB k t)) (by rw [bys, List.getElem?_map, mk_get hin]; rfl)
                  clear hA hAk
                  go_wp2_with fail
                  go_quiet ((go_at_call 55; exact Calls.quiet_of_same ((markByte_any k t _ (by omega) (by omega)).mono fun _ _ h => ⟨h.1, h.2.symm⟩)))
                  go_wp2_with fail
                  exact ⟨⟨t + 1, by omega, by go_num, hG.ext ((Ext.refl _).drewN _), by simpa using hsk⟩, by simp [intOf]; omega⟩
                · obtain rfl : t = n k := by omega
                  go_wp2_with fail
                  exact ⟨⟨k + 1, by omega, by go_num, V, A', c', sk, hG, hGA, hsk⟩, by simp [intOf]; omega⟩
            · obtain rfl : k = N := by omega
              obtain ⟨V, A', c', sk, hG, hGA, hsk⟩ := hS
              go_wp2_with fail
              go_ret
              exact ⟨rfl, hG.2.2.1⟩
end Go.Proofs.YtcapapnhlkmeaaaGreatDoor
