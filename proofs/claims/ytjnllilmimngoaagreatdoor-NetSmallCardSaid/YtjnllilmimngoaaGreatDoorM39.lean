/-
  flatBytes at lists without elements.
  flatEntries at lists without elements.
-/
import Derived.Test.YtjnllilmimngoaaGreatDoorM38
import Derived.Test.YtjnllilmimngoaaGreatDoorM22
import Derived.Test.YtjnllilmimngoaaGreatDoorM30
import Derived.Test.YtjnllilmimngoaaGreatDoorM12
namespace Go.Proofs.YtjnllilmimngoaaGreatDoor
open Go.RowKit

def mcBytes : Nat → Nat → List Value := fun k i => [.int .u8 (markB k i)]
theorem mcBytes_len (k i : Nat) : (mcBytes k i).length = 1 := rfl
theorem infBytes : (Tryz.prog.info? 5).map (fun i => (i.zero.map (fun z => z.cells.size), i.size, i.bytes)) = some (some 1, 1, 1) := by kernel_rfl
theorem infzBytes : (Tryz.prog.info? 5).map (fun i => (i.zero, i.size, i.bytes)) = some (some (.int .u8 0), 1, 1) := by kernel_rfl
theorem infrBytes : (Tryz.prog.info? 33).map (fun i => (i.zero, i.size, i.bytes)) = some (some (.slice none 0 0), 1, 24) := by kernel_rfl
theorem rowsBytes (N : Nat) (hn : N ≤ 100000) (w : World) : (Instr.makeSlice 86 (.int .i64 (N : Int)) (.int .i64 (N : Int))).run Tryz.prog w = .ok (.slice (some ⟨w.heap.size, 0, none⟩) N N) (w.alloc (.cells (madeCells #[.slice none 0 0] N) 33)) := by
  obtain ⟨i0, hi, hz0, hz1, hz2⟩ := info_parts infrBytes
  exact run_mk0 (P := Tryz.prog) 86 33 i0 _ Tryz.underlying86 hi hz0 hz1 N N (N : Int) rfl (Nat.le_refl _) (by omega) (by omega) w
theorem mk64Bytes (w : World) : (Instr.makeSlice 33 (.int .i64 64) (.int .i64 64)).run Tryz.prog w = .ok (.slice (some ⟨w.heap.size, 0, none⟩) 64 64) (w.alloc (.cells (madeCells #[.int .u8 0] (64 * 1)) 5)) := by
  obtain ⟨i0, hi, hz0, hz1, hz2⟩ := info_parts infzBytes
  have hr := run_make (P := Tryz.prog) w 33 5 i0 _ Tryz.underlying33 hi hz0 .i64 .i64 64 64 (by omega) (by omega) (by rw [hz2]; omega) (by omega)
  rw [hz1] at hr
  exact hr
theorem oneBytes (k i : Nat) : ∀ u ∈ mcBytes k i, u.oneCell' = true := by
  intro u hu
  simp only [mcBytes, List.mem_cons, List.not_mem_nil, or_false] at hu
  rcases hu with rfl
  rfl
theorem oneFBytes (k n : Nat) : ∀ u ∈ mkF mcBytes k n, u.oneCell' = true := by
  intro u hu
  obtain ⟨i, _, hi⟩ := List.mem_flatMap.1 hu
  exact oneBytes k i u hi
set_option maxRecDepth 100000 in
set_option maxHeartbeats 4000000 in
theorem flatBytes_0 (B : Nat) (L : Option Addr) (cl N : Nat) (A : Nat → Option Addr) (w : World) (hL : LsW 33 w B L cl N A (fun _ => 0) (fun _ => 0)) (hN : N ≤ 50000) :
    Calls Tryz.prog 74 #[.slice L N cl] w fun e w' => e = .returned (.bool true) ∧ Ext w w' := by
  have HL := Lib.hid hL
  clear hL
  go_enter Tryz.func74, Tryz.ntmps74
  go_upto_block 0 with (fail)
  go_cut [] (fun w' => Ext w w')
  case first =>
    go_wp2_with fail
    go_loopw [3] (fun v wr => Z1 N w v wr) (fun v _ => N - (intOf v).toNat)
    case atStart => exact ⟨0, Nat.zero_le _, rfl, Ext.refl _⟩
    case round =>
      obtain ⟨k, hk, rfl, hE⟩ := hrel
      have HE := Lib.hid hE
      clear hE
      by_cases hlt : k < N
      · obtain ⟨gl, rfl, hcl⟩ := (HL.out.ext HE.out).cell hlt
        go_wp2_with fail
        go_rounds 1
        go_wp2_with fail
        exact ⟨⟨k + 1, by omega, by go_num, HE.out⟩, by simp [intOf]; omega⟩
      · obtain rfl : k = N := by omega
        go_wp2_with fail
        go_meet
        case rel => exact HE.out
  case rest =>
    have hmk := rowsBytes N (by omega)
    go_upto_block 4 with (fail)
    clear hmk
    have hS : F0 1 5 33 mcBytes N wc.heap.size w (fun _ => .slice none 0 0) (fun _ => none) (fun _ => 0) 0 (wc.heap.size + 1) (wc.alloc (.cells (madeCells #[.slice none 0 0] N) 33)) := F0.start hcut (by omega)
    clear hcut
    generalize hgg : wc.heap.size = gg at *
    generalize wc.alloc (.cells (madeCells #[.slice none 0 0] N) 33) = w1 at *
    clear hgg
    go_cut [] (fun w' => Z2 1 5 33 mcBytes N gg w N w')
    case first =>
      go_wp2_with fail
      go_loopw [6] (fun v wr => Z2R 1 5 33 mcBytes N gg w v wr) (fun v _ => N - (intOf v).toNat)
      case atStart => exact ⟨0, Nat.zero_le _, rfl, _, _, _, _, hS⟩
      case round =>
        clear hS
        obtain ⟨k, hk, rfl, V, A', c', sk, hS⟩ := hrel
        by_cases hlt : k < N
        · obtain ⟨gl, rfl, hcl⟩ := (HL.out.ext hS.x).cell hlt
          have hS2 := hS.mono hS.s.2.2 (Nat.le_refl _)
          clear hS
          go_wp2_with fail
          obtain ⟨wo, rfl⟩ : ∃ wo : World, wo = wr := ⟨_, rfl⟩
          go_loopw [7, 8] (fun v i wr => Z3 1 5 33 mcBytes N gg w V A' c' k wo.heap.size v i wr) (fun _ i _ => 64 - (intOf i).toNat)
          case atStart => exact ⟨0, _, _, Nat.zero_le _, rfl, rfl, hS2, .inl ⟨rfl, rfl, rfl⟩⟩
          case round =>
            clear hS2 hcl
            obtain ⟨t, A2, c2, ht, rfl, rfl, hS, hO⟩ := hrel
            obtain ⟨gl2, hgl2, hcl⟩ := (HL.out.ext hS.x).cell hlt
            injection hgl2 with hgl2
            injection hgl2 with hgl2
            subst hgl2
            by_cases hlt2 : t < 64
            · have x0 : (0 : Int) + (t : Int) = (t : Int) := by omega
              have HM := Lib.hid (fun wx => markByte_any k t wx (by omega) (by omega))
              have HS := Lib.hid hS
              have HO := Lib.hid hO
              clear hS hO
              have hskw := HS.out.s.2.2
              go_wp2_with (first | (go_at_call 58; refine (HM.out _).mono ?_; rintro e w' ⟨rfl, rfl⟩) | (at_builtin; refine wpList_append_Z _ rfl _ _ 33 rfl 5 1 1 Tryz.underlying33 infBytes (by omega) wo.heap.size _ _ _ (mkF mcBytes k t) rfl (HO.out.imp id (fun h => ⟨h.1, h.2.ext ((Ext.refl _).alloc _)⟩)) _ _ _ (mcBytes k t) rfl (mcBytes_len k t) (rd_new _ _ _) (oneBytes k t) (by omega) (by unfold maxLen; omega) (by omega) (by simp; omega) ?_; intro A3 c3 w3 hO3 hF3 hA3; have HO3 := Lib.hid hO3; have HF3 := Lib.hid hF3; have HSW := Lib.hid (HS.out.ext ((Ext.refl wr).alloc (.cells #[.int .u8 (markB k t)] 5))); clear hO3 hF3 hA3))
              have hS3 := HSW.out.grow HF3.out (fun i hi => by
                rcases HO.out with ⟨h0, _⟩ | ⟨_, h1⟩
                · exact absurd h0 hi.1
                · exact (h1.lt hi.2).1)
              exact ⟨⟨t + 1, _, _, by omega, by go_num, rfl, hS3, .inr ⟨by omega, by rw [mkF_succ]; exact HO3.out⟩⟩, by simp [intOf]; omega⟩
            · obtain rfl : t = 64 := by omega
              have hO2 : OwnW 1 wr wo.heap.size 5 A2 64 c2 (mkF mcBytes k 64) := by
                rcases hO with ⟨h0, _⟩ | ⟨_, h1⟩
                · omega
                · exact h1
              have hgk := hS.gcell hlt
              have hgf := hS.gfz k
              have HS4 := Lib.hid (hS.store hO2)
              clear hS hO hO2
              go_wp2_with fail
              exact ⟨⟨k + 1, by omega, by go_num, _, _, _, _, HS4.out⟩, by simp [intOf]; omega⟩
        · obtain rfl : k = N := by omega
          go_wp2_with fail
          go_meet
          case rel => exact ⟨V, A', c', sk, hS⟩
    case rest =>
      clear hS
      have hS := hcut
      clear hcut
      go_upto_block 8 with (fail)
      go_cut [] (fun w' => Z2 1 5 33 mcBytes N gg w N w')
      case first =>
        go_wp2_with fail
        go_loopw [9] (fun v wr => Z5R 1 5 33 mcBytes N gg w v wr) (fun v _ => N - (intOf v).toNat)
        case atStart => exact ⟨0, Nat.zero_le _, rfl, hS⟩
        case round =>
          clear hS
          obtain ⟨k, hk, rfl, V, A', c', sk, hS⟩ := hrel
          by_cases hlt : k < N
          · go_wp2_with fail
            obtain ⟨wo, rfl⟩ : ∃ wo : World, wo = wr := ⟨_, rfl⟩
            go_loopw [10] (fun v wr => Z6 1 5 33 mcBytes N gg w V A' c' sk v wr) (fun v _ => 64 - (intOf v).toNat)
            case atStart => exact ⟨0, Nat.zero_le _, rfl, hS⟩
            case round =>
              clear hS
              obtain ⟨t, ht, rfl, hS⟩ := hrel
              obtain ⟨hV, hO, _⟩ := hS.r k hlt
              have hgk := hS.gcell hlt
              rw [hV] at hgk
              obtain ⟨gl, rfl, hcl⟩ := (HL.out.ext hS.x).cell hlt
              by_cases hlt2 : t < 64
              · obtain ⟨g', hA'⟩ := hO.some_ (by omega)
                rw [hA'] at hgk hO
                have hc1 : wr.cell? ⟨g', t, none⟩ = some (.int .u8 (markB k t)) := by have h9 := Rd.at0 hO.rd (mkF_get mcBytes_len hlt2 (j := 0) rfl); simpa using h9
                clear hA' hO hV
                have hdi : decide ((t : Int) < 0) = false := by simp
                go_wp2_with fail
                go_quiet ((go_at_call 58; exact Calls.quiet_of_same ((markByte_any k t _ (by omega) (by omega)).mono fun _ _ h => ⟨h.1, h.2.symm⟩)))
                go_wp2_with fail
                exact ⟨⟨t + 1, by omega, by go_num, hS.ext ((Ext.refl _).drewN _)⟩, by simp [intOf]; omega⟩
              · obtain rfl : t = 64 := by omega
                go_wp2_with fail
                exact ⟨⟨k + 1, by omega, by go_num, V, A', c', sk, hS⟩, by simp [intOf]; omega⟩
          · obtain rfl : k = N := by omega
            go_wp2_with fail
            go_meet
            case rel => exact ⟨V, A', c', sk, hS⟩
      case rest =>
        clear hS
        obtain ⟨V, A', c', sk, hS⟩ := hcut
        go_upto_block 12 with (fail)
        go_cut [] (fun w' => Z2 1 5 33 mcBytes N gg w 0 w')
        case first =>
          go_wp2_with fail
          go_loopw [11] (fun v wr => Z7R 1 5 33 mcBytes N gg w v wr) (fun v _ => N - (intOf v).toNat)
          case atStart => exact ⟨0, Nat.zero_le _, rfl, _, _, _, _, hS.zero⟩
          case round =>
            clear hS V A' c' sk
            obtain ⟨k, hk, rfl, V, A', c', sk, hS⟩ := hrel
            by_cases hlt : k < N
            · have hmk := mk64Bytes
              have hS2 := hS.mono hS.s.2.2 (Nat.le_refl _)
              clear hS
              go_wp2_with fail
              clear hmk
              obtain ⟨wo, rfl⟩ : ∃ wo : World, wo = wr := ⟨_, rfl⟩
              have hO0 := own64 wo 5 #[.int .u8 0] 1 wo.heap.size rfl (Nat.le_refl _)
              go_loopw [13] (fun v wr => Z8 1 5 33 mcBytes N gg w V A' c' k wo.heap.size wo.heap.size v wr) (fun v _ => 64 - (intOf v).toNat)
              case atStart => exact ⟨0, _, Nat.zero_le _, rfl, by rw [Array.length_toList, size_madeCells], by simp [mkF], hS2.ext ((Ext.refl _).alloc _), hO0⟩
              case round =>
                clear hS2 hO0
                obtain ⟨t, Y, ht, rfl, hY, hYt, hS, hO⟩ := hrel
                have HS := Lib.hid hS
                have HO := Lib.hid hO
                have HY := Lib.hid hY
                have HYT := Lib.hid hYt
                clear hS hO hY hYt
                by_cases hlt2 : t < 64
                · have HM := Lib.hid (fun wx => markByte_any (k + N) t wx (by omega) (by omega))
                  rw [Int.natCast_add] at HM
                  obtain ⟨⟨ux, hcx⟩, hfx⟩ := (HasRow.ofW HO.out).cell1 hlt2
                  go_wp2_with (go_at_call 58; refine (HM.out _).mono ?_; rintro e w' ⟨rfl, rfl⟩)
                  exact ⟨⟨t + 1, _, by omega, by go_num, (mark_next mcBytes_len HY.out hlt2 HYT.out).1, (mark_next mcBytes_len HY.out hlt2 HYT.out).2, HS.out.grow (Stored.one (w := wr) (g := wo.heap.size) (i := t) _).1 (fun i hi => by have h5 : i = wo.heap.size := hi; omega), HO.out.stored (Stored.one _) hlt2 rfl⟩, by simp [intOf]; omega⟩
                · obtain rfl : t = 64 := by omega
                  obtain rfl : Y = mkF mcBytes (k + N) 64 := by have h := HYT.out; rw [List.take_of_length_le (by rw [HY.out]; omega)] at h; exact h
                  obtain ⟨gl, rfl, hcl⟩ := (HL.out.ext HS.out.x).cell hlt
                  have hskw := HS.out.s.2.2
                  go_wp2_with (at_builtin; refine wpList_append_Z _ rfl _ _ 33 rfl 5 1 1 Tryz.underlying33 infBytes (by omega) wo.heap.size _ _ _ [] rfl (.inl ⟨rfl, rfl, rfl⟩) _ _ _ (mkF mcBytes (k + N) 64) rfl (by rw [mkF_len mcBytes_len]) HO.out.rd (oneFBytes (k + N) 64) (by omega) (by unfold maxLen; omega) (by omega) (by omega) ?_; intro A3 c3 w3 hO3 hF3 hA3; have HS3 := Lib.hid (HS.out.grow hF3 (fun i hi => absurd rfl hi.1)); have hgk := HS3.out.gcell hlt; have hgf := HS3.out.gfz k; clear hO3 hF3 hA3)
                  exact ⟨⟨k + 1, by omega, by go_num, _, _, _, _, HS3.out.put (Nat.zero_le _) _⟩, by simp [intOf]; omega⟩
            · obtain rfl : k = N := by omega
              go_wp2_with fail
              go_meet
              case rel => exact ⟨V, A', c', sk, hS⟩
        case rest =>
          clear hS V A' c' sk
          obtain ⟨V, A', c', sk, hS⟩ := hcut
          go_wp2_with fail
          go_loopw [14] (fun v wr => Z1 N w v wr) (fun v _ => N - (intOf v).toNat)
          case atStart => exact ⟨0, Nat.zero_le _, rfl, hS.x⟩
          case round =>
            clear hS V A' c' sk
            obtain ⟨k, hk, rfl, hE⟩ := hrel
            by_cases hlt : k < N
            · obtain ⟨gl, rfl, hcl⟩ := (HL.out.ext hE).cell hlt
              go_wp2_with fail
              go_rounds 1
              go_wp2_with fail
              exact ⟨⟨k + 1, by omega, by go_num, hE⟩, by simp [intOf]; omega⟩
            · obtain rfl : k = N := by omega
              go_wp2_with fail
              go_ret
              exact ⟨rfl, hE⟩
end Go.Proofs.YtjnllilmimngoaaGreatDoor
namespace Go.Proofs.YtjnllilmimngoaaGreatDoor
open Go.RowKit

def mcEntries : Nat → Nat → List Value := fun k i => [.int .i64 (markI k i), .int .i64 0, .int .i64 0, .slice none 0 0]
theorem mcEntries_len (k i : Nat) : (mcEntries k i).length = 4 := rfl
theorem infEntries : (Tryz.prog.info? 121).map (fun i => (i.zero.map (fun z => z.cells.size), i.size, i.bytes)) = some (some 4, 4, 48) := by kernel_rfl
theorem infzEntries : (Tryz.prog.info? 121).map (fun i => (i.zero, i.size, i.bytes)) = some (some (.agg #[.int .i64 0, .int .i64 0, .int .i64 0, .slice none 0 0]), 4, 48) := by kernel_rfl
theorem infrEntries : (Tryz.prog.info? 28).map (fun i => (i.zero, i.size, i.bytes)) = some (some (.slice none 0 0), 1, 24) := by kernel_rfl
theorem rowsEntries (N : Nat) (hn : N ≤ 100000) (w : World) : (Instr.makeSlice 89 (.int .i64 (N : Int)) (.int .i64 (N : Int))).run Tryz.prog w = .ok (.slice (some ⟨w.heap.size, 0, none⟩) N N) (w.alloc (.cells (madeCells #[.slice none 0 0] N) 28)) := by
  obtain ⟨i0, hi, hz0, hz1, hz2⟩ := info_parts infrEntries
  exact run_mk0 (P := Tryz.prog) 89 28 i0 _ Tryz.underlying89 hi hz0 hz1 N N (N : Int) rfl (Nat.le_refl _) (by omega) (by omega) w
theorem mk64Entries (w : World) : (Instr.makeSlice 28 (.int .i64 64) (.int .i64 64)).run Tryz.prog w = .ok (.slice (some ⟨w.heap.size, 0, none⟩) 64 64) (w.alloc (.cells (madeCells #[.int .i64 0, .int .i64 0, .int .i64 0, .slice none 0 0] (64 * 4)) 121)) := by
  obtain ⟨i0, hi, hz0, hz1, hz2⟩ := info_parts infzEntries
  have hr := run_make (P := Tryz.prog) w 28 121 i0 _ Tryz.underlying28 hi hz0 .i64 .i64 64 64 (by omega) (by omega) (by rw [hz2]; omega) (by omega)
  rw [hz1] at hr
  exact hr
theorem infsEntries : (Tryz.prog.info? 121).map (·.size) = some 4 := by kernel_rfl
theorem oneEntries (k i : Nat) : ∀ u ∈ mcEntries k i, u.oneCell' = true := by
  intro u hu
  simp only [mcEntries, List.mem_cons, List.not_mem_nil, or_false] at hu
  rcases hu with rfl | rfl | rfl | rfl <;> rfl
theorem oneFEntries (k n : Nat) : ∀ u ∈ mkF mcEntries k n, u.oneCell' = true := by
  intro u hu
  obtain ⟨i, _, hi⟩ := List.mem_flatMap.1 hu
  exact oneEntries k i u hi
set_option maxRecDepth 100000 in
set_option maxHeartbeats 4000000 in
theorem flatEntries_0 (B : Nat) (L : Option Addr) (cl N : Nat) (A : Nat → Option Addr) (w : World) (hL : LsW 28 w B L cl N A (fun _ => 0) (fun _ => 0)) (hN : N ≤ 50000) :
    Calls Tryz.prog 77 #[.slice L N cl] w fun e w' => e = .returned (.bool true) ∧ Ext w w' := by
  have HL := Lib.hid hL
  clear hL
  go_enter Tryz.func77, Tryz.ntmps77
  go_upto_block 0 with (fail)
  go_cut [] (fun w' => Ext w w')
  case first =>
    go_wp2_with fail
    go_loopw [3] (fun v wr => Z1 N w v wr) (fun v _ => N - (intOf v).toNat)
    case atStart => exact ⟨0, Nat.zero_le _, rfl, Ext.refl _⟩
    case round =>
      obtain ⟨k, hk, rfl, hE⟩ := hrel
      have HE := Lib.hid hE
      clear hE
      by_cases hlt : k < N
      · obtain ⟨gl, rfl, hcl⟩ := (HL.out.ext HE.out).cell hlt
        go_wp2_with fail
        go_rounds 1
        go_wp2_with fail
        exact ⟨⟨k + 1, by omega, by go_num, HE.out⟩, by simp [intOf]; omega⟩
      · obtain rfl : k = N := by omega
        go_wp2_with fail
        go_meet
        case rel => exact HE.out
  case rest =>
    have hmk := rowsEntries N (by omega)
    go_upto_block 4 with (fail)
    clear hmk
    have hS : F0 4 121 28 mcEntries N wc.heap.size w (fun _ => .slice none 0 0) (fun _ => none) (fun _ => 0) 0 (wc.heap.size + 1) (wc.alloc (.cells (madeCells #[.slice none 0 0] N) 28)) := F0.start hcut (by omega)
    clear hcut
    generalize hgg : wc.heap.size = gg at *
    generalize wc.alloc (.cells (madeCells #[.slice none 0 0] N) 28) = w1 at *
    clear hgg
    go_cut [] (fun w' => Z2 4 121 28 mcEntries N gg w N w')
    case first =>
      go_wp2_with fail
      go_loopw [6] (fun v wr => Z2R 4 121 28 mcEntries N gg w v wr) (fun v _ => N - (intOf v).toNat)
      case atStart => exact ⟨0, Nat.zero_le _, rfl, _, _, _, _, hS⟩
      case round =>
        clear hS
        obtain ⟨k, hk, rfl, V, A', c', sk, hS⟩ := hrel
        by_cases hlt : k < N
        · obtain ⟨gl, rfl, hcl⟩ := (HL.out.ext hS.x).cell hlt
          have hS2 := hS.mono hS.s.2.2 (Nat.le_refl _)
          clear hS
          go_wp2_with fail
          obtain ⟨wo, rfl⟩ : ∃ wo : World, wo = wr := ⟨_, rfl⟩
          go_loopw [7, 8] (fun v i wr => Z3 4 121 28 mcEntries N gg w V A' c' k wo.heap.size v i wr) (fun _ i _ => 64 - (intOf i).toNat)
          case atStart => exact ⟨0, _, _, Nat.zero_le _, rfl, rfl, hS2, .inl ⟨rfl, rfl, rfl⟩⟩
          case round =>
            clear hS2 hcl
            obtain ⟨t, A2, c2, ht, rfl, rfl, hS, hO⟩ := hrel
            obtain ⟨gl2, hgl2, hcl⟩ := (HL.out.ext hS.x).cell hlt
            injection hgl2 with hgl2
            injection hgl2 with hgl2
            subst hgl2
            by_cases hlt2 : t < 64
            · have x0 : (0 : Int) + (t : Int) = (t : Int) := by omega
              have HM := Lib.hid (fun wx => markEntryK k t wx (by omega) (by omega))
              have HS := Lib.hid hS
              have HO := Lib.hid hO
              clear hS hO
              have hskw := HS.out.s.2.2
              go_wp2_with (first | (go_at_call 60; refine (HM.out _).mono ?_; rintro e w5 ⟨rfl, hE5⟩; have HE5 := Lib.hid hE5; clear hE5) | (at_builtin; refine wpList_append_Z _ rfl _ _ 28 rfl 121 4 48 Tryz.underlying28 infEntries (by omega) wo.heap.size _ _ _ (mkF mcEntries k t) rfl (HO.out.imp id (fun h => ⟨h.1, h.2.ext (HE5.out.trans ((Ext.refl _).alloc _))⟩)) _ _ _ (mcEntries k t) rfl (mcEntries_len k t) (rd_new _ _ _) (oneEntries k t) (by omega) (by unfold maxLen; omega) (by omega) (by have h5 := HE5.out.sz; simp; omega) ?_; intro A3 c3 w3 hO3 hF3 hA3; have HO3 := Lib.hid hO3; have HF3 := Lib.hid hF3; have HSW := Lib.hid (HS.out.ext (HE5.out.trans ((Ext.refl _).alloc (.cells #[.int .i64 (markI k t), .int .i64 0, .int .i64 0, .slice none 0 0] 121)))); clear hO3 hF3 hA3))
              have hS3 := HSW.out.grow HF3.out (fun i hi => by
                rcases HO.out with ⟨h0, _⟩ | ⟨_, h1⟩
                · exact absurd h0 hi.1
                · exact (h1.lt hi.2).1)
              exact ⟨⟨t + 1, _, _, by omega, by go_num, rfl, hS3, .inr ⟨by omega, by rw [mkF_succ]; exact HO3.out⟩⟩, by simp [intOf]; omega⟩
            · obtain rfl : t = 64 := by omega
              have hO2 : OwnW 4 wr wo.heap.size 121 A2 64 c2 (mkF mcEntries k 64) := by
                rcases hO with ⟨h0, _⟩ | ⟨_, h1⟩
                · omega
                · exact h1
              have hgk := hS.gcell hlt
              have hgf := hS.gfz k
              have HS4 := Lib.hid (hS.store hO2)
              clear hS hO hO2
              go_wp2_with fail
              exact ⟨⟨k + 1, by omega, by go_num, _, _, _, _, HS4.out⟩, by simp [intOf]; omega⟩
        · obtain rfl : k = N := by omega
          go_wp2_with fail
          go_meet
          case rel => exact ⟨V, A', c', sk, hS⟩
    case rest =>
      clear hS
      have hS := hcut
      clear hcut
      go_upto_block 8 with (fail)
      go_cut [] (fun w' => Z2 4 121 28 mcEntries N gg w N w')
      case first =>
        go_wp2_with fail
        go_loopw [9] (fun v wr => Z5R 4 121 28 mcEntries N gg w v wr) (fun v _ => N - (intOf v).toNat)
        case atStart => exact ⟨0, Nat.zero_le _, rfl, hS⟩
        case round =>
          clear hS
          obtain ⟨k, hk, rfl, V, A', c', sk, hS⟩ := hrel
          by_cases hlt : k < N
          · go_wp2_with fail
            obtain ⟨wo, rfl⟩ : ∃ wo : World, wo = wr := ⟨_, rfl⟩
            go_loopw [10] (fun v wr => Z6 4 121 28 mcEntries N gg w V A' c' sk v wr) (fun v _ => 64 - (intOf v).toNat)
            case atStart => exact ⟨0, Nat.zero_le _, rfl, hS⟩
            case round =>
              clear hS
              obtain ⟨t, ht, rfl, hS⟩ := hrel
              obtain ⟨hV, hO, _⟩ := hS.r k hlt
              have hgk := hS.gcell hlt
              rw [hV] at hgk
              obtain ⟨gl, rfl, hcl⟩ := (HL.out.ext hS.x).cell hlt
              by_cases hlt2 : t < 64
              · obtain ⟨g', hA'⟩ := hO.some_ (by omega)
                rw [hA'] at hgk hO
                have hr1 : World.rangeAt wr g' (t * 4) (mcEntries k t) := fun j v hv => Rd.at0 hO.rd (mkF_get mcEntries_len hlt2 hv)
                clear hA' hO hV
                have hdi : decide ((t : Int) < 0) = false := by simp
                have HR1 := Lib.hid hr1
                have HMM := Lib.hid (fun wx => markEntryK k t wx (by omega) (by omega))
                clear hr1
                go_wp2_with fail
                refine Stab.wp_region_lex Ext (Ext wr) (fun _ => True) (by kernel_rfl) (by kernel_rfl) (fun _ _ h => h) (fun _ _ h k => Ext.trans h k) (fun _ _ _ _ => trivial) ((Ext.refl _).drew) trivial ?_
                simp only [Stab.zipL, Nat.reduceAdd]
                iterate 6 (refine Stab.wpX_val rfl rfl ?_; apply Exists.intro; refine ⟨fun wx hC _ => ?_, ?_⟩; (have s1 := hC.cell hgk; have s2 := hC.cell hcl; go_simp; exact ⟨Ext.refl _, rfl⟩); simp only [Act.put, List.setIfInBounds_toArray, List.set_cons_zero, List.set_cons_succ])
                (refine Stab.wpX_val rfl rfl ?_; apply Exists.intro; refine ⟨fun wx hC _ => ?_, ?_⟩; (exact yieldsP_row 121 [.int .i64 (markI k t), .int .i64 0, .int .i64 0, .slice none 0 0] _ rfl g' (t * 4) rfl (fun j v hv => hC.cell (HR1.out j v hv)) Tryz.underlying121 rfl infsEntries); simp only [Act.put, List.setIfInBounds_toArray, List.set_cons_zero, List.set_cons_succ])
                iterate 2 (refine Stab.wpX_val rfl rfl ?_; apply Exists.intro; refine ⟨fun wx hC _ => ?_, ?_⟩; (have s1 := hC.cell hgk; have s2 := hC.cell hcl; go_simp; exact ⟨Ext.refl _, rfl⟩); simp only [Act.put, List.setIfInBounds_toArray, List.set_cons_zero, List.set_cons_succ])
                (refine Stab.wpX_call1 rfl rfl (fun _ _ _ _ => trivial) ?_; apply Exists.intro; refine ⟨fun wx hC _ _ => ?_, ?_⟩; (go_simp; refine ⟨rfl, ?_⟩; refine (HMM.out wx).mono ?_; rintro ev w9 ⟨rfl, hE9⟩; first | exact ⟨hE9, rfl⟩ | exact ⟨hE9, rfl, trivial⟩); simp only [Act.put, List.setIfInBounds_toArray, List.set_cons_zero, List.set_cons_succ])
                (refine Stab.wpX_call1 rfl rfl (fun _ _ _ _ => trivial) ?_; apply Exists.intro; refine ⟨fun wx hC _ _ => ?_, ?_⟩; (go_simp; refine ⟨rfl, ?_⟩; have h7 := sameEnt_any (mkEntK k t) (mkEntK k t) wx (fun j u hu => by simp [mkEntK] at hu) (fun j u hu => by simp [mkEntK] at hu) (by simp [mkEntK]) (by simp [mkEntK]); rw [show decide ((mkEntK k t).cont = (mkEntK k t).cont) = true by simp] at h7; refine h7.mono ?_; rintro ev w9 ⟨rfl, hE9⟩; first | exact ⟨hE9, rfl⟩ | exact ⟨hE9, rfl, trivial⟩); simp only [Act.put, List.setIfInBounds_toArray, List.set_cons_zero, List.set_cons_succ])
                iterate 10 (refine Stab.wpX_val rfl rfl ?_; apply Exists.intro; refine ⟨fun wx hC _ => ?_, ?_⟩; (have s1 := hC.cell hgk; have s2 := hC.cell hcl; go_simp; exact ⟨Ext.refl _, rfl⟩); simp only [Act.put, List.setIfInBounds_toArray, List.set_cons_zero, List.set_cons_succ])
                iterate 12 (refine Stab.wpX_skip rfl ?_; simp only [Act.put, List.setIfInBounds_toArray, List.set_cons_zero, List.set_cons_succ])
                iterate 2 (refine Stab.wpX_val rfl rfl ?_; apply Exists.intro; refine ⟨fun wx hC _ => ?_, ?_⟩; (have s1 := hC.cell hgk; have s2 := hC.cell hcl; go_simp; exact ⟨Ext.refl _, rfl⟩); simp only [Act.put, List.setIfInBounds_toArray, List.set_cons_zero, List.set_cons_succ])
                refine Stab.wpX_end fun w8 hC8 _ _ => ?_
                have HC8 := Lib.hid hC8
                clear hC8
                go_wp2_with fail
                exact ⟨⟨t + 1, by omega, by go_num, hS.ext HC8.out⟩, by simp [intOf]; omega⟩
              · obtain rfl : t = 64 := by omega
                go_wp2_with fail
                exact ⟨⟨k + 1, by omega, by go_num, V, A', c', sk, hS⟩, by simp [intOf]; omega⟩
          · obtain rfl : k = N := by omega
            go_wp2_with fail
            go_meet
            case rel => exact ⟨V, A', c', sk, hS⟩
      case rest =>
        clear hS
        obtain ⟨V, A', c', sk, hS⟩ := hcut
        go_upto_block 12 with (fail)
        go_cut [] (fun w' => Z2 4 121 28 mcEntries N gg w 0 w')
        case first =>
          go_wp2_with fail
          go_loopw [11] (fun v wr => Z7R 4 121 28 mcEntries N gg w v wr) (fun v _ => N - (intOf v).toNat)
          case atStart => exact ⟨0, Nat.zero_le _, rfl, _, _, _, _, hS.zero⟩
          case round =>
            clear hS V A' c' sk
            obtain ⟨k, hk, rfl, V, A', c', sk, hS⟩ := hrel
            by_cases hlt : k < N
            · have hmk := mk64Entries
              have hS2 := hS.mono hS.s.2.2 (Nat.le_refl _)
              clear hS
              go_wp2_with fail
              clear hmk
              obtain ⟨wo, rfl⟩ : ∃ wo : World, wo = wr := ⟨_, rfl⟩
              have hO0 := own64 wo 121 #[.int .i64 0, .int .i64 0, .int .i64 0, .slice none 0 0] 4 wo.heap.size rfl (Nat.le_refl _)
              go_loopw [13] (fun v wr => Z8 4 121 28 mcEntries N gg w V A' c' k wo.heap.size wo.heap.size v wr) (fun v _ => 64 - (intOf v).toNat)
              case atStart => exact ⟨0, _, Nat.zero_le _, rfl, by rw [Array.length_toList, size_madeCells], by simp [mkF], hS2.ext ((Ext.refl _).alloc _), hO0⟩
              case round =>
                clear hS2 hO0
                obtain ⟨t, Y, ht, rfl, hY, hYt, hS, hO⟩ := hrel
                have HS := Lib.hid hS
                have HO := Lib.hid hO
                have HY := Lib.hid hY
                have HYT := Lib.hid hYt
                clear hS hO hY hYt
                by_cases hlt2 : t < 64
                · have HM := Lib.hid (fun wx => markEntryK (k + N) t wx (by omega) (by omega))
                  rw [Int.natCast_add] at HM
                  obtain ⟨cur, bt, hg5, hs5⟩ := HasRow.ofW HO.out
                  go_wp2_with fail
                  refine (HM.out _).mono ?_
                  rintro e w5 ⟨rfl, hE5⟩
                  have HE5 := Lib.hid hE5
                  have hg6 := hE5.blk hg5
                  clear hE5
                  go_wp2_with (refine wpList_store_at rfl 121 bt _ _ rfl rfl wo.heap.size t 4 cur #[.int .i64 (markI (k + N) t), .int .i64 0, .int .i64 0, .slice none 0 0] (by simp [Act.eval]) rfl hg6 infsEntries (by omega) rfl (fun v hv => oneEntries (k + N) t v (by simpa [mcEntries] using hv)) ?_; intro w6 hS6; have HS6 := Lib.hid hS6; clear hS6)
                  exact ⟨⟨t + 1, _, by omega, by go_num, (mark_next mcEntries_len HY.out hlt2 HYT.out).1, (mark_next mcEntries_len HY.out hlt2 HYT.out).2, (HS.out.ext HE5.out).grow HS6.out.1 (fun i hi => by have h5 : i = wo.heap.size := hi; omega), (HO.out.ext HE5.out).stored HS6.out hlt2 rfl⟩, by simp [intOf]; omega⟩
                · obtain rfl : t = 64 := by omega
                  obtain rfl : Y = mkF mcEntries (k + N) 64 := by have h := HYT.out; rw [List.take_of_length_le (by rw [HY.out]; omega)] at h; exact h
                  obtain ⟨gl, rfl, hcl⟩ := (HL.out.ext HS.out.x).cell hlt
                  have hskw := HS.out.s.2.2
                  go_wp2_with (at_builtin; refine wpList_append_Z _ rfl _ _ 28 rfl 121 4 48 Tryz.underlying28 infEntries (by omega) wo.heap.size _ _ _ [] rfl (.inl ⟨rfl, rfl, rfl⟩) _ _ _ (mkF mcEntries (k + N) 64) rfl (by rw [mkF_len mcEntries_len]) HO.out.rd (oneFEntries (k + N) 64) (by omega) (by unfold maxLen; omega) (by omega) (by omega) ?_; intro A3 c3 w3 hO3 hF3 hA3; have HS3 := Lib.hid (HS.out.grow hF3 (fun i hi => absurd rfl hi.1)); have hgk := HS3.out.gcell hlt; have hgf := HS3.out.gfz k; clear hO3 hF3 hA3)
                  exact ⟨⟨k + 1, by omega, by go_num, _, _, _, _, HS3.out.put (Nat.zero_le _) _⟩, by simp [intOf]; omega⟩
            · obtain rfl : k = N := by omega
              go_wp2_with fail
              go_meet
              case rel => exact ⟨V, A', c', sk, hS⟩
        case rest =>
          clear hS V A' c' sk
          obtain ⟨V, A', c', sk, hS⟩ := hcut
          go_wp2_with fail
          go_loopw [14] (fun v wr => Z1 N w v wr) (fun v _ => N - (intOf v).toNat)
          case atStart => exact ⟨0, Nat.zero_le _, rfl, hS.x⟩
          case round =>
            clear hS V A' c' sk
            obtain ⟨k, hk, rfl, hE⟩ := hrel
            by_cases hlt : k < N
            · obtain ⟨gl, rfl, hcl⟩ := (HL.out.ext hE).cell hlt
              go_wp2_with fail
              go_rounds 1
              go_wp2_with fail
              exact ⟨⟨k + 1, by omega, by go_num, hE⟩, by simp [intOf]; omega⟩
            · obtain rfl : k = N := by omega
              go_wp2_with fail
              go_ret
              exact ⟨rfl, hE⟩
end Go.Proofs.YtjnllilmimngoaaGreatDoor
