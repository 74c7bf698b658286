/-
  flatIdents at lists without elements.
  Memory of flatLetters.
-/
import Derived.Test.YtjnllilmimngoaaGreatDoorM38
import Derived.Test.YtjnllilmimngoaaGreatDoorM30
import Derived.Test.YtjnllilmimngoaaGreatDoorM12
import Derived.Test.YtjnllilmimngoaaGreatDoorM13
namespace Go.Proofs.YtjnllilmimngoaaGreatDoor
open Go.RowKit

def mcIdents : Nat → Nat → List Value := fun k i => [.int .i64 (markI k i), .int .i64 0, .int .i64 0]
theorem mcIdents_len (k i : Nat) : (mcIdents k i).length = 3 := rfl
theorem infIdents : (Tryz.prog.info? 26).map (fun i => (i.zero.map (fun z => z.cells.size), i.size, i.bytes)) = some (some 3, 3, 24) := by kernel_rfl
theorem infzIdents : (Tryz.prog.info? 26).map (fun i => (i.zero, i.size, i.bytes)) = some (some (.agg #[.int .i64 0, .int .i64 0, .int .i64 0]), 3, 24) := by kernel_rfl
theorem infrIdents : (Tryz.prog.info? 27).map (fun i => (i.zero, i.size, i.bytes)) = some (some (.slice none 0 0), 1, 24) := by kernel_rfl
theorem rowsIdents (N : Nat) (hn : N ≤ 100000) (w : World) : (Instr.makeSlice 90 (.int .i64 (N : Int)) (.int .i64 (N : Int))).run Tryz.prog w = .ok (.slice (some ⟨w.heap.size, 0, none⟩) N N) (w.alloc (.cells (madeCells #[.slice none 0 0] N) 27)) := by
  obtain ⟨i0, hi, hz0, hz1, hz2⟩ := info_parts infrIdents
  exact run_mk0 (P := Tryz.prog) 90 27 i0 _ Tryz.underlying90 hi hz0 hz1 N N (N : Int) rfl (Nat.le_refl _) (by omega) (by omega) w
theorem mk64Idents (w : World) : (Instr.makeSlice 27 (.int .i64 64) (.int .i64 64)).run Tryz.prog w = .ok (.slice (some ⟨w.heap.size, 0, none⟩) 64 64) (w.alloc (.cells (madeCells #[.int .i64 0, .int .i64 0, .int .i64 0] (64 * 3)) 26)) := by
  obtain ⟨i0, hi, hz0, hz1, hz2⟩ := info_parts infzIdents
  have hr := run_make (P := Tryz.prog) w 27 26 i0 _ Tryz.underlying27 hi hz0 .i64 .i64 64 64 (by omega) (by omega) (by rw [hz2]; omega) (by omega)
  rw [hz1] at hr
  exact hr
theorem infsIdents : (Tryz.prog.info? 26).map (·.size) = some 3 := by kernel_rfl
theorem oneIdents (k i : Nat) : ∀ u ∈ mcIdents k i, u.oneCell' = true := by
  intro u hu
  simp only [mcIdents, List.mem_cons, List.not_mem_nil, or_false] at hu
  rcases hu with rfl | rfl | rfl <;> rfl
theorem oneFIdents (k n : Nat) : ∀ u ∈ mkF mcIdents k n, u.oneCell' = true := by
  intro u hu
  obtain ⟨i, _, hi⟩ := List.mem_flatMap.1 hu
  exact oneIdents k i u hi
theorem yields_eqId {o : Oper} {a : Act} {w : World} (x y : Operand) {R : TypeId} (ho : o.op = .binOp .eql 26 x y R) (z : Int) (hx : a.eval x = .agg #[.int .i64 z, .int .i64 0, .int .i64 0]) (hy : a.eval y = .agg #[.int .i64 z, .int .i64 0, .int .i64 0]) :
    Stab.yields Tryz.prog o a w (fun u w' => Ext w w' ∧ u = .bool true) := by
  have h := eqIdRun 9998 z 0 0 z 0 0 w
  simp only [beq_self_eq_true, Bool.and_self] at h
  have h2 : (binOp .eql 26 (.agg #[.int .i64 z, .int .i64 0, .int .i64 0]) (.agg #[.int .i64 z, .int .i64 0, .int .i64 0])).run Tryz.prog w = .ok (.bool true) w := by
    rw [run_eql_struct, h]
    rfl
  simp only [Stab.yields, Stab.yieldsUpon, execOp, ho, hx, hy, Sem.run_bind, Sem.run_pure, run_eqGuard_agg (P := Tryz.prog) (w := w) .eql 26 x y _ _ (by kernel_rfl), h2, Result.andThen_ok]
  exact ⟨Ext.refl _, trivial⟩
set_option maxRecDepth 100000 in
set_option maxHeartbeats 4000000 in
theorem flatIdents_0 (B : Nat) (L : Option Addr) (cl N : Nat) (A : Nat → Option Addr) (w : World) (hL : LsW 27 w B L cl N A (fun _ => 0) (fun _ => 0)) (hN : N ≤ 50000) :
    Calls Tryz.prog 78 #[.slice L N cl] w fun e w' => e = .returned (.bool true) ∧ Ext w w' := by
  have HL := Lib.hid hL
  clear hL
  go_enter Tryz.func78, Tryz.ntmps78
  go_upto_block 0 with (fail)
  go_cut [] (fun w' => Ext w w')
  case first =>
    go_wp2_with fail
    go_loopw [3] (fun v wr => Z1 N w v wr) (fun v _ => N - (intOf v).toNat)
    case atStart => exact ⟨0, Nat.zero_le _, rfl, Ext.refl _⟩
    case round =>
      obtain ⟨k, hk, rfl, hE⟩ := hrel
      have HE := Lib.hid hE
      clear hE
      by_cases hlt : k < N
      · obtain ⟨gl, rfl, hcl⟩ := (HL.out.ext HE.out).cell hlt
        go_wp2_with fail
        go_rounds 1
        go_wp2_with fail
        exact ⟨⟨k + 1, by omega, by go_num, HE.out⟩, by simp [intOf]; omega⟩
      · obtain rfl : k = N := by omega
        go_wp2_with fail
        go_meet
        case rel => exact HE.out
  case rest =>
    have hmk := rowsIdents N (by omega)
    go_upto_block 4 with (fail)
    clear hmk
    have hS : F0 3 26 27 mcIdents N wc.heap.size w (fun _ => .slice none 0 0) (fun _ => none) (fun _ => 0) 0 (wc.heap.size + 1) (wc.alloc (.cells (madeCells #[.slice none 0 0] N) 27)) := F0.start hcut (by omega)
    clear hcut
    generalize hgg : wc.heap.size = gg at *
    generalize wc.alloc (.cells (madeCells #[.slice none 0 0] N) 27) = w1 at *
    clear hgg
    go_cut [] (fun w' => Z2 3 26 27 mcIdents N gg w N w')
    case first =>
      go_wp2_with fail
      go_loopw [6] (fun v wr => Z2R 3 26 27 mcIdents N gg w v wr) (fun v _ => N - (intOf v).toNat)
      case atStart => exact ⟨0, Nat.zero_le _, rfl, _, _, _, _, hS⟩
      case round =>
        clear hS
        obtain ⟨k, hk, rfl, V, A', c', sk, hS⟩ := hrel
        by_cases hlt : k < N
        · obtain ⟨gl, rfl, hcl⟩ := (HL.out.ext hS.x).cell hlt
          have hS2 := hS.mono hS.s.2.2 (Nat.le_refl _)
          clear hS
          go_wp2_with fail
          obtain ⟨wo, rfl⟩ : ∃ wo : World, wo = wr := ⟨_, rfl⟩
          go_loopw [7, 8] (fun v i wr => Z3 3 26 27 mcIdents N gg w V A' c' k wo.heap.size v i wr) (fun _ i _ => 64 - (intOf i).toNat)
          case atStart => exact ⟨0, _, _, Nat.zero_le _, rfl, rfl, hS2, .inl ⟨rfl, rfl, rfl⟩⟩
          case round =>
            clear hS2 hcl
            obtain ⟨t, A2, c2, ht, rfl, rfl, hS, hO⟩ := hrel
            obtain ⟨gl2, hgl2, hcl⟩ := (HL.out.ext hS.x).cell hlt
            injection hgl2 with hgl2
            injection hgl2 with hgl2
            subst hgl2
            by_cases hlt2 : t < 64
            · have x0 : (0 : Int) + (t : Int) = (t : Int) := by omega
              have HM := Lib.hid (fun wx => markIdentK k t wx (by omega) (by omega))
              have HS := Lib.hid hS
              have HO := Lib.hid hO
              clear hS hO
              have hskw := HS.out.s.2.2
              go_wp2_with (first | (go_at_call 125; refine (HM.out _).mono ?_; rintro e w5 ⟨rfl, hE5⟩; have HE5 := Lib.hid hE5; clear hE5) | (at_builtin; refine wpList_append_Z _ rfl _ _ 27 rfl 26 3 24 Tryz.underlying27 infIdents (by omega) wo.heap.size _ _ _ (mkF mcIdents k t) rfl (HO.out.imp id (fun h => ⟨h.1, h.2.ext (HE5.out.trans ((Ext.refl _).alloc _))⟩)) _ _ _ (mcIdents k t) rfl (mcIdents_len k t) (rd_new _ _ _) (oneIdents k t) (by omega) (by unfold maxLen; omega) (by omega) (by have h5 := HE5.out.sz; simp; omega) ?_; intro A3 c3 w3 hO3 hF3 hA3; have HO3 := Lib.hid hO3; have HF3 := Lib.hid hF3; have HSW := Lib.hid (HS.out.ext (HE5.out.trans ((Ext.refl _).alloc (.cells #[.int .i64 (markI k t), .int .i64 0, .int .i64 0] 26)))); clear hO3 hF3 hA3))
              have hS3 := HSW.out.grow HF3.out (fun i hi => by
                rcases HO.out with ⟨h0, _⟩ | ⟨_, h1⟩
                · exact absurd h0 hi.1
                · exact (h1.lt hi.2).1)
              exact ⟨⟨t + 1, _, _, by omega, by go_num, rfl, hS3, .inr ⟨by omega, by rw [mkF_succ]; exact HO3.out⟩⟩, by simp [intOf]; omega⟩
            · obtain rfl : t = 64 := by omega
              have hO2 : OwnW 3 wr wo.heap.size 26 A2 64 c2 (mkF mcIdents k 64) := by
                rcases hO with ⟨h0, _⟩ | ⟨_, h1⟩
                · omega
                · exact h1
              have hgk := hS.gcell hlt
              have hgf := hS.gfz k
              have HS4 := Lib.hid (hS.store hO2)
              clear hS hO hO2
              go_wp2_with fail
              exact ⟨⟨k + 1, by omega, by go_num, _, _, _, _, HS4.out⟩, by simp [intOf]; omega⟩
        · obtain rfl : k = N := by omega
          go_wp2_with fail
          go_meet
          case rel => exact ⟨V, A', c', sk, hS⟩
    case rest =>
      clear hS
      have hS := hcut
      clear hcut
      go_upto_block 8 with (fail)
      go_cut [] (fun w' => Z2 3 26 27 mcIdents N gg w N w')
      case first =>
        go_wp2_with fail
        go_loopw [9] (fun v wr => Z5R 3 26 27 mcIdents N gg w v wr) (fun v _ => N - (intOf v).toNat)
        case atStart => exact ⟨0, Nat.zero_le _, rfl, hS⟩
        case round =>
          clear hS
          obtain ⟨k, hk, rfl, V, A', c', sk, hS⟩ := hrel
          by_cases hlt : k < N
          · go_wp2_with fail
            obtain ⟨wo, rfl⟩ : ∃ wo : World, wo = wr := ⟨_, rfl⟩
            go_loopw [10] (fun v wr => Z6 3 26 27 mcIdents N gg w V A' c' sk v wr) (fun v _ => 64 - (intOf v).toNat)
            case atStart => exact ⟨0, Nat.zero_le _, rfl, hS⟩
            case round =>
              clear hS
              obtain ⟨t, ht, rfl, hS⟩ := hrel
              obtain ⟨hV, hO, _⟩ := hS.r k hlt
              have hgk := hS.gcell hlt
              rw [hV] at hgk
              obtain ⟨gl, rfl, hcl⟩ := (HL.out.ext hS.x).cell hlt
              by_cases hlt2 : t < 64
              · obtain ⟨g', hA'⟩ := hO.some_ (by omega)
                rw [hA'] at hgk hO
                have hr1 : World.rangeAt wr g' (t * 3) (mcIdents k t) := fun j v hv => Rd.at0 hO.rd (mkF_get mcIdents_len hlt2 hv)
                clear hA' hO hV
                have hdi : decide ((t : Int) < 0) = false := by simp
                have HR1 := Lib.hid (show World.rangeAt wr g' (t * 3) [.int .i64 (markI k t), .int .i64 0, .int .i64 0] from hr1)
                have HMM := Lib.hid (fun wx => markIdentK k t wx (by omega) (by omega))
                clear hr1
                generalize markI k t = z at HMM HR1
                go_wp2_with fail
                refine Stab.wp_region_lex Ext (Ext wr) (fun _ => True) (by kernel_rfl) (by kernel_rfl) (fun _ _ h => h) (fun _ _ h k => Ext.trans h k) (fun _ _ _ _ => trivial) ((Ext.refl _).drew) trivial ?_
                simp only [Stab.zipL, Nat.reduceAdd]
                iterate 6 (refine Stab.wpX_val rfl rfl ?_; apply Exists.intro; refine ⟨fun wx hC _ => ?_, ?_⟩; (have s1 := hC.cell hgk; have s2 := hC.cell hcl; go_simp; exact ⟨Ext.refl _, rfl⟩); simp only [Act.put, List.setIfInBounds_toArray, List.set_cons_zero, List.set_cons_succ])
                (refine Stab.wpX_val rfl rfl ?_; apply Exists.intro; refine ⟨fun wx hC _ => ?_, ?_⟩; (exact yieldsP_row 26 [.int .i64 z, .int .i64 0, .int .i64 0] _ rfl g' (t * 3) rfl (fun j v hv => hC.cell (HR1.out j v hv)) Tryz.underlying26 rfl infsIdents); simp only [Act.put, List.setIfInBounds_toArray, List.set_cons_zero, List.set_cons_succ])
                iterate 2 (refine Stab.wpX_val rfl rfl ?_; apply Exists.intro; refine ⟨fun wx hC _ => ?_, ?_⟩; (have s1 := hC.cell hgk; have s2 := hC.cell hcl; go_simp; exact ⟨Ext.refl _, rfl⟩); simp only [Act.put, List.setIfInBounds_toArray, List.set_cons_zero, List.set_cons_succ])
                (refine Stab.wpX_call1 rfl rfl (fun _ _ _ _ => trivial) ?_; apply Exists.intro; refine ⟨fun wx hC _ _ => ?_, ?_⟩; (go_simp; refine ⟨rfl, ?_⟩; refine (HMM.out wx).mono ?_; rintro ev w9 ⟨rfl, hE9⟩; first | exact ⟨hE9, rfl⟩ | exact ⟨hE9, rfl, trivial⟩); simp only [Act.put, List.setIfInBounds_toArray, List.set_cons_zero, List.set_cons_succ])
                (refine Stab.wpX_val rfl rfl ⟨.bool true, fun wx hC _ => ?_, ?_⟩; (exact yields_eqId _ _ rfl z rfl rfl); simp only [Act.put, List.setIfInBounds_toArray, List.set_cons_zero, List.set_cons_succ])
                iterate 10 (refine Stab.wpX_val rfl rfl ?_; apply Exists.intro; refine ⟨fun wx hC _ => ?_, ?_⟩; (have s1 := hC.cell hgk; have s2 := hC.cell hcl; go_simp; exact ⟨Ext.refl _, rfl⟩); simp only [Act.put, List.setIfInBounds_toArray, List.set_cons_zero, List.set_cons_succ])
                iterate 12 (refine Stab.wpX_skip rfl ?_; simp only [Act.put, List.setIfInBounds_toArray, List.set_cons_zero, List.set_cons_succ])
                iterate 2 (refine Stab.wpX_val rfl rfl ?_; apply Exists.intro; refine ⟨fun wx hC _ => ?_, ?_⟩; (have s1 := hC.cell hgk; have s2 := hC.cell hcl; go_simp; exact ⟨Ext.refl _, rfl⟩); simp only [Act.put, List.setIfInBounds_toArray, List.set_cons_zero, List.set_cons_succ])
                refine Stab.wpX_end fun w8 hC8 _ _ => ?_
                have HC8 := Lib.hid hC8
                clear hC8
                go_wp2_with fail
                exact ⟨⟨t + 1, by omega, by go_num, hS.ext HC8.out⟩, by simp [intOf]; omega⟩
              · obtain rfl : t = 64 := by omega
                go_wp2_with fail
                exact ⟨⟨k + 1, by omega, by go_num, V, A', c', sk, hS⟩, by simp [intOf]; omega⟩
          · obtain rfl : k = N := by omega
            go_wp2_with fail
            go_meet
            case rel => exact ⟨V, A', c', sk, hS⟩
      case rest =>
        clear hS
        obtain ⟨V, A', c', sk, hS⟩ := hcut
        go_upto_block 12 with (fail)
        go_cut [] (fun w' => Z2 3 26 27 mcIdents N gg w 0 w')
        case first =>
          go_wp2_with fail
          go_loopw [11] (fun v wr => Z7R 3 26 27 mcIdents N gg w v wr) (fun v _ => N - (intOf v).toNat)
          case atStart => exact ⟨0, Nat.zero_le _, rfl, _, _, _, _, hS.zero⟩
          case round =>
            clear hS V A' c' sk
            obtain ⟨k, hk, rfl, V, A', c', sk, hS⟩ := hrel
            by_cases hlt : k < N
            · have hmk := mk64Idents
              have hS2 := hS.mono hS.s.2.2 (Nat.le_refl _)
              clear hS
              go_wp2_with fail
              clear hmk
              obtain ⟨wo, rfl⟩ : ∃ wo : World, wo = wr := ⟨_, rfl⟩
              have hO0 := own64 wo 26 #[.int .i64 0, .int .i64 0, .int .i64 0] 3 wo.heap.size rfl (Nat.le_refl _)
              go_loopw [13] (fun v wr => Z8 3 26 27 mcIdents N gg w V A' c' k wo.heap.size wo.heap.size v wr) (fun v _ => 64 - (intOf v).toNat)
              case atStart => exact ⟨0, _, Nat.zero_le _, rfl, by rw [Array.length_toList, size_madeCells], by simp [mkF], hS2.ext ((Ext.refl _).alloc _), hO0⟩
              case round =>
                clear hS2 hO0
                obtain ⟨t, Y, ht, rfl, hY, hYt, hS, hO⟩ := hrel
                have HS := Lib.hid hS
                have HO := Lib.hid hO
                have HY := Lib.hid hY
                have HYT := Lib.hid hYt
                clear hS hO hY hYt
                by_cases hlt2 : t < 64
                · have HM := Lib.hid (fun wx => markIdentK (k + N) t wx (by omega) (by omega))
                  rw [Int.natCast_add] at HM
                  obtain ⟨cur, bt, hg5, hs5⟩ := HasRow.ofW HO.out
                  go_wp2_with fail
                  refine (HM.out _).mono ?_
                  rintro e w5 ⟨rfl, hE5⟩
                  have HE5 := Lib.hid hE5
                  have hg6 := hE5.blk hg5
                  clear hE5
                  go_wp2_with (refine wpList_store_at rfl 26 bt _ _ rfl rfl wo.heap.size t 3 cur #[.int .i64 (markI (k + N) t), .int .i64 0, .int .i64 0] (by simp [Act.eval]) rfl hg6 infsIdents (by omega) rfl (fun v hv => oneIdents (k + N) t v (by simpa [mcIdents] using hv)) ?_; intro w6 hS6; have HS6 := Lib.hid hS6; clear hS6)
                  exact ⟨⟨t + 1, _, by omega, by go_num, (mark_next mcIdents_len HY.out hlt2 HYT.out).1, (mark_next mcIdents_len HY.out hlt2 HYT.out).2, (HS.out.ext HE5.out).grow HS6.out.1 (fun i hi => by have h5 : i = wo.heap.size := hi; omega), (HO.out.ext HE5.out).stored HS6.out hlt2 rfl⟩, by simp [intOf]; omega⟩
                · obtain rfl : t = 64 := by omega
                  obtain rfl : Y = mkF mcIdents (k + N) 64 := by have h := HYT.out; rw [List.take_of_length_le (by rw [HY.out]; omega)] at h; exact h
                  obtain ⟨gl, rfl, hcl⟩ := (HL.out.ext HS.out.x).cell hlt
                  have hskw := HS.out.s.2.2
                  go_wp2_with (at_builtin; refine wpList_append_Z _ rfl _ _ 27 rfl 26 3 24 Tryz.underlying27 infIdents (by omega) wo.heap.size _ _ _ [] rfl (.inl ⟨rfl, rfl, rfl⟩) _ _ _ (mkF mcIdents (k + N) 64) rfl (by rw [mkF_len mcIdents_len]) HO.out.rd (oneFIdents (k + N) 64) (by omega) (by unfold maxLen; omega) (by omega) (by omega) ?_; intro A3 c3 w3 hO3 hF3 hA3; have HS3 := Lib.hid (HS.out.grow hF3 (fun i hi => absurd rfl hi.1)); have hgk := HS3.out.gcell hlt; have hgf := HS3.out.gfz k; clear hO3 hF3 hA3)
                  exact ⟨⟨k + 1, by omega, by go_num, _, _, _, _, HS3.out.put (Nat.zero_le _) _⟩, by simp [intOf]; omega⟩
            · obtain rfl : k = N := by omega
              go_wp2_with fail
              go_meet
              case rel => exact ⟨V, A', c', sk, hS⟩
        case rest =>
          clear hS V A' c' sk
          obtain ⟨V, A', c', sk, hS⟩ := hcut
          go_wp2_with fail
          go_loopw [14] (fun v wr => Z1 N w v wr) (fun v _ => N - (intOf v).toNat)
          case atStart => exact ⟨0, Nat.zero_le _, rfl, hS.x⟩
          case round =>
            clear hS V A' c' sk
            obtain ⟨k, hk, rfl, hE⟩ := hrel
            by_cases hlt : k < N
            · obtain ⟨gl, rfl, hcl⟩ := (HL.out.ext hE).cell hlt
              go_wp2_with fail
              go_rounds 1
              go_wp2_with fail
              exact ⟨⟨k + 1, by omega, by go_num, hE⟩, by simp [intOf]; omega⟩
            · obtain rfl : k = N := by omega
              go_wp2_with fail
              go_ret
              exact ⟨rfl, hE⟩
end Go.Proofs.YtjnllilmimngoaaGreatDoor
namespace Go.Proofs.YtjnllilmimngoaaGreatDoor
open Go.RowKit

def mcL (k i : Nat) : List Value := (mkLetK k i).arr.toList
theorem mcL_len (k i : Nat) : (mcL k i).length = 23 := by unfold mcL; rw [Array.length_toList]; exact arr_len _
theorem oneL (k i : Nat) : ∀ u ∈ mcL k i, u.oneCell' = true := fun u hu => (mkLetK k i).one u (by simpa [mcL] using hu)
theorem oneFL (k n : Nat) : ∀ u ∈ mkF mcL k n, u.oneCell' = true := by
  intro u hu
  obtain ⟨i, _, hi⟩ := List.mem_flatMap.1 hu
  exact oneL k i u hi
theorem infrL : (Tryz.prog.info? 22).map (fun i => (i.zero, i.size, i.bytes)) = some (some (.slice none 0 0), 1, 24) := by kernel_rfl
theorem rowsL (N : Nat) (hn : N ≤ 100000) (w : World) : (Instr.makeSlice 50 (.int .i64 (N : Int)) (.int .i64 (N : Int))).run Tryz.prog w = .ok (.slice (some ⟨w.heap.size, 0, none⟩) N N) (w.alloc (.cells (madeCells #[.slice none 0 0] N) 22)) := by
  obtain ⟨i0, hi, hz0, hz1, hz2⟩ := info_parts infrL
  exact run_mk0 (P := Tryz.prog) 50 22 i0 _ Tryz.underlying50 hi hz0 hz1 N N (N : Int) rfl (Nat.le_refl _) (by omega) (by omega) w
theorem mk64L (w : World) : (Instr.makeSlice 22 (.int .i64 64) (.int .i64 64)).run Tryz.prog w = .ok (.slice (some ⟨w.heap.size, 0, none⟩) 64 64) (w.alloc (.cells (madeCells voteZ.arr (64 * 23)) 35)) := by
  obtain ⟨i0, hi, hz0, hz1, hz2⟩ := info_parts infoELet
  have hr := run_make (P := Tryz.prog) w 22 35 i0 _ Tryz.underlying22 hi hz0 .i64 .i64 64 64 (by omega) (by omega) (by rw [hz2]; omega) (by omega)
  rw [hz1] at hr
  exact hr
theorem neL : 35 ≠ 22 := by decide
abbrev LsL := LsW 22
abbrev RowsL := RowsW 23 35
abbrev GrL := GrW 23 35 22 mcL
section
variable (B : Nat) (L : Option Addr) (cl N : Nat) (A : Nat → Option Addr) (n c : Nat → Nat)
def Fl1 (w0 w : World) : Prop := LsL w B L cl N A n c ∧ RowsL w B N A n c (fun k => mkF mcL k (n k)) ∧ Fr (RB N A) w0 w
def FlR1 (w0 : World) (v : Value) (w : World) : Prop := ∃ (k : Nat) (X : Nat → List Value), k ≤ N ∧ v = .int .i64 k ∧ LsL w B L cl N A n c ∧ (∀ j, j < k → X j = mkF mcL j (n j)) ∧ RowsL w B N A n c X ∧ Fr (RB N A) w0 w
def FlR2 (k : Nat) (w0 : World) (v : Value) (w : World) : Prop := ∃ (i : Nat) (X : Nat → List Value), i ≤ n k ∧ v = .int .i64 i ∧ LsL w B L cl N A n c ∧ (∀ j, j < k → X j = mkF mcL j (n j)) ∧ (X k).take (i * 23) = mkF mcL k i ∧ RowsL w B N A n c X ∧ Fr (RB N A) w0 w
def Fl2 (gg s0 : Nat) (w0 : World) (E : Nat → List Value) (k : Nat) (w : World) : Prop :=
  ∃ (V : Nat → Value) (A' : Nat → Option Addr) (c' : Nat → Nat) (sk : Nat), GrL B L cl N A n c gg w0 V E A' c' k w ∧ GrA N A n s0 sk V A' c' k ∧ sk ≤ w.heap.size
def FlR3 (gg s0 : Nat) (w0 : World) (E : Nat → List Value) (v : Value) (w : World) : Prop := ∃ k : Nat, k ≤ N ∧ v = .int .i64 k ∧ Fl2 B L cl N A n c gg s0 w0 E k w
def FlR4 (gg : Nat) (w0 : World) (V : Nat → Value) (E : Nat → List Value) (A' : Nat → Option Addr) (c' : Nat → Nat) (k sk : Nat) (v i : Value) (w : World) : Prop :=
  ∃ (t m : Nat) (A2 : Option Addr) (c2 : Nat), t ≤ 64 ∧ i = .int .i64 t ∧ v = .slice A2 m c2 ∧ m = n k + t ∧ GrL B L cl N A n c gg w0 V E A' c' k w ∧ OwnW 23 w B 35 A2 m c2 (mkF mcL k (n k + t)) ∧ (∀ i, blk A2 i → blk (A k) i ∨ sk ≤ i) ∧ sk ≤ w.heap.size
def FlR5 (gg s0 : Nat) (w0 : World) (E : Nat → List Value) (v : Value) (w : World) : Prop := ∃ k : Nat, k ≤ N ∧ v = .int .i64 k ∧ Fl2 B L cl N A n c gg s0 w0 E N w
def FlR6 (gg : Nat) (w0 : World) (V : Nat → Value) (E : Nat → List Value) (A' : Nat → Option Addr) (c' : Nat → Nat) (sk mx : Nat) (v : Value) (w : World) : Prop :=
  ∃ t : Nat, t ≤ mx ∧ v = .int .i64 t ∧ GrL B L cl N A n c gg w0 V E A' c' N w ∧ sk ≤ w.heap.size
def FlR8 (gg : Nat) (w0 : World) (V : Nat → Value) (E : Nat → List Value) (A' : Nat → Option Addr) (c' : Nat → Nat) (k sk gm : Nat) (v : Value) (w : World) : Prop :=
  ∃ (t : Nat) (Y : List Value), t ≤ 64 ∧ v = .int .i64 t ∧ Y.length = 64 * 23 ∧ Y.take (t * 23) = mkF mcL (k + N) t ∧ GrL B L cl N A n c gg w0 V E A' c' k w ∧ OwnW 23 w B 35 (some ⟨gm, 0, none⟩) 64 64 Y ∧ sk + 1 ≤ w.heap.size
end
def E2 (n : Nat → Nat) (j : Nat) : List Value := (List.range 64).flatMap (fun t => mcL j (n j + t))
def E4 (N : Nat) (j : Nat) : List Value := mkF mcL (j + N) 64
section
variable {B cl N gg s0 sk k : Nat} {L : Option Addr} {A A' : Nat → Option Addr} {n c c' : Nat → Nat} {w0 w w2 : World} {V : Nat → Value} {E E' : Nat → List Value}
theorem Fl2.start (hL : LsL w B L cl N A n c) (hR : RowsL w B N A n c (fun k => mkF mcL k (n k))) (hF : Fr (RB N A) w0 w) (hB : B ≤ w.heap.size) (hN : N ≤ 100000) :
    Fl2 B L cl N A n c w.heap.size (w.heap.size + 1) w0 E 0 (w.alloc (.cells (madeCells #[.slice none 0 0] N) 22)) :=
  have he := (Ext.refl w).alloc (.cells (madeCells #[.slice none 0 0] N) 22)
  ⟨fun _ => .slice none 0 0, fun _ => none, fun _ => 0, w.heap.size + 1, ⟨hL.ext he, hR.ext he, hF.then he, by
      refine Own.mk hB (heap_alloc_new w _) (by simp) (by unfold maxLen; omega) (size_madeCells _ _) ?_
      rw [toList_madeCells_one]
      simp [List.map_const'], fun j hj => by omega⟩,
    ⟨fun j hj i hi => by have := ((hR j hj).lt hi).2; omega, Nat.le_refl _, fun j hj => by omega, fun j hj => by omega⟩, by simp⟩
theorem Fl2.again (h : Fl2 B L cl N A n c gg s0 w0 E k w) : Fl2 B L cl N A n c gg s0 w0 E' 0 w := by
  obtain ⟨V, A', c', sk, hG, hA, hs⟩ := h
  exact ⟨V, A', c', sk, ⟨hG.1, hG.2.1, hG.2.2.1, hG.2.2.2.1, fun j hj => by omega⟩, ⟨hA.1, hA.2.1, fun j hj => by omega, fun j hj => by omega⟩, hs⟩
theorem GrL.setNew {gm cm nm : Nat} {xs : List Value} (hG : GrL B L cl N A n c gg w0 V E A' c' k w) (hA : GrA N A n s0 sk V A' c' k)
    (hm : OwnW 23 w B 35 (some ⟨gm, 0, none⟩) nm cm xs) (hgm : sk ≤ gm) (hw0 : w0.heap.size ≤ gm) (hF : Fr (isB gm) w w2) : GrL B L cl N A n c gg w0 V E A' c' k w2 := by
  obtain ⟨hL, hR, hF0, hV, hO⟩ := hG
  obtain ⟨a1, a2, a3, a4⟩ := hA
  refine ⟨Own.fr hL hF (fun i hi e => ?_), fun j hj => (hR j hj).fr hF (fun i hi e => ?_), hF0.trans hF (fun i hi e => ?_), Own.fr hV hF (fun i hi e => ?_), fun j hj => (hO j hj).fr hF (fun i hi e => ?_)⟩
  · obtain rfl : i = gm := e
    exact OwnW.ne hm (Own.w hL) neL rfl hi
  · obtain rfl : i = gm := e
    have := a1 j hj i hi
    omega
  · have e2 : i = gm := e
    omega
  · obtain rfl : i = gm := e
    exact OwnW.ne hm (Own.w hV) neL rfl hi
  · obtain rfl : i = gm := e
    have := (a4 j hj i hi).2
    omega
theorem GrL.vcell (h : GrL B L cl N A n c gg w0 V E A' c' k w) {j : Nat} (hj : j < N) : w.cell? ⟨gg, j, none⟩ = some (V j) := Rd.at0 (Own.rd h.2.2.2.1) (by simp [hj])
theorem GrL.vfz (h : GrL B L cl N A n c gg w0 V E A' c' k w) (j : Nat) : w.frozen? ⟨gg, j, none⟩ = false := Own.frozen h.2.2.2.1 j
end
theorem rangeL {w : World} {B g n c m : Nat} {k t : Nat} {ys : List Value} (h : OwnW 23 w B 35 (some ⟨g, 0, none⟩) n c (mkF mcL k m ++ ys)) (ht : t < m) : World.rangeAt w g (t * 23) (mkLetK k t).arr.toList := fun j v hv => by
  have h1 := mkF_get mcL_len ht (show (mcL k t)[j]? = some v from hv)
  have h2 := (List.getElem?_eq_some_iff.1 h1).1
  exact Rd.at0 h.rd (by rw [List.getElem?_append_left h2]; exact h1)
theorem same_mk (k t : Nat) (w : World) : Calls Tryz.prog 26 #[(mkLetK k t).v, (mkLetK k t).v] w fun e w' => e = .returned (.bool true) ∧ Ext w w' := by
  have h := sameLet_any (mkLetK k t) (mkLetK k t) w ((mkLetK_light k t).inW w) ((mkLetK_light k t).inW w)
  rw [show decide ((mkLetK k t).cont = (mkLetK k t).cont) = true by simp] at h
  exact h
end Go.Proofs.YtjnllilmimngoaaGreatDoor
