import Derived.Test.YtbknabgimjkcoaaPlanL
namespace Go.Proofs.Ytbknabgimjkcoaa
open Go.RowKit

/-- Cells that hold numbers. -/
def RowI (w : World) (b n : Nat) (f : Nat → Int) : Prop := ∀ k, k < n → w.cell? ⟨b, k, none⟩ = some (.int .i64 (f k))
theorem RowI.ext {w w' : World} {b n : Nat} {f : Nat → Int} (h : RowI w b n f) (hE : Ext w w') : RowI w' b n f := fun k hk => hE.cell (h k hk)
theorem RowI.at {w : World} {b n : Nat} {f : Nat → Int} (h : RowI w b n f) (z : Int) (h0 : 0 ≤ z) (h1 : z < n) : w.cell? ⟨b, z.toNat, none⟩ = some (.int .i64 (f z.toNat)) := h _ (by omega)
theorem RowI.mk (w : World) (xs : List Int) (t : TypeId) : RowI (w.alloc (.cells (xs.map (Value.int .i64)).toArray t)) w.heap.size xs.length (fun k => xs.getD k 0) := fun k hk => by
  rw [World.cell?_alloc_new]
  simp [hk]

theorem rows4 (w : World) (a b c d : List Int) :
    let W := (((w.alloc (.cells (a.map (Value.int .i64)).toArray 3)).alloc (.cells (b.map (Value.int .i64)).toArray 3)).alloc (.cells (c.map (Value.int .i64)).toArray 3)).alloc (.cells (d.map (Value.int .i64)).toArray 3)
    RowI W w.heap.size a.length (fun k => a.getD k 0) ∧ RowI W (w.heap.size + 1) b.length (fun k => b.getD k 0) ∧ RowI W (w.heap.size + 1 + 1) c.length (fun k => c.getD k 0) ∧ RowI W (w.heap.size + 1 + 1 + 1) d.length (fun k => d.getD k 0) ∧ Ext w W := by
  intro W
  have h1 := RowI.mk w a 3
  have h2 := RowI.mk (w.alloc (.cells (a.map (Value.int .i64)).toArray 3)) b 3
  have h3 := RowI.mk ((w.alloc (.cells (a.map (Value.int .i64)).toArray 3)).alloc (.cells (b.map (Value.int .i64)).toArray 3)) c 3
  have h4 := RowI.mk (((w.alloc (.cells (a.map (Value.int .i64)).toArray 3)).alloc (.cells (b.map (Value.int .i64)).toArray 3)).alloc (.cells (c.map (Value.int .i64)).toArray 3)) d 3
  simp only [World.size_alloc] at h2 h3 h4
  exact ⟨h1.ext ((((Ext.refl _).alloc _).alloc _).alloc _), h2.ext (((Ext.refl _).alloc _).alloc _), h3.ext ((Ext.refl _).alloc _), h4, ((((Ext.refl w).alloc _).alloc _).alloc _).alloc _⟩

set_option maxRecDepth 100000 in
set_option maxHeartbeats 8000000 in
theorem ends_walk (w : World) : Calls Try.prog 5 #[] w fun e w' => e = .returned (.bool true) ∧ Ext w w' := by
  obtain ⟨r1, r2, r3, r4, hE⟩ := rows4 w [(-1 : Int), 1, 2, 16, 17] [(0 : Int), 1, 32, 33] [(0 : Int), 1, 48, 49] [(-9223372036854775808 : Int), -1, 0, 1, 2, 32, 33, 1099511627776, 1099511627777, 9223372036854775807]
  go_enter Try.func5, Try.ntmps5
  go_wp2_with fail
  simp only [List.map_cons, List.map_nil, List.length_cons, List.length_nil, Nat.zero_add, Nat.reduceAdd] at r1 r2 r3 r4 hE
  generalize hf1 : (fun k => [(-1 : Int), 1, 2, 16, 17].getD k 0) = f1 at r1
  generalize hf2 : (fun k => [(0 : Int), 1, 32, 33].getD k 0) = f2 at r2
  generalize hf3 : (fun k => [(0 : Int), 1, 48, 49].getD k 0) = f3 at r3
  generalize hf4 : (fun k => [(-9223372036854775808 : Int), -1, 0, 1, 2, 32, 33, 1099511627776, 1099511627777, 9223372036854775807].getD k 0) = f4 at r4
  clear hf1 hf2 hf3 hf4
  go_loopw [5] (fun i wr => ∃ k : Nat, k ≤ 80 ∧ i = .int .i64 k ∧ Ext w wr ∧ RowI wr w.heap.size 5 f1 ∧ RowI wr (w.heap.size + 1) 4 f2 ∧ RowI wr (w.heap.size + 1 + 1) 4 f3 ∧ RowI wr (w.heap.size + 1 + 1 + 1) 10 f4) (fun i _ => 80 - (intOf i).toNat)
  case atStart => exact ⟨0, by omega, rfl, hE, r1, r2, r3, r4⟩
  case round =>
    clear r1 r2 r3 r4 hE
    obtain ⟨k, hk, rfl, hE, q1, q2, q3, q4⟩ := hrel
    by_cases hlt : k < 80
    · have hdk : decide ((k : Int) < 80) = true := by simp; omega
      go_wp2_with fail
      refine Stab.wp_region_lexTail 18 Ext (Ext _) (fun _ => True) (by kernel_rfl) (by kernel_rfl) (fun _ _ h => h) (fun _ _ h k => Ext.trans h k) (fun _ _ _ _ => trivial) ((Ext.refl _).drew) trivial ?_
      simp only [List.take_succ_cons, List.take_zero, List.drop_succ_cons, List.drop_zero, Stab.zipL, Nat.reduceAdd]
      iterate 17 (refine Stab.wpX_val rfl rfl ?_; apply Exists.intro; refine ⟨fun wx hC _ => ?_, ?_⟩; (have f1 := (q1.ext hC).at ((k : Int) % 5) (by omega) (by omega); have f2 := (q2.ext hC).at ((k : Int) / 5 % 4) (by omega) (by omega); have f3 := (q3.ext hC).at ((k : Int) / 20) (by omega) (by omega); go_simp; (try simp (disch := omega) only [↓IntWalk.iteOmega, Stab.yieldsUpon_value, IntWalk.rem_in, IntWalk.i64_quo, IntWalk.i64_in]); exact ⟨Ext.refl _, rfl⟩); simp only [Act.put, List.setIfInBounds_toArray, List.set_cons_zero, List.set_cons_succ])
      refine Stab.wpX_new (NewAt wr.heap.size #[.int .i64 0, .int .i64 0, .int .i64 0] 23) rfl rfl (by kernel_rfl) (fun _ _ _ h hle => h.up hle) (fun _ _ _ _ => trivial) ?_ ?_
      · intro wx hC _
        have := hC.sz
        go_simp
        exact ⟨(Ext.refl _).alloc _, NewAt.mk wx _ _ (by omega)⟩
      rintro u ⟨w0, _, ⟨b, rfl, hb, _⟩, _⟩
      simp only [Act.put, List.setIfInBounds_toArray, List.set_cons_zero, List.set_cons_succ]
      refine Stab.wpX_end fun w8 hC8 _ hF => ?_
      obtain ⟨b', hbe, _, hlt8, hblk⟩ := (hF 17).2 rfl
      have hbb : b = b' := by simpa using hbe
      subst hbb
      clear hF hbe
      have g0 : w8.cell? ⟨b, 0, none⟩ = some (.int .i64 0) := by rw [cell_of_heap hblk]; rfl
      have g1 : w8.cell? ⟨b, 1, none⟩ = some (.int .i64 0) := by rw [cell_of_heap hblk]; rfl
      have g2 : w8.cell? ⟨b, 2, none⟩ = some (.int .i64 0) := by rw [cell_of_heap hblk]; rfl
      have gf := frozen_of_heap hblk
      have hz0 := hE.sz
      clear hblk
      generalize f1 ((k : Int) % 5).toNat = s at *
      generalize f2 ((k : Int) / 5 % 4).toNat = r at *
      generalize f3 ((k : Int) / 20).toNat = p at *
      go_wp2_with fail
      have hX : Ext wr (((w8.setCell ⟨b, 0, none⟩ (.int .i64 s)).setCell ⟨b, 1, none⟩ (.int .i64 r)).setCell ⟨b, 2, none⟩ (.int .i64 p)) := ((hC8.set hb _).set hb _).set hb _
      go_loopw [7] (fun j wb => ∃ m : Nat, m ≤ 10 ∧ j = .int .i64 m ∧ Ext wr wb ∧ wb.cell? ⟨b, 0, none⟩ = some (.int .i64 s) ∧ wb.cell? ⟨b, 1, none⟩ = some (.int .i64 r) ∧ wb.cell? ⟨b, 2, none⟩ = some (.int .i64 p)) (fun j _ => 10 - (intOf j).toNat)
      case atStart => exact ⟨0, by omega, rfl, hX, by simp [go_sem, g0], by simp [go_sem, g1], by simp [go_sem, g2]⟩
      case round =>
        clear hX g0 g1 g2 gf hlt8 hC8
        obtain ⟨m, hm, rfl, hX, c0, c1, c2⟩ := hrel
        by_cases hlt2 : m < 10
        · go_wp2_with fail
          refine Stab.wp_region_lex Ext (Ext _) (fun _ => True) (by kernel_rfl) (by kernel_rfl) (fun _ _ h => h) (fun _ _ h k => Ext.trans h k) (fun _ _ _ _ => trivial) ((Ext.refl _).drew) trivial ?_
          simp only [Stab.zipL, Nat.reduceAdd]
          repeat (refine Stab.wpX_val rfl rfl ?_; apply Exists.intro; refine ⟨fun wx hC _ => ?_, ?_⟩; (have fa := (q4.ext (hX.trans hC)) m hlt2; have fb := (q4.ext (hX.trans hC)).at (((m : Int) + k) % 10) (by omega) (by omega); have fc := (q4.ext (hX.trans hC)).at (((m : Int) * 3 + k) % 10) (by omega) (by omega); have fd := (q4.ext (hX.trans hC)).at (((m : Int) * 7 + k) % 10) (by omega) (by omega); have e0 := hC.cell c0; have e1 := hC.cell c1; have e2 := hC.cell c2; go_simp; (try simp (disch := omega) only [↓IntWalk.iteOmega, Stab.yieldsUpon_value, IntWalk.rem_in, IntWalk.i64_quo, IntWalk.i64_in]); exact ⟨Ext.refl _, rfl⟩); simp only [Act.put, List.setIfInBounds_toArray, List.set_cons_zero, List.set_cons_succ])
          (refine Stab.wpX_call1 rfl rfl (fun _ _ _ _ => trivial) ?_; apply Exists.intro; refine ⟨fun wx hC _ _ => ?_, ?_⟩; (go_simp; refine ⟨rfl, ?_⟩; with_reducible refine (tells_walk _ _ _ _ _ _ _ _ _).mono ?_; rintro e w9 ⟨rfl, hb9⟩; (first | exact ⟨hb9, rfl, trivial⟩ | exact ⟨hb9, rfl⟩)); simp only [Act.put, List.setIfInBounds_toArray, List.set_cons_zero, List.set_cons_succ])
          repeat (first | (refine Stab.wpX_val rfl rfl ?_; apply Exists.intro; refine ⟨fun wx hC _ => ?_, ?_⟩; (have fa := (q4.ext (hX.trans hC)) m hlt2; have fb := (q4.ext (hX.trans hC)).at (((m : Int) + k) % 10) (by omega) (by omega); have fc := (q4.ext (hX.trans hC)).at (((m : Int) * 3 + k) % 10) (by omega) (by omega); have fd := (q4.ext (hX.trans hC)).at (((m : Int) * 7 + k) % 10) (by omega) (by omega); have e0 := hC.cell c0; have e1 := hC.cell c1; have e2 := hC.cell c2; go_simp; (try simp (disch := omega) only [↓IntWalk.iteOmega, Stab.yieldsUpon_value, IntWalk.rem_in, IntWalk.i64_quo, IntWalk.i64_in]); exact ⟨Ext.refl _, rfl⟩); simp only [Act.put, List.setIfInBounds_toArray, List.set_cons_zero, List.set_cons_succ]) | (refine Stab.wpX_call1 rfl rfl (fun _ _ _ _ => trivial) ?_; apply Exists.intro; refine ⟨fun wx hC _ _ => ?_, ?_⟩; (go_simp; refine ⟨rfl, ?_⟩; with_reducible refine (rblocks_any _ _ _ _).mono ?_; rintro e w9 ⟨rfl, hb9⟩; (first | exact ⟨hb9, rfl, trivial⟩ | exact ⟨hb9, rfl⟩)); simp only [Act.put, List.setIfInBounds_toArray, List.set_cons_zero, List.set_cons_succ]))
          (refine Stab.wpX_call1 rfl rfl (fun _ _ _ _ => trivial) ?_; apply Exists.intro; refine ⟨fun wx hC _ _ => ?_, ?_⟩; (go_simp; refine ⟨rfl, ?_⟩; with_reducible refine (tells_walk _ _ _ _ _ _ _ _ _).mono ?_; rintro e w9 ⟨rfl, hb9⟩; (first | exact ⟨hb9, rfl, trivial⟩ | exact ⟨hb9, rfl⟩)); simp only [Act.put, List.setIfInBounds_toArray, List.set_cons_zero, List.set_cons_succ])
          repeat (refine Stab.wpX_val rfl rfl ?_; apply Exists.intro; refine ⟨fun wx hC _ => ?_, ?_⟩; (have fa := (q4.ext (hX.trans hC)) m hlt2; have fb := (q4.ext (hX.trans hC)).at (((m : Int) + k) % 10) (by omega) (by omega); have fc := (q4.ext (hX.trans hC)).at (((m : Int) * 3 + k) % 10) (by omega) (by omega); have fd := (q4.ext (hX.trans hC)).at (((m : Int) * 7 + k) % 10) (by omega) (by omega); have e0 := hC.cell c0; have e1 := hC.cell c1; have e2 := hC.cell c2; go_simp; (try simp (disch := omega) only [↓IntWalk.iteOmega, Stab.yieldsUpon_value, IntWalk.rem_in, IntWalk.i64_quo, IntWalk.i64_in]); exact ⟨Ext.refl _, rfl⟩); simp only [Act.put, List.setIfInBounds_toArray, List.set_cons_zero, List.set_cons_succ])
          refine Stab.wpX_end fun w7 hC7 _ _ => ?_
          go_wp2_with fail
          go_roundw
          case rel => exact ⟨m + 1, by omega, by go_num, hX.trans hC7, hC7.cell c0, hC7.cell c1, hC7.cell c2⟩
          case measure => simp [intOf]; omega
        · go_wp2_with fail
          go_roundw
          case rel => exact ⟨k + 1, by omega, by go_num, hE.trans hX, q1.ext hX, q2.ext hX, q3.ext hX, q4.ext hX⟩
          case measure => simp [intOf]; omega
    · have hdk : decide ((k : Int) < 80) = false := by simp; omega
      go_wp2_with fail
      clear q1 q2 q3 q4
      go_loopw [8] (fun j wb => ∃ m : Nat, m ≤ 27 ∧ j = .int .i64 m ∧ Ext w wb) (fun j _ => 27 - (intOf j).toNat)
      case atStart => exact ⟨0, by omega, rfl, hE⟩
      case round =>
        clear hE
        obtain ⟨m, hm, rfl, hE⟩ := hrel
        by_cases hlt2 : m < 27
        · have hdm : decide ((m : Int) < 27) = true := by simp; omega
          go_wp2_with fail
          obtain ⟨wo, rfl⟩ : ∃ wo : World, wo = wr := ⟨_, rfl⟩
          generalize hs : (2 + (m : Int) % 3) = s at *
          generalize hr : (1 + (m : Int) / 3 % 3) = r at *
          generalize hp : (1 + (m : Int) / 9) = p at *
          clear hs hr hp
          go_loopw [10] (fun j wb => ∃ z : Int, -2 ≤ z ∧ z ≤ 45 ∧ j = .int .i64 z ∧ Ext (wo.alloc (.cells #[.int .i64 s, .int .i64 r, .int .i64 p] 23)) wb) (fun j _ => (45 - intOf j).toNat)
          case atStart => exact ⟨-2, by omega, by omega, rfl, Ext.refl _⟩
          case round =>
            obtain ⟨z, hz1, hz2, rfl, hX⟩ := hrel
            by_cases hlt3 : z < 45
            · have c0 : wr.cell? ⟨wo.heap.size, 0, none⟩ = some (.int .i64 s) := hX.cell (by simp [go_sem])
              have c1 : wr.cell? ⟨wo.heap.size, 1, none⟩ = some (.int .i64 r) := hX.cell (by simp [go_sem])
              have c2 : wr.cell? ⟨wo.heap.size, 2, none⟩ = some (.int .i64 p) := hX.cell (by simp [go_sem])
              go_wp2_with fail
              (with_reducible refine (tells_walk _ _ _ _ _ _ _ _ _).mono ?_)
              rintro e x1 ⟨rfl, hx1⟩
              clear c0 c1 c2
              go_wp2_with fail
              go_roundw
              case rel => exact ⟨z + 1, by omega, by omega, by go_num, hX.trans hx1⟩
              case measure => simp [intOf]; omega
            · go_wp2_with fail
              go_roundw
              case rel => exact ⟨m + 1, by omega, by go_num, hE.trans (((Ext.refl _).alloc _).trans hX)⟩
              case measure => simp [intOf]; omega
        · go_wp2_with fail
          go_call awake_any as e x1 ⟨rfl, hx1⟩
          go_wp2_with fail
          go_ret
          exact ⟨rfl, hE.trans hx1⟩

end Go.Proofs.Ytbknabgimjkcoaa
