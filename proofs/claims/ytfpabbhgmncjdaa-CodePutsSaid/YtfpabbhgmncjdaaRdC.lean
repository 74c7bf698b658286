/-
  The reader of package code: Field of width 2 at the begin.
-/
import Derived.Test.YtfpabbhgmncjdaaRdB
import Derived.Sort.QuietIn
namespace Go.Proofs.Ytfpabbhgmncjdaa
open Go.RowKit Go.Shelf
attribute [local go_sem] Oper.semAt_some

theorem frOwn {β : Type} {S : Nat → Prop} {w : World} {B : Nat} (hB : w.heap.size ≤ B) : OwnFrom (β := β) B (fun _ W => Fr S w W) := fun s A A' row hs hg hr =>
  hs.trans (Fr.ofGrown (S := fun i => B ≤ i) hg (fun g e => (hr g e).1)) (fun i hi h => by omega)
theorem top6_any (w : World) : Calls Try.prog 29 #[.int .i64 6] w fun e w' => e = .returned (.int .i64 1099511627776) ∧ w = w' := top_any 6 w
def stepF (n x : Int) : Int := if 1099511627776 < n then bits .or .i64 281474976710656 (wrap64 x) else bits .or .i64 (wrap64 (n * 256)) (wrap64 x)
def valF (l : List (Int × Int)) : Int := l.foldl (fun n x => stepF n x.2) 0
theorem valF_snoc (l : List (Int × Int)) (x : Int × Int) : valF (l ++ [x]) = stepF (valF l) x.2 := by simp [valF]

set_option maxRecDepth 100000 in
set_option maxHeartbeats 2000000 in
theorem rdField_2 (rb b N c : Nat) (x0 x1 : Int) (w : World) (hR : Rdr w rb (some ⟨b, 0, none⟩) N c 0) (hN : 2 ≤ N) (hNc : N ≤ c) (hN2 : N ≤ 1000000) (hbr : b ≠ rb) (hx0 : w.cell? ⟨b, 0, none⟩ = some (.int .u8 x0)) (hx1 : w.cell? ⟨b, 1, none⟩ = some (.int .u8 x1))
    (hv : valF [(1, x1), (0, x0)] ≤ 65535) :
    Calls Try.prog 13 #[.pointer (some ⟨rb, 0, none⟩), .int .i64 2] w fun e w' => e = .returned (.int .i64 (valF [(1, x1), (0, x0)])) ∧ Fr (isB rb) w w' := by
  refine (callsIn_wide (n := 3)).1 ?_
  refine callsIn_of_wp_marks Try.func13 rfl trivial ?_ rfl
  simp only [Try.ntmps13, List.size_toArray, List.length_cons, List.length_nil, Nat.reduceAdd, Nat.reduceSub, Array.replicate_succ, Array.replicate_zero, List.push_toArray, List.append_toArray, List.nil_append, List.cons_append]
  have hr0 := cell_of_heap hR 1
  simp at hr0
  have hlt := World.block_lt_of_cell? w _ hr0
  simp at hlt
  have hltb := World.block_lt_of_cell? w _ hx0
  simp at hltb
  have E0 : Ext w (w.alloc (.cells #[.int .i64 0] 3)) := (Ext.refl w).alloc _
  have hR1 : Rdr (w.alloc (.cells #[.int .i64 0] 3)) rb (some ⟨b, 0, none⟩) N c 0 := (E0.below.block rb hlt).trans hR
  gi_wp2_with (first | (refine ⟨trivial, ?_⟩; gi_at_call 32; refine (callsIn_wide.2 (ok_any rb _ N c 0 _ hR1)).mono ?_; rintro e w' ⟨rfl, rfl⟩) | (refine ⟨trivial, ?_⟩; gi_at_call 29; refine (callsIn_wide.2 (top2_any _)).mono ?_; rintro e w' ⟨rfl, rfl⟩) | (refine ⟨trivial, ?_⟩; gi_at_call 33; refine (callsIn_wide.2 (there_2 rb _ N c _ hR1 hN hN2)).mono ?_; rintro e w' ⟨rfl, n1, rfl⟩; have hR2 : Rdr ((w.alloc (.cells #[.int .i64 0] 3)).drewN n1) rb (some ⟨b, 0, none⟩) N c 0 := hR1) | (refine ⟨trivial, ?_⟩; gi_at_call 35; refine (callsIn_wide.2 (next_2 rb b N c _ hR2 hN hNc hN2)).mono ?_; rintro e w' ⟨rfl, n2, rfl⟩) | (refine ⟨trivial, ?_⟩; gi_at_call 36; refine (callsIn_wide.2 (backward_any _ _ _ _)).mono ?_; rintro e w' ⟨rfl, rfl⟩))
  have hn4 := heap_alloc_new w (.cells #[.int .i64 0] 3)
  have hF0 : Fr (isB rb) w ((((w.alloc (.cells #[.int .i64 0] 3)).drewN n1).setCell ⟨rb, 1, none⟩ (.int .i64 2)).drewN n2) := (Fr.set (S := isB rb) (((Fr.refl (isB rb) w).alloc _).drewN n1) (p := ⟨rb, 1, none⟩) (.inl rfl) _).drewN n2
  have hres : ((((w.alloc (.cells #[.int .i64 0] 3)).drewN n1).setCell ⟨rb, 1, none⟩ (.int .i64 2)).drewN n2).heap[w.heap.size]? = some (.cells #[.int .i64 0] 3) := (Below.heap_setCell ((w.alloc (.cells #[.int .i64 0] 3)).drewN n1) ⟨rb, 1, none⟩ (.int .i64 2) w.heap.size (by simp; omega)).trans hn4
  have hs0 : ((((w.alloc (.cells #[.int .i64 0] 3)).drewN n1).setCell ⟨rb, 1, none⟩ (.int .i64 2)).drewN n2).heap.size = w.heap.size + 1 := by simp [World.setCell]
  generalize hW0 : ((((w.alloc (.cells #[.int .i64 0] 3)).drewN n1).setCell ⟨rb, 1, none⟩ (.int .i64 2)).drewN n2) = W0 at *
  clear hW0 hR1 hR2 E0 hn4
  have hx0' := hF0.cell (p := ⟨b, 0, none⟩) hbr hx0
  have hx1' := hF0.cell (p := ⟨b, 1, none⟩) hbr hx1
  have hE1 : Ext W0 (W0.alloc (.cells #[.slice (some ⟨b, 0, none⟩) 2 c] 25)) := (Ext.refl W0).alloc _
  have hBs := cell_of_heap (heap_alloc_new W0 (.cells #[.slice (some ⟨b, 0, none⟩) 2 c] 25)) 0
  simp [hs0] at hBs
  have hrc := hE1.cell (cell_of_heap hres 0)
  have hrf : (W0.alloc (.cells #[.slice (some ⟨b, 0, none⟩) 2 c] 25)).frozen? ⟨w.heap.size, 0, none⟩ = false := frozen_of_heap ((hE1.below.block _ (by omega)).trans hres) 0
  have hF1 : Fr (isB rb) w (W0.alloc (.cells #[.slice (some ⟨b, 0, none⟩) 2 c] 25)) := hF0.then hE1
  have hs1 : (W0.alloc (.cells #[.slice (some ⟨b, 0, none⟩) 2 c] 25)).heap.size = w.heap.size + 2 := by simp [hs0]
  have hx0'' := hE1.cell hx0'
  have hx1'' := hE1.cell hx1'
  generalize hW1 : W0.alloc (.cells #[.slice (some ⟨b, 0, none⟩) 2 c] 25) = W1 at *
  clear hW1 hE1 hres

  refine wpIn_rangeFunc_ownF (F := Fence.wide) (n := 3) rfl (by decide) (gf := 45) (lb := #[.pointer (some ⟨w.heap.size + 1, 0, none⟩)]) rfl trivial (enters_of Try.func45 (by kernel_rfl) rfl)
    (back_stops Fence.wide 2 trivial rfl (by decide) (w.heap.size + 1) w.heap.size b c x0 x1 (by omega) (by omega) (by omega) W1 hBs hx0'' hx1'') KpO.t (fun W l o o' _ h hc _ => KpO.b W l o o' h hc) (Below.refl _ _) (fun _ => rfl)
    (fun pre W => (W.cell? ⟨w.heap.size, 0, none⟩ = some (.int .i64 (valF pre)) ∧ W.frozen? ⟨w.heap.size, 0, none⟩ = false) ∧ Fr (isB rb) w W)
    (fun _ _ _ => False)
    (OwnFrom.and (Go.Own.from (fun s A B row hs hg hr => ⟨cell_kept hs.1 hg hr, (frozen_kept hs.1 hg hr).trans hs.2⟩) _) (frOwn (by omega)))
    (fun _ _ _ _ _ hs _ _ => hs)
    ⟨⟨hrc, hrf⟩, hF1⟩
    (fun x => { tmps := #[.pointer (some ⟨rb, 0, none⟩), .int .i64 2, undef, undef, .pointer (some ⟨w.heap.size, 0, none⟩), .int .i64 0, .slice (some ⟨b, 0, none⟩) 2 c, undef, .int .u8 x.2, .pointer (some ⟨rb, 0, none⟩), .bool false, .bool false, .pointer (some ⟨rb, 0, none⟩), .pointer (some ⟨rb, 0, none⟩), .pointer (some ⟨rb, 0, none⟩), .bool true, .bool false, .bool false, .pointer (some ⟨rb, 0, none⟩), .pointer (some ⟨rb, 0, none⟩), .pointer (some ⟨rb, 0, none⟩), .pointer (some ⟨rb, 1, none⟩), .int .i64 0, .int .i64 2, .int .i64 65535, .bool false, .bool false, .pointer (some ⟨rb, 0, none⟩), .pointer (some ⟨rb, 0, none⟩), .pointer (some ⟨rb, 0, none⟩), .int .i64 2, .bool true, .bool false, .bool false, undef, undef, undef, undef, undef, .pointer (some ⟨rb, 0, none⟩), .pointer (some ⟨rb, 0, none⟩), .pointer (some ⟨rb, 0, none⟩), .int .i64 2, .slice (some ⟨b, 0, none⟩) 2 c, .slice (some ⟨b, 0, none⟩) 2 c, .func (.func 45) #[] #[.pointer (some ⟨w.heap.size + 1, 0, none⟩)], .int .i64 x.1, .int .u8 x.2, undef, undef, undef, undef, undef, undef, undef, undef, undef, undef, undef, undef, undef, undef, undef, undef, undef], defers := [] }) ?assign ?body ?done ?stop
  case assign =>
    intro l x W K hK
    gi_wp2
    exact hK
  case body =>
    rintro l pre x W ⟨⟨hc, hf⟩, hF⟩ _
    have hmx : Try.prog.follows .mixedOrders = true := by kernel_rfl
    have hd : 1 ≤ 3 - 1 - 1 := by decide
    gi_wp2
    gi_region_with_o (first | (refine ⟨trivial, ?_⟩; gi_at_call 29; refine (CallsIn.inRound l (callsIn_wide.2 (top6_any _))).mono ?_; rintro e w' ⟨rfl, rfl⟩) | (gi_at_call 29; refine (CallsIn.inRound l (callsIn_wide.2 (top6_any _))).mono ?_; rintro e w' ⟨rfl, rfl⟩))
    all_goals gi_wp2
    all_goals (try go_bits)
    all_goals (
      refine ⟨(KeepsOthers.setCell _ _ _).trans (KeepsOthers.drew _), (KpO.set W 0 _).t (KpO.drewN _ 1), ⟨?_, by rw [frozen_drew_own, World.frozen?_setCell]; exact hf⟩, (hF.set (p := ⟨w.heap.size, 0, none⟩) (.inr (Nat.le_refl _)) _).drewN 1⟩
      rw [valF_snoc]
      first
        | (rw [stepF, if_pos (by assumption)]; exact World.cell?_setCell_same' _ _ _ (by rw [hc]; rfl))
        | (rw [stepF, if_neg (by omega)]; exact World.cell?_setCell_same' _ _ _ (by rw [hc]; rfl)))
  case done =>
    rintro D ys W hD rfl ⟨⟨hc, hf⟩, hF⟩ hK
    have hdv : decide (65535 < valF [(1, x1), (0, x0)]) = false := by simp; omega
    gi_wp2
    refine wpIn_wide.2 ?_
    go_quiet ((go_at_call 29; exact Calls.quiet_of_same ((top2_any _).mono fun _ _ h => ⟨h.1, h.2.symm⟩)))
    gi_wp2
    have hcq : (W.drewN nq).cell? ⟨w.heap.size, 0, none⟩ = some (.int .i64 (valF [(1, x1), (0, x0)])) := hc
    have hKq : (W.drewN nq).heap[D]? = some (.deferred (some [])) := hK
    have hFq := (hF.drewN nq).set (p := ⟨w.heap.size, 0, none⟩) (.inr (Nat.le_refl _)) (.int .i64 (valF [(1, x1), (0, x0)]))
    generalize W.drewN nq = Wq at *
    have hK' := (KeepsOthers.setCell Wq ⟨w.heap.size, 0, none⟩ (.int .i64 (valF [(1, x1), (0, x0)]))).same D _ hKq rfl
    refine ⟨by simp, .inl ⟨_, _, rfl, run_takeDeferred hK', ?_⟩⟩
    have hc5 := cell_kept (World.cell?_setCell_same' Wq ⟨w.heap.size, 0, none⟩ (.int .i64 (valF [(1, x1), (0, x0)])) (by rw [hcq]; rfl)) (grownBy_putObj' _ D (.deferred none)) (fun r e => by cases e; exact ⟨_, hK', rfl⟩)
    refine ⟨.int .i64 (valF [(1, x1), (0, x0)]), ?_, rfl, hFq.trans (Fr.ofGrown (S := fun i => w.heap.size ≤ i) (grownBy_putObj' _ D _) (fun g e => by cases e; omega)) (fun i hi h => by omega)⟩
    simp [results, Try.f13, go_sem, hc5]
  case stop =>
    rintro D c pre W _ _ h _
    exact h.elim
end Go.Proofs.Ytfpabbhgmncjdaa
