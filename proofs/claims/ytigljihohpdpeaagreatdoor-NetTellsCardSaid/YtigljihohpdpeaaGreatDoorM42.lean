/-
  awake: the chapter's example.
-/
import Derived.Test.YtigljihohpdpeaaGreatDoorM41
import Derived.Test.YtigljihohpdpeaaGreatDoorM39
import Derived.Test.YtigljihohpdpeaaGreatDoorM38
import Derived.Test.YtigljihohpdpeaaGreatDoorM37
namespace Go.Proofs.YtigljihohpdpeaaGreatDoor
open Go.RowKit

theorem vote_in (f t m : Int) (w : World) : (voteL f t m).inW w :=
  ⟨fun j p h => by simp [voteL] at h, fun j p h => by simp [voteL] at h, fun j p h => by simp [voteL] at h, fun j p h => by simp [voteL] at h, fun j p h => by simp [voteL] at h, by simp [voteL], by simp [voteL], by simp [voteL], by simp [voteL], by simp [voteL], fun x h => by simp [voteL] at h⟩
theorem vote_off (f t m : Int) (S : Nat → Prop) : (voteL f t m).off S :=
  ⟨fun h => absurd rfl h, fun h => absurd rfl h, fun e h => by simp [voteL] at h, fun h => absurd rfl h, fun h => absurd rfl h, fun h => absurd rfl h⟩
theorem vote_held (f t m : Int) (M : Nat → Prop) (w : World) : Held M w (voteL f t m) :=
  ⟨vote_in f t m w, vote_off f t m M, by simp [voteL], by simp [voteL], fun e h => by simp [voteL] at h, by simp [voteL], by simp [voteL], by simp [voteL]⟩
theorem right_v1 : rightL (voteL 1 2 1) = true := by decide +kernel
theorem right_v2 : rightL (voteL 1 3 2) = true := by decide +kernel
theorem two_cont {ms : List Let} {a b : Let} (h : ms.map Let.cont = [a, b].map Let.cont) : ∃ x y, ms = [x, y] ∧ x.cont = a.cont ∧ y.cont = b.cont := by
  match ms, h with
  | [x, y], h =>
    simp only [List.map_cons, List.map_nil, List.cons.injEq, and_true] at h
    exact ⟨x, y, rfl, h.1, h.2⟩
  | [], h => cases h
  | [x], h => simp at h
  | x :: y :: z :: r, h => simp at h
theorem run_buildV2 (w : World) : (Instr.buildSlice 27 2 #[(0, (voteL 1 2 1).v), (1, (voteL 1 3 2).v)]).run Tryz.prog w = .ok (.slice (some ⟨w.heap.size, 0, none⟩) 2 2) (w.alloc (.cells ((voteL 1 2 1).arr ++ (voteL 1 3 2).arr) 44)) := by
  kernel_rfl
theorem wpList_buildV2 {ops : Array Oper} {rest : List Oper} {o : Oper} {a : Act} {w : World} {Q : Exit → Act → World → Prop} (hgd : o.guard = none) (x y : Operand)
    (ho : o.op = .buildSlice 27 2 #[(0, x), (1, y)]) (hx : a.eval x = (voteL 1 2 1).v) (hy : a.eval y = (voteL 1 3 2).v)
    (h : wpList Tryz.prog ops Q rest (a.put o.dst (.slice (some ⟨w.heap.size, 0, none⟩) 2 2)) (w.alloc (.cells ((voteL 1 2 1).arr ++ (voteL 1 3 2).arr) 44))) : wpList Tryz.prog ops Q (o :: rest) a w := by
  refine wpList_plain hgd fun K hK => ?_
  unfold Oper.wp execOp
  simp only [ho, List.map_toArray, List.map_cons, List.map_nil, hx, hy, Sem.run_bind, Sem.run_pure, Result.andThen_ok, run_buildV2]
  exact hK _ _ h
theorem cut_none (i : Int) : cut (List.replicate 8 false) i = false := by
  unfold cut
  rw [List.getD_eq_getElem?_getD, List.getElem?_replicate]
  split <;> rfl
theorem mut_next {nb bb p N : Nat} {A A' : Option Addr} (hA : ∀ i, blk A' i → blk A i ∨ N ≤ i) (hn : ¬ mutN nb bb A p) (hp : p < N) : ¬ mutN nb bb A' p := fun h => by
  rcases h with h | h | h
  · exact hn (.inl h)
  · exact hn (.inr (.inl h))
  · rcases hA p h with h | h
    · exact hn (.inr (.inr h))
    · omega
theorem Fr.low {S : Nat → Prop} {w w1 w2 : World} (hE : Ext w w1) (hF : Fr S w1 w2) (hS : ∀ i, S i → w.heap.size ≤ i) : Ext w w2 := ((Fr.ofExt S hE).trans hF (fun _ _ t => t)).toExt hS
set_option maxRecDepth 100000 in
set_option maxHeartbeats 4000000 in
theorem awake_any (w : World) (hg : ErrT w) : Calls Tryz.prog 4 #[] w fun e w' => e = .returned (.bool true) ∧ Ext w w' := by
  have hB : 0 < w.heap.size := World.block_lt_of_cell? w _ hg
  have HG := Lib.hid hg
  clear hg
  go_enter Tryz.func4, Tryz.ntmps4
  go_wp2_with fail
  refine (new_any w).mono ?_
  rintro ev w1 ⟨rfl, hN1, hE1⟩
  go_wp2_with fail
  refine (vote_any 1 2 1 w1).mono ?_
  rintro ev w2 ⟨rfl, hE2⟩
  go_wp2_with fail
  refine (vote_any 1 3 2 w2).mono ?_
  rintro ev w3 ⟨rfl, hE3⟩
  have HE3 := Lib.hid (((hE1.trans hE2).trans hE3).alloc (.cells ((voteL 1 2 1).arr ++ (voteL 1 3 2).arr) 44))
  have hN3 := hN1.ext ((hE2.trans hE3).alloc (.cells ((voteL 1 2 1).arr ++ (voteL 1 3 2).arr) 44))
  have h3 := heap_alloc_new w3 (.cells ((voteL 1 2 1).arr ++ (voteL 1 3 2).arr) 44)
  have hL : LetsIn (w3.alloc (.cells ((voteL 1 2 1).arr ++ (voteL 1 3 2).arr) 44)) (some ⟨w3.heap.size, 0, none⟩) [voteL 1 2 1, voteL 1 3 2] := LetsIn.of (fun j v hv => ⟨_, rfl, by
    rw [add_lit', Nat.zero_add, cell_of_heap h3]
    rw [← Array.getElem?_toList, Array.toList_append]
    simpa [flat] using hv⟩) (fun l hl => by
    simp at hl
    rcases hl with rfl | rfl <;> exact vote_in _ _ _ _)
  have hsz := ((hE1.trans hE2).trans hE3).sz
  have HS := Lib.hid (send_any _ w.heap.size (w.heap.size + 1) w.heap.size none 0 NetS.zero hN3 ⟨by simp [NetS.zero], by simp [NetS.zero], by simp [NetS.zero], by simp [NetS.zero], by simp [NetS.zero]⟩ hB HE3.out.sz (HG.out.ext HE3.out) (some ⟨w3.heap.size, 0, none⟩) 2 [voteL 1 2 1, voteL 1 3 2] hL (by simp)
    (fun _ ad ha hm => by
      injection ha with ha
      subst ha
      have := (hN1.mut_lt hm).2
      have h4 := (hE2.trans hE3).sz
      simp only at this
      omega) (fun l hl => by
      simp at hl
      rcases hl with rfl | rfl <;> exact vote_held _ _ _ _ _))
  have hlow : ∀ i, mutN (w.heap.size + 1) w.heap.size none i → w.heap.size ≤ i := fun i hi => (hN1.mut_lt hi).1
  clear hN1 hE1 hE2 hE3 hN3 h3 hL
  go_wp2_with (refine wpList_buildV2 rfl _ _ rfl rfl rfl ?_)
  refine (HS.out).mono ?_
  rintro ev w4 (⟨h, _⟩ | ⟨_, rfl, ms, hms, _, A4, c4, hN4, hF4, hA4⟩)
  · exfalso
    simp only [List.all_cons, List.all_nil, right_v1, right_v2] at h
    cases h
  obtain ⟨x, y, rfl, hx, hy⟩ := two_cont hms
  obtain ⟨hx1, _⟩ := Let.cont_fields hx
  obtain ⟨hy1, _⟩ := Let.cont_fields hy
  have hxf : x.frm = 1 := by rw [hx1]; rfl
  have hxt : x.too = 2 := by rw [hx1]; rfl
  have hyf : y.frm = 1 := by rw [hy1]; rfl
  have hyt : y.too = 3 := by rw [hy1]; rfl
  have hym : y.term = 2 := by rw [hy1]; rfl
  clear hx1 hy1 hx hy hms
  have hN4' : NetAt w4 w.heap.size (w.heap.size + 1) w.heap.size A4 c4 ⟨[x, y], 2, 0, 0, 0, List.replicate 8 false⟩ := hN4
  have HN4 := Lib.hid hN4'
  have HE4 := Lib.hid (Fr.low HE3.out hF4 hlow)
  clear hN4 hN4' hF4 hA4 hlow
  go_wp2_with fail
  refine (take_any w4 w.heap.size _ _ A4 c4 _ HN4.out ⟨by simp, by simp, by simp, by simp, by simp⟩ hB (HG.out.ext HE4.out) 3).mono ?_
  rintro ev w5 (⟨h, _⟩ | ⟨k, u, hu, hk, (⟨hcut, _⟩ | ⟨_, rfl, A5, c5, hN5, hF5, hA5⟩)⟩)
  · cases h
  · rw [cut_none, cut_none] at hcut
    cases hcut
  obtain rfl : k = 1 := by
    have h1 : (3 % 2 : Int) = (k : Int) := hk
    omega
  obtain rfl : y = u := by simpa using hu
  have hN5' : NetAt w5 w.heap.size (w.heap.size + 1) w.heap.size A5 c5 ⟨[x], 2, 1, 0, 0, List.replicate 8 false⟩ := hN5
  have HE5 := Lib.hid (Fr.low HE4.out hF5 (fun i hi => (HN4.out.mut_lt hi).1))
  have HN5 := Lib.hid hN5'
  have n5 : ¬ mutN (w.heap.size + 1) w.heap.size A5 w5.heap.size := fun h => by have := (hN5'.mut_lt h).2; omega
  clear hN5 hN5' hF5 hA5 hu hk
  go_wp2_with (refine wpList_store_all rfl _ _ rfl rfl w5.heap.size y _ rfl rfl (heap_alloc_new w5 _) (by simp) ?_; intro w6 hG6 hF6; have HG6 := Lib.hid hG6; have HF6 := Lib.hid hF6; clear hG6 hF6)
  have HE6 := Lib.hid (show Ext w5 w6 from ((Fr.ofExt (isB w5.heap.size) ((Ext.refl w5).alloc _)).trans HF6.out (fun _ _ h => h)).toExt (fun i hi => by unfold isB at hi; omega))
  have HN6 := Lib.hid (HN5.out.ext HE6.out)
  have hp6 := heap_lt HG6.out
  refine (copy_any w6 w.heap.size _ _ A5 c5 _ HN6.out ⟨by simp, by simp, by simp, by simp, by simp⟩ hB (HE5.out.trans HE6.out).sz (HG.out.ext (HE5.out.trans HE6.out)) 0).mono ?_
  rintro ev w7 (⟨h, _⟩ | ⟨k, u, u', hu, hk, huc, huo, rfl, A7, c7, hN7, hF7, hA7⟩)
  · cases h
  obtain rfl : k = 0 := by
    have h1 : (0 % 1 : Int) = (k : Int) := hk
    omega
  obtain rfl : x = u := by simpa using hu
  have hN7' : NetAt w7 w.heap.size (w.heap.size + 1) w.heap.size A7 c7 ⟨[x, u'], 2, 1, 0, 1, List.replicate 8 false⟩ := hN7
  have HE7 := Lib.hid (Fr.low (HE5.out.trans HE6.out) hF7 (fun i hi => (HN6.out.mut_lt hi).1))
  have HN7 := Lib.hid hN7'
  have n7 : ¬ mutN (w.heap.size + 1) w.heap.size A7 w5.heap.size := mut_next hA7 n5 hp6
  have HG7 := Lib.hid ((hF7.block w5.heap.size hp6 n5).trans HG6.out)
  have hp7 := heap_lt HG7.out
  clear hN7 hN7' hF7 hA7 hu hk huo
  go_wp2_with fail
  refine (cut_any w7 w.heap.size _ _ A7 c7 _ HN7.out 2 true).mono ?_
  rintro ev w8 ⟨n, off, rfl, hoff, A8, c8, hN8, hF8, hA8⟩
  obtain ⟨rfl, rfl⟩ := hoff ⟨by omega, by omega⟩
  have hN8' : NetAt w8 w.heap.size (w.heap.size + 1) w.heap.size A8 c8 ⟨[x, u'], 2, 1, 0, 1, [false, false, true, false, false, false, false, false]⟩ := hN8
  have HE8 := Lib.hid (Fr.low HE7.out hF8 (fun i hi => (HN7.out.mut_lt hi).1))
  have HN8 := Lib.hid hN8'
  have n8 : ¬ mutN (w.heap.size + 1) w.heap.size A8 w5.heap.size := mut_next hA8 n7 hp7
  have HG8 := Lib.hid ((hF8.block w5.heap.size hp7 n7).trans HG7.out)
  have hp8 := heap_lt HG8.out
  clear hN8 hN8' hF8 hA8 hoff
  go_wp2_with fail
  refine (take_any w8 w.heap.size _ _ A8 c8 _ HN8.out ⟨by simp, by simp, by simp, by simp, by simp⟩ hB (HG.out.ext HE8.out) 0).mono ?_
  rintro ev w9 (⟨h, _⟩ | ⟨k, u, hu, hk, (⟨_, rfl, A9, c9, hN9, hF9, hA9⟩ | ⟨hcut, _⟩)⟩)
  · cases h
  rotate_left
  · exfalso
    obtain rfl : k = 0 := by
      have h1 : (0 % 2 : Int) = (k : Int) := hk
      omega
    obtain rfl : x = u := by simpa using hu
    rw [hxf, hxt] at hcut
    change (cut [false, false, true, false, false, false, false, false] 1 || cut [false, false, true, false, false, false, false, false] 2) = false at hcut
    exact absurd hcut (by decide)
  obtain rfl : k = 0 := by
    have h1 : (0 % 2 : Int) = (k : Int) := hk
    omega
  obtain rfl : x = u := by simpa using hu
  have hN9' : NetAt w9 w.heap.size (w.heap.size + 1) w.heap.size A9 c9 ⟨[u'], 2, 1, 1, 1, [false, false, true, false, false, false, false, false]⟩ := hN9
  have HE9 := Lib.hid (Fr.low HE8.out hF9 (fun i hi => (HN8.out.mut_lt hi).1))
  have HN9 := Lib.hid hN9'
  have HG9 := Lib.hid ((hF9.block w5.heap.size hp8 n8).trans HG8.out)
  have hp9 := heap_lt HG9.out
  clear hN9 hN9' hF9 hA9 hu hk
  have HC := Lib.hid (fun w' (h : Ext w9 w') => show Calls Tryz.prog 18 #[.pointer (some ⟨w.heap.size + 1, 0, none⟩)] w' (fun e w'' => e = .returned (.agg #[.int .i64 1, .int .i64 2, .int .i64 1, .int .i64 1, .int .i64 1]) ∧ Ext w' w'') from count_any w' w.heap.size _ _ A9 c9 _ (HN9.out.ext h))
  go_wp2_with (refine wpList_store_all rfl _ _ rfl rfl w9.heap.size voteZ _ rfl rfl (heap_alloc_new w9 _) (by simp) ?_; intro w10 hG10 hF10; have HE10 := Lib.hid (show Ext w9 w10 from ((Fr.ofExt (isB w9.heap.size) ((Ext.refl w9).alloc _)).trans hF10 (fun _ _ h => h)).toExt (fun i hi => by unfold isB at hi; omega)); have d3 : w10.cell? ⟨w5.heap.size, 3, none⟩ = some (.int .i64 2) := (by rw [cell_of_heap (HE10.out.blk HG9.out)]; simp [Let.arr, hym]); clear hG10 hF10)
  refine (HC.out _ HE10.out).mono ?_
  rintro ev w11 ⟨rfl, hE11⟩
  go_wp2_with fail
  go_ret
  exact ⟨rfl, (HE9.out.trans HE10.out).trans hE11⟩
end Go.Proofs.YtigljihohpdpeaaGreatDoor
