/-
  Look.
  awake: the chapter's example.
  Letters without rows.
-/
import Derived.Test.YtjnllilmimngoaaGreatDoorM18
import Derived.Test.YtjnllilmimngoaaGreatDoorM19
namespace Go.Proofs.YtjnllilmimngoaaGreatDoor
open Go.RowKit

/-- Letters in memory of their own, from block B on. -/
structure NewLets (B : Nat) (w : World) (A : Option Addr) (c : Nat) (ms : List Let) : Prop where
  o : OwnW 23 w B 35 A ms.length c (flat ms)
  h : ∀ m ∈ ms, Held (fun i => i < B ∨ blk A i) w m
  t : ∀ m ∈ ms, m.tight
theorem NewLets.ext {B : Nat} {w w' : World} {A : Option Addr} {c : Nat} {ms : List Let} (h : NewLets B w A c ms) (he : Ext w w') : NewLets B w' A c ms := ⟨h.o.ext he, fun m hm => (h.h m hm).ext he, h.t⟩
theorem NewLets.lets {B : Nat} {w : World} {A : Option Addr} {c : Nat} {ms : List Let} (h : NewLets B w A c ms) : LetsIn w A ms := LetsIn.own h.o fun m hm => (h.h m hm).i
def LookP (us : List Let) (w : World) (e : Ending) (w' : World) : Prop := ∃ A c ms, e = .returned (.slice A us.length c) ∧ ms.map Let.cont = us.map Let.cont ∧ NewLets w.heap.size w' A c ms ∧ Ext w w'
def LookRel (us : List Let) (w : World) (v i : Value) (wr : World) : Prop :=
  ∃ (k : Nat) (A : Option Addr) (c : Nat) (ms : List Let), k ≤ us.length ∧ i = .int .i64 k ∧ v = .slice A k c ∧ ms.length = k ∧ ms.map Let.cont = (us.take k).map Let.cont ∧ NewLets w.heap.size wr A c ms ∧ Ext w wr
theorem wpList_buildL {ops : Array Oper} {rest : List Oper} {o : Oper} {a : Act} {w : World} {Q : Exit → Act → World → Prop} (hgd : o.guard = none) (x : Operand) (l : Let)
    (ho : o.op = .buildSlice 22 1 #[(0, x)]) (hx : a.eval x = l.v)
    (h : wpList Tryz.prog ops Q rest (a.put o.dst (.slice (some ⟨w.heap.size, 0, none⟩) 1 1)) (w.alloc (.cells l.arr 35))) : wpList Tryz.prog ops Q (o :: rest) a w := by
  refine wpList_plain hgd fun K hK => ?_
  have hV : l.v = .agg l.arr := rfl
  rw [hV] at hx
  unfold Oper.wp execOp
  simp only [ho, hx, List.map_toArray, List.map_cons, List.map_nil]
  have hb := buildL l
  go_simp
  rw [← hb] at h
  exact hK _ _ h
set_option maxRecDepth 100000 in
set_option maxHeartbeats 4000000 in
theorem look_any (w : World) (B nb bb : Nat) (A : Option Addr) (c : Nat) (s : NetS) (hN : NetAt w B nb bb A c s) (hf : s.us.length ≤ 10000) :
    Calls Tryz.prog 15 #[.pointer (some ⟨nb, 0, none⟩)] w (LookP s.us w) := by
  have HT := Lib.hid (there_any nb bb s.off w hN.n1)
  have c0 := net_c0 hN.n1
  have b0 := bag_c0 hN.b1
  have HN := Lib.hid hN
  clear hN
  go_enter Tryz.func15, Tryz.ntmps15
  go_wp2_with fail
  refine (HT.out).mono ?_
  rintro ev w1 ⟨rfl, rfl⟩
  go_wp2_with fail
  go_loopw [2, 16] (fun v i wr => LookRel s.us w v i wr) (fun _ i _ => s.us.length - (intOf i).toNat)
  case atStart => exact ⟨0, none, 0, [], Nat.zero_le _, rfl, rfl, rfl, rfl, ⟨OwnW.nil _ _ _ _, fun m hm => by simp at hm, fun m hm => by simp at hm⟩, Ext.refl _⟩
  case round =>
    obtain ⟨k, A1, c1, ms, hk, rfl, rfl, hml, hmc, hNL, hE⟩ := hrel
    have HE := Lib.hid hE
    have HNL := Lib.hid hNL
    have HMC := Lib.hid hmc
    clear hE hNL hmc
    by_cases hlt : k < s.us.length
    · obtain ⟨g, f, u, rfl, hu, hr, _⟩ := (HN.out.ext HE.out).lets.at_ hlt
      have HH := Lib.hid ((HN.out.u2 u (List.mem_of_getElem? hu)).ext HE.out)
      have HTK := Lib.hid (take_snoc' hu)
      clear hu
      go_wp2_with (first | (refine wpList_load_letAt rfl _ rfl g (f + k * 23) u (by simp [Act.eval, Act.put]) hr ?_) | (refine wpList_load_letAt rfl _ rfl wr.heap.size 0 u rfl (range_heap HG5.out) ?_) | (refine wpList_store_all rfl _ _ rfl rfl wr.heap.size u _ rfl rfl (heap_alloc_new wr _) (by simp) ?_; intro w5 hG5 hF5; have HG5 := Lib.hid hG5; have HF5 := Lib.hid hF5; clear hG5 hF5))
      have HE5 := Lib.hid (show Ext wr w5 from ((Fr.ofExt (isB wr.heap.size) ((Ext.refl wr).alloc _)).trans HF5.out (fun _ _ h => h)).toExt (fun i hi => by unfold isB at hi; omega))
      refine (own_any u w5 (HH.out.i.ext HE5.out) HH.out.s).mono ?_
      rintro ev w6 ⟨u', rfl, huc, hui, huo, hE6⟩
      have HE6 := Lib.hid (HE5.out.trans hE6)
      have hsz := HE5.out.sz
      have hsz6 := hE6.sz
      have hW := HE.out.sz
      have HE7 := Lib.hid ((HE6.out).alloc (.cells u'.arr 35))
      have HNL7 := Lib.hid (HNL.out.ext HE7.out)
      have HU := Lib.hid (And.intro huc (And.intro (hui.ext ((Ext.refl w6).alloc (.cells u'.arr 35))) huo))
      have hO := HNL7.out.o
      have hr7 : Rd (w6.alloc (.cells u'.arr 35)) (some ⟨w6.heap.size, 0, none⟩) (flat [u']) := fun j v hj => ⟨_, rfl, by
        rw [add_lit', Nat.zero_add, cell_of_heap (heap_alloc_new w6 _)]
        simpa [flat] using hj⟩
      clear hr huc hui huo hE6
      go_wp2_with (first | (refine wpList_buildL rfl _ u' rfl rfl ?_) | (at_builtin; refine appendLets _ rfl _ _ rfl w.heap.size A1 _ c1 ms rfl hml.symm hO _ 1 1 [u'] rfl rfl hr7 (by simp only [List.length_cons, List.length_nil]; omega) (by rw [World.size_alloc]; omega) ?_; intro A3 c3 w3 hO3 hF3 hA3))
      go_roundw
      case rel =>
        refine ⟨k + 1, A3, c3, ms ++ [u'], by omega, by go_num, by simp, by simp [hml], by rw [HTK.out, List.map_append, List.map_append, HMC.out]; simp [HU.out.1], ⟨hO3, fun m hm => ?_, fun m hm => ?_⟩, ownW_fresh hO (HE.out.trans HE7.out) hF3⟩
        rotate_left
        · rcases List.mem_append.1 hm with hm | hm
          · exact HNL7.out.t m hm
          · simp at hm
            subst hm
            exact HU.out.2.2.2
        have hA1 : ∀ i, blk A1 i → i < wr.heap.size := fun i hi => (HNL.out.o.lt hi).2
        rcases List.mem_append.1 hm with hm | hm
        · refine (HNL7.out.h m hm).fr (hF3.mono fun i _ t => .inr t) fun i hi h => ?_
          rcases h with h | h
          · exact .inl h
          · rcases hA3 i h with h | h
            · exact .inr h
            · omega
        · simp at hm
          subst hm
          refine ⟨HU.out.2.1.fr hF3 (HU.out.2.2.1.sub fun i hi => Nat.lt_of_lt_of_le (hA1 i hi) hsz), HU.out.2.2.1.new HU.out.2.1 fun i hi h => ?_, small_cont HU.out.1 HH.out.s⟩
          rcases h with h | h
          · omega
          · rcases hA3 i h with h | h
            · exact Nat.lt_of_lt_of_le (hA1 i h) hsz
            · omega
      case measure => simp [intOf]; omega
    · obtain rfl : k = s.us.length := by omega
      go_wp2
      go_ret
      exact ⟨A1, c1, ms, rfl, by rw [HMC.out, List.take_length], HNL.out, HE.out⟩
end Go.Proofs.YtjnllilmimngoaaGreatDoor
namespace Go.Proofs.YtjnllilmimngoaaGreatDoor
open Go.RowKit

theorem vote_in (f t m : Int) (w : World) : (voteL f t m).inW w :=
  ⟨fun j p h => by simp [voteL] at h, fun j p h => by simp [voteL] at h, fun j p h => by simp [voteL] at h, fun j p h => by simp [voteL] at h, fun j p h => by simp [voteL] at h, by simp [voteL], by simp [voteL], by simp [voteL], by simp [voteL], by simp [voteL], fun x h => by simp [voteL] at h⟩
theorem vote_off (f t m : Int) (S : Nat → Prop) : (voteL f t m).off S :=
  ⟨fun h => absurd rfl h, fun h => absurd rfl h, fun e h => by simp [voteL] at h, fun h => absurd rfl h, fun h => absurd rfl h, fun h => absurd rfl h⟩
theorem vote_held (f t m : Int) (M : Nat → Prop) (w : World) : Held M w (voteL f t m) :=
  ⟨vote_in f t m w, vote_off f t m M, by simp [voteL], by simp [voteL], fun e h => by simp [voteL] at h, by simp [voteL], by simp [voteL], by simp [voteL]⟩
theorem right_v1 : rightL (voteL 1 2 1) = true := by decide +kernel
theorem right_v2 : rightL (voteL 1 3 2) = true := by decide +kernel
theorem two_cont {ms : List Let} {a b : Let} (h : ms.map Let.cont = [a, b].map Let.cont) : ∃ x y, ms = [x, y] ∧ x.cont = a.cont ∧ y.cont = b.cont := by
  match ms, h with
  | [x, y], h =>
    simp only [List.map_cons, List.map_nil, List.cons.injEq, and_true] at h
    exact ⟨x, y, rfl, h.1, h.2⟩
  | [], h => cases h
  | [x], h => simp at h
  | x :: y :: z :: r, h => simp at h
theorem run_buildV2 (w : World) : (Instr.buildSlice 22 2 #[(0, (voteL 1 2 1).v), (1, (voteL 1 3 2).v)]).run Tryz.prog w = .ok (.slice (some ⟨w.heap.size, 0, none⟩) 2 2) (w.alloc (.cells ((voteL 1 2 1).arr ++ (voteL 1 3 2).arr) 35)) := by
  kernel_rfl
theorem wpList_buildV2 {ops : Array Oper} {rest : List Oper} {o : Oper} {a : Act} {w : World} {Q : Exit → Act → World → Prop} (hgd : o.guard = none) (x y : Operand)
    (ho : o.op = .buildSlice 22 2 #[(0, x), (1, y)]) (hx : a.eval x = (voteL 1 2 1).v) (hy : a.eval y = (voteL 1 3 2).v)
    (h : wpList Tryz.prog ops Q rest (a.put o.dst (.slice (some ⟨w.heap.size, 0, none⟩) 2 2)) (w.alloc (.cells ((voteL 1 2 1).arr ++ (voteL 1 3 2).arr) 35))) : wpList Tryz.prog ops Q (o :: rest) a w := by
  refine wpList_plain hgd fun K hK => ?_
  unfold Oper.wp execOp
  simp only [ho, List.map_toArray, List.map_cons, List.map_nil, hx, hy, Sem.run_bind, Sem.run_pure, Result.andThen_ok, run_buildV2]
  exact hK _ _ h
theorem cut_none (i : Int) : cut (List.replicate 8 false) i = false := by
  unfold cut
  rw [List.getD_eq_getElem?_getD, List.getElem?_replicate]
  split <;> rfl
theorem mut_next {nb bb p N : Nat} {A A' : Option Addr} (hA : ∀ i, blk A' i → blk A i ∨ N ≤ i) (hn : ¬ mutN nb bb A p) (hp : p < N) : ¬ mutN nb bb A' p := fun h => by
  rcases h with h | h | h
  · exact hn (.inl h)
  · exact hn (.inr (.inl h))
  · rcases hA p h with h | h
    · exact hn (.inr (.inr h))
    · omega
theorem Fr.low {S : Nat → Prop} {w w1 w2 : World} (hE : Ext w w1) (hF : Fr S w1 w2) (hS : ∀ i, S i → w.heap.size ≤ i) : Ext w w2 := ((Fr.ofExt S hE).trans hF (fun _ _ t => t)).toExt hS
set_option maxRecDepth 100000 in
set_option maxHeartbeats 4000000 in
theorem awake_any (w : World) (hg : ErrT w) : Calls Tryz.prog 8 #[] w fun e w' => e = .returned (.bool true) ∧ Ext w w' := by
  have hB : 0 < w.heap.size := World.block_lt_of_cell? w _ hg
  have HG := Lib.hid hg
  clear hg
  go_enter Tryz.func8, Tryz.ntmps8
  go_wp2_with fail
  refine (new_any w).mono ?_
  rintro ev w1 ⟨rfl, hN1, hE1⟩
  go_wp2_with fail
  refine (vote_any 1 2 1 w1).mono ?_
  rintro ev w2 ⟨rfl, hE2⟩
  go_wp2_with fail
  refine (vote_any 1 3 2 w2).mono ?_
  rintro ev w3 ⟨rfl, hE3⟩
  have HE3 := Lib.hid (((hE1.trans hE2).trans hE3).alloc (.cells ((voteL 1 2 1).arr ++ (voteL 1 3 2).arr) 35))
  have hN3 := hN1.ext ((hE2.trans hE3).alloc (.cells ((voteL 1 2 1).arr ++ (voteL 1 3 2).arr) 35))
  have h3 := heap_alloc_new w3 (.cells ((voteL 1 2 1).arr ++ (voteL 1 3 2).arr) 35)
  have hL : LetsIn (w3.alloc (.cells ((voteL 1 2 1).arr ++ (voteL 1 3 2).arr) 35)) (some ⟨w3.heap.size, 0, none⟩) [voteL 1 2 1, voteL 1 3 2] := LetsIn.of (fun j v hv => ⟨_, rfl, by
    rw [add_lit', Nat.zero_add, cell_of_heap h3]
    rw [← Array.getElem?_toList, Array.toList_append]
    simpa [flat] using hv⟩) (fun l hl => by
    simp at hl
    rcases hl with rfl | rfl <;> exact vote_in _ _ _ _)
  have hsz := ((hE1.trans hE2).trans hE3).sz
  have HS := Lib.hid (send_any _ w.heap.size (w.heap.size + 1) w.heap.size none 0 NetS.zero hN3 ⟨by simp [NetS.zero], by simp [NetS.zero], by simp [NetS.zero], by simp [NetS.zero], by simp [NetS.zero]⟩ hB HE3.out.sz (HG.out.ext HE3.out) (some ⟨w3.heap.size, 0, none⟩) 2 [voteL 1 2 1, voteL 1 3 2] hL (by simp)
    (fun _ ad ha hm => by
      injection ha with ha
      subst ha
      have := (hN1.mut_lt hm).2
      have h4 := (hE2.trans hE3).sz
      simp only at this
      omega) (fun l hl => by
      simp at hl
      rcases hl with rfl | rfl <;> exact vote_held _ _ _ _ _))
  have hlow : ∀ i, mutN (w.heap.size + 1) w.heap.size none i → w.heap.size ≤ i := fun i hi => (hN1.mut_lt hi).1
  clear hN1 hE1 hE2 hE3 hN3 h3 hL
  go_wp2_with (refine wpList_buildV2 rfl _ _ rfl rfl rfl ?_)
  refine (HS.out).mono ?_
  rintro ev w4 (⟨h, _⟩ | ⟨_, h, _⟩ | ⟨_, _, rfl, ms, hms, _, A4, c4, hN4, hF4, hA4⟩)
  · exfalso
    simp only [List.all_cons, List.all_nil, right_v1, right_v2] at h
    cases h
  · exfalso
    have h2 : 10000 < 0 + 2 := h
    omega
  obtain ⟨x, y, rfl, hx, hy⟩ := two_cont hms
  obtain ⟨hx1, _⟩ := Let.cont_fields hx
  obtain ⟨hy1, _⟩ := Let.cont_fields hy
  have hxf : x.frm = 1 := by rw [hx1]; rfl
  have hxt : x.too = 2 := by rw [hx1]; rfl
  have hyf : y.frm = 1 := by rw [hy1]; rfl
  have hyt : y.too = 3 := by rw [hy1]; rfl
  have hym : y.term = 2 := by rw [hy1]; rfl
  clear hx1 hy1 hx hy hms
  have hN4' : NetAt w4 w.heap.size (w.heap.size + 1) w.heap.size A4 c4 ⟨[x, y], 2, 0, 0, 0, List.replicate 8 false⟩ := hN4
  have HN4 := Lib.hid hN4'
  have HE4 := Lib.hid (Fr.low HE3.out hF4 hlow)
  clear hN4 hN4' hF4 hA4 hlow
  go_wp2_with fail
  refine (take_any w4 w.heap.size _ _ A4 c4 _ HN4.out ⟨by simp, by simp, by simp, by simp, by simp⟩ hB (HG.out.ext HE4.out) 3).mono ?_
  rintro ev w5 (⟨h, _⟩ | ⟨k, u, hu, hk, (⟨hcut, _⟩ | ⟨_, rfl, A5, c5, hN5, hF5, hA5⟩)⟩)
  · cases h
  · rw [cut_none, cut_none] at hcut
    cases hcut
  obtain rfl : k = 1 := by
    have h1 : (3 % 2 : Int) = (k : Int) := hk
    omega
  obtain rfl : y = u := by simpa using hu
  have hN5' : NetAt w5 w.heap.size (w.heap.size + 1) w.heap.size A5 c5 ⟨[x], 2, 1, 0, 0, List.replicate 8 false⟩ := hN5
  have HE5 := Lib.hid (Fr.low HE4.out hF5 (fun i hi => (HN4.out.mut_lt hi).1))
  have HN5 := Lib.hid hN5'
  have n5 : ¬ mutN (w.heap.size + 1) w.heap.size A5 w5.heap.size := fun h => by have := (hN5'.mut_lt h).2; omega
  clear hN5 hN5' hF5 hA5 hu hk
  go_wp2_with (refine wpList_store_all rfl _ _ rfl rfl w5.heap.size y _ rfl rfl (heap_alloc_new w5 _) (by simp) ?_; intro w6 hG6 hF6; have HG6 := Lib.hid hG6; have HF6 := Lib.hid hF6; clear hG6 hF6)
  have HE6 := Lib.hid (show Ext w5 w6 from ((Fr.ofExt (isB w5.heap.size) ((Ext.refl w5).alloc _)).trans HF6.out (fun _ _ h => h)).toExt (fun i hi => by unfold isB at hi; omega))
  have HN6 := Lib.hid (HN5.out.ext HE6.out)
  have hp6 := heap_lt HG6.out
  refine (copy_any w6 w.heap.size _ _ A5 c5 _ HN6.out ⟨by simp, by simp, by simp, by simp, by simp⟩ hB (HE5.out.trans HE6.out).sz (HG.out.ext (HE5.out.trans HE6.out)) 0).mono ?_
  rintro ev w7 (⟨h, _⟩ | ⟨h, _⟩ | ⟨k, u, u', _, hu, hk, huc, huo, rfl, A7, c7, hN7, hF7, hA7⟩)
  · cases h
  · exfalso
    have h2 : 1 = 10000 := h
    omega
  obtain rfl : k = 0 := by
    have h1 : (0 % 1 : Int) = (k : Int) := hk
    omega
  obtain rfl : x = u := by simpa using hu
  have hN7' : NetAt w7 w.heap.size (w.heap.size + 1) w.heap.size A7 c7 ⟨[x, u'], 2, 1, 0, 1, List.replicate 8 false⟩ := hN7
  have HE7 := Lib.hid (Fr.low (HE5.out.trans HE6.out) hF7 (fun i hi => (HN6.out.mut_lt hi).1))
  have HN7 := Lib.hid hN7'
  have n7 : ¬ mutN (w.heap.size + 1) w.heap.size A7 w5.heap.size := mut_next hA7 n5 hp6
  have HG7 := Lib.hid ((hF7.block w5.heap.size hp6 n5).trans HG6.out)
  have hp7 := heap_lt HG7.out
  clear hN7 hN7' hF7 hA7 hu hk huo
  go_wp2_with fail
  refine (cut_any w7 w.heap.size _ _ A7 c7 _ HN7.out 2 true).mono ?_
  rintro ev w8 ⟨n, off, rfl, hoff, -, A8, c8, hN8, hF8, hA8⟩
  obtain ⟨rfl, rfl⟩ := hoff ⟨by omega, by omega⟩
  have hN8' : NetAt w8 w.heap.size (w.heap.size + 1) w.heap.size A8 c8 ⟨[x, u'], 2, 1, 0, 1, [false, false, true, false, false, false, false, false]⟩ := hN8
  have HE8 := Lib.hid (Fr.low HE7.out hF8 (fun i hi => (HN7.out.mut_lt hi).1))
  have HN8 := Lib.hid hN8'
  have n8 : ¬ mutN (w.heap.size + 1) w.heap.size A8 w5.heap.size := mut_next hA8 n7 hp7
  have HG8 := Lib.hid ((hF8.block w5.heap.size hp7 n7).trans HG7.out)
  have hp8 := heap_lt HG8.out
  clear hN8 hN8' hF8 hA8 hoff
  go_wp2_with fail
  refine (take_any w8 w.heap.size _ _ A8 c8 _ HN8.out ⟨by simp, by simp, by simp, by simp, by simp⟩ hB (HG.out.ext HE8.out) 0).mono ?_
  rintro ev w9 (⟨h, _⟩ | ⟨k, u, hu, hk, (⟨_, rfl, A9, c9, hN9, hF9, hA9⟩ | ⟨hcut, _⟩)⟩)
  · cases h
  rotate_left
  · exfalso
    obtain rfl : k = 0 := by
      have h1 : (0 % 2 : Int) = (k : Int) := hk
      omega
    obtain rfl : x = u := by simpa using hu
    rw [hxf, hxt] at hcut
    change (cut [false, false, true, false, false, false, false, false] 1 || cut [false, false, true, false, false, false, false, false] 2) = false at hcut
    exact absurd hcut (by decide)
  obtain rfl : k = 0 := by
    have h1 : (0 % 2 : Int) = (k : Int) := hk
    omega
  obtain rfl : x = u := by simpa using hu
  have hN9' : NetAt w9 w.heap.size (w.heap.size + 1) w.heap.size A9 c9 ⟨[u'], 2, 1, 1, 1, [false, false, true, false, false, false, false, false]⟩ := hN9
  have HE9 := Lib.hid (Fr.low HE8.out hF9 (fun i hi => (HN8.out.mut_lt hi).1))
  have HN9 := Lib.hid hN9'
  have HG9 := Lib.hid ((hF9.block w5.heap.size hp8 n8).trans HG8.out)
  have hp9 := heap_lt HG9.out
  clear hN9 hN9' hF9 hA9 hu hk
  have HC := Lib.hid (fun w' (h : Ext w9 w') => show Calls Tryz.prog 19 #[.pointer (some ⟨w.heap.size + 1, 0, none⟩)] w' (fun e w'' => e = .returned (.agg #[.int .i64 1, .int .i64 2, .int .i64 1, .int .i64 1, .int .i64 1]) ∧ Ext w' w'') from count_any w' w.heap.size _ _ A9 c9 _ (HN9.out.ext h))
  go_wp2_with (refine wpList_store_all rfl _ _ rfl rfl w9.heap.size voteZ _ rfl rfl (heap_alloc_new w9 _) (by simp) ?_; intro w10 hG10 hF10; have HE10 := Lib.hid (show Ext w9 w10 from ((Fr.ofExt (isB w9.heap.size) ((Ext.refl w9).alloc _)).trans hF10 (fun _ _ h => h)).toExt (fun i hi => by unfold isB at hi; omega)); have d3 : w10.cell? ⟨w5.heap.size, 3, none⟩ = some (.int .i64 2) := (by rw [cell_of_heap (HE10.out.blk HG9.out)]; simp [Let.arr, hym]); clear hG10 hF10)
  refine (HC.out _ HE10.out).mono ?_
  rintro ev w11 ⟨rfl, hE11⟩
  go_wp2_with fail
  go_ret
  exact ⟨rfl, (HE9.out.trans HE10.out).trans hE11⟩
end Go.Proofs.YtjnllilmimngoaaGreatDoor
namespace Go.Proofs.YtjnllilmimngoaaGreatDoor
open Go.RowKit

/-- A letter without rows. -/
structure Let.light (l : Let) : Prop where
  w : l.want = []
  e : l.ents = []
  m : l.mems = []
  u : l.sums = []
  b : l.bs = []
theorem Let.light.inW {l : Let} (h : l.light) (w : World) : l.inW w :=
  ⟨fun j p hj => by rw [h.w] at hj; simp at hj, fun j p hj => by rw [h.e] at hj; simp at hj, fun j p hj => by rw [h.m] at hj; simp at hj, fun j p hj => by rw [h.u] at hj; simp at hj, fun j p hj => by rw [h.b] at hj; simp at hj,
    by rw [h.w]; simp, by rw [h.e]; simp, by rw [h.m]; simp, by rw [h.u]; simp, by rw [h.b]; simp, fun x hx => by rw [h.u] at hx; simp at hx⟩
theorem Let.light.off {l : Let} (h : l.light) (S : Nat → Prop) : l.off S :=
  ⟨fun k => absurd h.w k, fun k => absurd h.e k, fun e k => by rw [h.e] at k; simp at k, fun k => absurd h.m k, fun k => absurd h.u k, fun k => absurd h.b k⟩
theorem Let.light.small {l : Let} (h : l.light) : l.small :=
  ⟨by rw [h.w]; simp, by rw [h.e]; simp, fun e k => by rw [h.e] at k; simp at k, by rw [h.m]; simp, by rw [h.u]; simp, by rw [h.b]; simp⟩
theorem Let.light.held {l : Let} (h : l.light) (M : Nat → Prop) (w : World) : Held M w l := ⟨h.inW w, h.off M, h.small⟩
theorem light_cont {l l' : Let} (h : l'.cont = l.cont) (hl : l.light) : l'.light := by
  obtain ⟨h1, h2⟩ := Let.cont_fields h
  have q1 : l'.want = l.want := by rw [h1]
  have q2 : l'.mems = l.mems := by rw [h1]
  have q3 : l'.sums = l.sums := by rw [h1]
  have q4 : l'.bs = l.bs := by rw [h1]
  rw [hl.e] at h2
  exact ⟨q1.trans hl.w, by simpa using h2, q2.trans hl.m, q3.trans hl.u, q4.trans hl.b⟩
theorem light_all {ls ms : List Let} (h : ms.map Let.cont = ls.map Let.cont) (hl : ∀ l ∈ ls, l.light) : ∀ m ∈ ms, m.light := fun m hm => by
  have h1 : m.cont ∈ ls.map Let.cont := by rw [← h]; exact List.mem_map_of_mem hm
  obtain ⟨l, hl1, he⟩ := List.mem_map.1 h1
  exact light_cont he.symm (hl l hl1)
theorem vote_light (f t m : Int) : (voteL f t m).light := ⟨rfl, rfl, rfl, rfl, rfl⟩
/-- light letters in a row of their own. -/
theorem LetsIn.light {w : World} {B c n : Nat} {e : TypeId} {A : Option Addr} {ls : List Let} (h : OwnW 23 w B e A n c (flat ls)) (hl : ∀ l ∈ ls, l.light) : LetsIn w A ls := LetsIn.own h fun l h' => (hl l h').inW w
end Go.Proofs.YtjnllilmimngoaaGreatDoor
