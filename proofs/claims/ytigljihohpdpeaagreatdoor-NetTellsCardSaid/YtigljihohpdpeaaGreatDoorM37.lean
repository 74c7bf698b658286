/-
  Drop.
  Take.
-/
import Derived.Test.YtigljihohpdpeaaGreatDoorM36
namespace Go.Proofs.YtigljihohpdpeaaGreatDoor
open Go.RowKit

theorem ErrT.fr {S : Nat → Prop} {w w' : World} (h : ErrT w) (hf : Fr S w w') (h0 : ¬ S 0) : ErrT w' := hf.cell h0 h
theorem NetAt.mut0 {w : World} {B nb bb : Nat} {A : Option Addr} {c : Nat} {s : NetS} (h : NetAt w B nb bb A c s) (hB : 0 < B) : ¬ mutN nb bb A 0 := fun e => by
  have := (h.mut_lt e).1
  omega
theorem NetStep.after {w w1 w2 : World} {B nb bb : Nat} {A : Option Addr} {s' : NetS} (h : NetStep w B nb bb A s' w1) (he : Ext w1 w2) : NetStep w B nb bb A s' w2 := by
  obtain ⟨A', c', h1, h2, h3⟩ := h
  exact ⟨A', c', h1.ext he, h2.then he, h3⟩
theorem NetStep.before {w w1 w2 : World} {B nb bb : Nat} {A : Option Addr} {s' : NetS} (he : Ext w w1) (h : NetStep w1 B nb bb A s' w2) : NetStep w B nb bb A s' w2 := by
  obtain ⟨A', c', h1, h2, h3⟩ := h
  exact ⟨A', c', h1, (Fr.ofExt _ he).trans h2 (fun _ _ t => t), fun i hi => (h3 i hi).imp id fun h => Nat.le_trans he.sz h⟩
theorem bag_ck {w : World} {bb n c : Nat} {A : Option Addr} {s g l t : Int} {ty : TypeId} (h : w.heap[bb]? = some (.cells (bagA A n c s g l t) ty)) : w.cell? ⟨bb, 2, none⟩ = some (.int .i64 s) ∧ w.cell? ⟨bb, 3, none⟩ = some (.int .i64 g) ∧ w.cell? ⟨bb, 4, none⟩ = some (.int .i64 l) ∧ w.cell? ⟨bb, 5, none⟩ = some (.int .i64 t) := by
  refine ⟨?_, ?_, ?_, ?_⟩ <;> (rw [cell_of_heap h]; rfl)
def DropP (w : World) (B nb bb : Nat) (A : Option Addr) (s : NetS) (i : Int) (e : Ending) (w' : World) : Prop :=
  (s.us = [] ∧ e = .returned (.int .i64 7) ∧ Ext w w') ∨
  ∃ (k : Nat) (u : Let), s.us[k]? = some u ∧ (i % (s.us.length : Int)) = (k : Int) ∧ e = .returned (.int .i64 0) ∧ NetStep w B nb bb A { s with us := s.us.eraseIdx k, lost := s.lost + 1 } w'
set_option maxRecDepth 100000 in
set_option maxHeartbeats 4000000 in
theorem drop_any (w : World) (B nb bb : Nat) (A : Option Addr) (c : Nat) (s : NetS) (hN : NetAt w B nb bb A c s) (hf : s.fits) (hB : 0 < B) (hg : ErrT w) (i : Int) :
    Calls Tryz.prog 15 #[.pointer (some ⟨nb, 0, none⟩), .int .i64 i] w (DropP w B nb bb A s i) := by
  have HT := Lib.hid (there_any nb bb s.off w hN.n1)
  have HO := Lib.hid (out_any w B nb bb A c s hN hf.f1 i)
  have c0 := net_c0 hN.n1
  have HN := Lib.hid hN
  have HG := Lib.hid hg
  have HF := Lib.hid hf
  clear hN hg hf
  go_enter Tryz.func15, Tryz.ntmps15
  go_wp2_with fail
  refine (HT.out).mono ?_
  rintro ev w1 ⟨rfl, rfl⟩
  go_wp2_with fail
  refine (HO.out).mono ?_
  rintro ev w1 (⟨hu, rfl, hE1⟩ | ⟨k, u, hu, hk, rfl, A', c', hN1, hF1, hA1⟩)
  · unfold numN
    have HE1 := Lib.hid hE1
    clear hE1
    go_wp2_with (refine wpList_store_all rfl _ _ rfl rfl w1.heap.size voteZ _ rfl rfl (heap_alloc_new w1 _) (by simp) ?_; intro w5 hG5 hF5; have HF5 := Lib.hid hF5; clear hG5 hF5)
    have HE5 := Lib.hid (show Ext w w5 from ((Fr.ofExt (isB w1.heap.size) (HE1.out.alloc _)).trans HF5.out (fun _ _ h => h)).toExt (fun i hi => by have := HE1.out.sz; unfold isB at hi; omega))
    have HTD := Lib.hid (tolds_num 7 w5 (HG.out.ext HE5.out))
    unfold numN at HTD
    refine (HTD.out).mono ?_
    rintro ev w6 ⟨rfl, hE6⟩
    go_wp2_with fail
    go_ret
    exact .inl ⟨hu, rfl, HE5.out.trans hE6⟩
  · have HN1 := Lib.hid hN1
    have HF1 := Lib.hid hF1
    have HA1 := Lib.hid hA1
    have HU := Lib.hid hu
    have HK := Lib.hid hk
    have hl := HF.out.f4
    have x1 : IntKind.i64.wrap (s.lost + 1) = s.lost + 1 := IntWalk.i64_in _ (by omega)
    clear hN1 hF1 hA1 hu hk
    go_wp2_with (refine wpList_store_all rfl _ _ rfl rfl w1.heap.size u _ rfl rfl (heap_alloc_new w1 _) (by simp) ?_; intro w5 hG5 hF5; have hE5 : Ext w1 w5 := ((Fr.ofExt (isB w1.heap.size) ((Ext.refl w1).alloc _)).trans hF5 (fun _ _ h => h)).toExt (fun i hi => by unfold isB at hi; omega); have hN5 := HN1.out.ext hE5; have d0 := net_c0 hN5.n1; have d1 := bag_ck hN5.b1; have fz := frozen_of_heap hN5.b1; have HN5 := Lib.hid hN5; have HE5 := Lib.hid hE5; clear hG5 hF5 hN5 hE5)
    have hset : Fr (isB bb) w5 (w5.setCell ⟨bb, 4, none⟩ (.int .i64 (s.lost + 1))) := (Fr.refl (isB bb) w5).set (p := ⟨bb, 4, none⟩) (.inl rfl) _
    have hst := HN5.out.count (sent := s.sent) (gone := s.gone) (lost := s.lost + 1) (twice := s.twice) (by rw [heap_set HN5.out.b1]; rfl) hset
    refine (tolds_nil _).mono ?_
    rintro ev w6 ⟨rfl, hE6⟩
    go_wp2_with fail
    go_ret
    exact .inr ⟨k, u, HU.out, HK.out, rfl, A', c', hst.ext hE6, ((HF1.out.then HE5.out).trans hset (fun i _ t => .inr (.inl t))).then hE6, HA1.out⟩
end Go.Proofs.YtigljihohpdpeaaGreatDoor
namespace Go.Proofs.YtigljihohpdpeaaGreatDoor
open Go.RowKit

def TakeP (w : World) (B nb bb : Nat) (A : Option Addr) (s : NetS) (i : Int) (e : Ending) (w' : World) : Prop :=
  (s.us = [] ∧ e = .returned (.tuple #[voteZ.v, .int .i64 7]) ∧ Ext w w') ∨
  ∃ (k : Nat) (u : Let), s.us[k]? = some u ∧ (i % (s.us.length : Int)) = (k : Int) ∧
    (((cut s.off u.frm || cut s.off u.too) = true ∧ e = .returned (.tuple #[voteZ.v, .int .i64 11]) ∧ NetStep w B nb bb A { s with us := s.us.eraseIdx k, lost := s.lost + 1 } w') ∨
     ((cut s.off u.frm || cut s.off u.too) = false ∧ e = .returned (.tuple #[u.v, .int .i64 0]) ∧ NetStep w B nb bb A { s with us := s.us.eraseIdx k, gone := s.gone + 1 } w'))
set_option maxRecDepth 100000 in
set_option maxHeartbeats 4000000 in
theorem take_any (w : World) (B nb bb : Nat) (A : Option Addr) (c : Nat) (s : NetS) (hN : NetAt w B nb bb A c s) (hf : s.fits) (hB : 0 < B) (hg : ErrT w) (i : Int) :
    Calls Tryz.prog 9 #[.pointer (some ⟨nb, 0, none⟩), .int .i64 i] w (TakeP w B nb bb A s i) := by
  have hE := (Ext.refl w).alloc (.cells voteZ.arr 44)
  have HT := Lib.hid (there_any nb bb s.off _ (hN.ext hE).n1)
  have HO := Lib.hid (out_any _ B nb bb A c s (hN.ext hE) hf.f1 i)
  have c0 := net_c0 (hN.ext hE).n1
  have HG0 := Lib.hid (heap_alloc_new w (.cells voteZ.arr 44))
  have HN := Lib.hid hN
  have HG := Lib.hid hg
  have HF := Lib.hid hf
  have HE := Lib.hid hE
  clear hN hg hf hE
  go_enter Tryz.func9, Tryz.ntmps9
  go_wp2_with fail
  refine (HT.out).mono ?_
  rintro ev w1 ⟨rfl, rfl⟩
  go_wp2_with fail
  refine (HO.out).mono ?_
  rintro ev w1 (⟨hu, rfl, hE1⟩ | ⟨k, u, hu, hk, rfl, A', c', hN1, hF1, hA1⟩)
  · unfold numN
    have HE1 := Lib.hid (HE.out.trans hE1)
    have hg1 := hE1.blk HG0.out
    clear hE1
    have HI := Lib.hid (fun w => Is_num7 w)
    have HTD := Lib.hid (fun w => tolds_num 7 w)
    unfold numN at HI HTD
    go_wp2_with (refine wpList_store_all rfl _ _ rfl rfl w1.heap.size voteZ _ rfl rfl (heap_alloc_new w1 _) (by simp) ?_; intro w5 hG5 hF5; have HF5 := Lib.hid hF5; clear hG5 hF5)
    have hE15 : Ext w1 w5 := ((Fr.ofExt (isB w1.heap.size) ((Ext.refl w1).alloc _)).trans HF5.out (fun _ _ h => h)).toExt (fun i hi => by unfold isB at hi; omega)
    have HE5 := Lib.hid (HE1.out.trans hE15)
    have hg5 := hE15.blk hg1
    clear hE15
    refine (HI.out _).mono ?_
    rintro ev w6 ⟨rfl, hE6⟩
    have HE6 := Lib.hid (HE5.out.trans hE6)
    have hg6 := hE6.blk hg5
    clear hE6
    go_wp2_with fail
    refine (HTD.out _ (HG.out.ext HE6.out)).mono ?_
    rintro ev w7 ⟨rfl, hE7⟩
    have HE7 := Lib.hid (HE6.out.trans hE7)
    have hg7 := hE7.blk hg6
    clear hE7
    go_wp2_with (refine wpList_store_all rfl _ _ rfl rfl w.heap.size voteZ _ rfl rfl hg7 (by simp [Let.arr]) ?_; intro w8 hG8 hF8; have HF8 := Lib.hid hF8; have HG8 := Lib.hid hG8; clear hG8 hF8)
    exact bodyPost_ret (v := .tuple #[voteZ.v, .int .i64 7]) (results_let Tryz.results9 _ _ _ voteZ _ rfl rfl HG8.out) rfl (.inl ⟨hu, rfl, ((Fr.ofExt (isB w.heap.size) HE7.out).trans HF8.out (fun _ _ h => h)).toExt (fun i hi => by unfold isB at hi; omega)⟩)
  · have HN1 := Lib.hid hN1
    have HF1 := Lib.hid hF1
    have HA1 := Lib.hid hA1
    have HU := Lib.hid hu
    have HK := Lib.hid hk
    have hmem := List.mem_of_getElem? hu
    have hends := right_ends (HN.out.u3 u hmem)
    have hrb : ¬ mutN nb bb A w.heap.size := fun h => by have := (HN.out.mut_lt h).2; omega
    have hg1 := (hF1.block w.heap.size (heap_lt HG0.out) hrb).trans HG0.out
    have hrb1 : ¬ mutN nb bb A' w.heap.size := fun h => by
      rcases h with h | h | h
      · exact hrb (.inl h)
      · exact hrb (.inr (.inl h))
      · rcases hA1 _ h with h | h
        · exact hrb (.inr (.inr h))
        · rw [World.size_alloc] at h; omega
    have hlost := HF.out.f4
    have hgone := HF.out.f3
    have x1 : IntKind.i64.wrap (s.lost + 1) = s.lost + 1 := IntWalk.i64_in _ (by omega)
    have x2 : IntKind.i64.wrap (s.gone + 1) = s.gone + 1 := IntWalk.i64_in _ (by omega)
    clear hN1 hF1 hA1 hu hk
    go_wp2_with (first | (refine wpList_load_letAt rfl _ rfl w1.heap.size 0 u rfl (range_heapO HG5.out) ?_) | (refine wpList_store_all rfl _ _ rfl rfl w1.heap.size u _ rfl rfl (heap_alloc_new w1 _) (by simp) ?_; intro w5 hG5 hF5; have hE15 : Ext w1 w5 := ((Fr.ofExt (isB w1.heap.size) ((Ext.refl w1).alloc _)).trans hF5 (fun _ _ h => h)).toExt (fun i hi => by unfold isB at hi; omega); have HN5 := Lib.hid (HN1.out.ext hE15); have d0 := net_c0 HN5.out.n1; have HG5 := Lib.hid hG5; have HE15 := Lib.hid hE15; clear hG5 hF5 hE15))
    refine (goes_any u nb bb s.off w5 HN5.out.n1 HN5.out.o1 hends.1 hends.2).mono ?_
    rintro ev w6 ⟨rfl, hE6⟩
    have HN6 := Lib.hid (HN5.out.ext hE6)
    have HE6 := Lib.hid (HE15.out.trans hE6)
    have HG6 := Lib.hid (hE6.blk HG5.out)
    have hErr6 := Lib.hid (((HG.out.ext HE.out).fr HF1.out (HN.out.mut0 hB)).ext HE6.out)
    have hg6 := HE6.out.blk hg1
    clear hE6 d0
    unfold goesV
    cases hc : (cut s.off u.frm || cut s.off u.too)
    · rw [if_neg (by simp)]
      have HI := Lib.hid (fun w => Is_nilN 11 w)
      unfold numN at HI
      go_wp2_with fail
      refine (HI.out _).mono ?_
      rintro ev w7 ⟨rfl, rfl⟩
      have d0 := net_c0 HN6.out.n1
      have d1 := bag_ck HN6.out.b1
      have fz := frozen_of_heap HN6.out.b1
      have hbb : bb ≠ w.heap.size := fun e => hrb (e ▸ .inr (.inl rfl))
      have hset : Fr (isB bb) w6 (w6.setCell ⟨bb, 3, none⟩ (.int .i64 (s.gone + 1))) := (Fr.refl (isB bb) w6).set (p := ⟨bb, 3, none⟩) (.inl rfl) _
      have hg9 := (hset.block w.heap.size (heap_lt hg6) (fun e => hbb e.symm)).trans hg6
      have hl9 := (hset.block w1.heap.size (heap_lt HG6.out) (fun e => by
        have := (HN1.out.mut_lt (.inr (.inl rfl))).2
        unfold isB at e
        omega)).trans HG6.out
      have hst := Lib.hid (HN6.out.count (sent := s.sent) (gone := s.gone + 1) (lost := s.lost) (twice := s.twice) (by rw [heap_set HN6.out.b1]; rfl) hset)
      have HS := Lib.hid hset
      clear hset
      go_wp2_with (first | (refine wpList_load_letAt rfl _ rfl w1.heap.size 0 u rfl (range_heapO hl9) ?_) | (refine wpList_store_all rfl _ _ rfl rfl w.heap.size u _ rfl rfl hg9 (by simp [Let.arr]) ?_; intro w8 hG8 hF8; have HF8 := Lib.hid hF8; have HG8 := Lib.hid hG8; clear hG8 hF8))
      refine bodyPost_ret (v := .tuple #[u.v, .int .i64 0]) (results_let Tryz.results9 _ _ _ u _ rfl rfl HG8.out) rfl (.inr ⟨k, u, HU.out, HK.out, .inr ⟨hc, rfl, A', c', hst.out.fr HF8.out (fun i hi h => hrb1 (by rw [← (show i = w.heap.size from hi)]; exact h)) (fun v hv => (HN.out.u2 v (List.mem_of_mem_eraseIdx hv)).o.new (HN.out.u2 v (List.mem_of_mem_eraseIdx hv)).i (fun i hi h => by unfold isB at h; omega)), ?_, fun i hi => (HA1.out i hi).imp id (fun h => by rw [World.size_alloc] at h; omega)⟩⟩)
      exact (((((Fr.ofExt _ HE.out).trans HF1.out (fun _ _ t => t)).then HE6.out).trans HS.out (fun i _ t => .inr (.inl t)))).trans HF8.out (fun i hi t => by unfold isB at t; omega)
    · rw [if_pos rfl]
      have HI := Lib.hid (fun w => Is_lost11 u.frm u.too w)
      have HTD := Lib.hid (fun w => tolds_lost u.frm u.too w)
      unfold numN lostV at HI
      unfold lostV at HTD ⊢
      go_wp2_with fail
      refine (HI.out _).mono ?_
      rintro ev w7 ⟨rfl, hE7⟩
      have HN7 := Lib.hid (HN6.out.ext hE7)
      have HErr7 := Lib.hid (hErr6.out.ext hE7)
      have HE6 := Lib.hid (HE6.out.trans hE7)
      have hg6 := hE7.blk hg6
      have d0 := net_c0 HN7.out.n1
      have d1 := bag_ck HN7.out.b1
      have fz := frozen_of_heap HN7.out.b1
      have hbb : bb ≠ w.heap.size := fun e => hrb (e ▸ .inr (.inl rfl))
      have hset : Fr (isB bb) w7 (w7.setCell ⟨bb, 4, none⟩ (.int .i64 (s.lost + 1))) := (Fr.refl (isB bb) w7).set (p := ⟨bb, 4, none⟩) (.inl rfl) _
      have hg9 := (hset.block w.heap.size (heap_lt hg6) (fun e => hbb e.symm)).trans hg6
      have hst := Lib.hid (HN7.out.count (sent := s.sent) (gone := s.gone) (lost := s.lost + 1) (twice := s.twice) (by rw [heap_set HN7.out.b1]; rfl) hset)
      have hErr9 := HErr7.out.fr hset (fun e => HN7.out.mut0 hB (.inr (.inl e)))
      have HS := Lib.hid hset
      clear hset hE7
      go_wp2_with fail
      refine (HTD.out _ hErr9).mono ?_
      rintro ev w9 ⟨rfl, hE9⟩
      have hg10 := hE9.blk hg9
      have hst2 := Lib.hid (hst.out.ext hE9)
      have HE9 := Lib.hid hE9
      clear hE9
      go_wp2_with (refine wpList_store_all rfl _ _ rfl rfl w.heap.size voteZ _ rfl rfl hg10 (by simp [Let.arr]) ?_; intro w8 hG8 hF8; have HF8 := Lib.hid hF8; have HG8 := Lib.hid hG8; clear hG8 hF8)
      refine bodyPost_ret (v := .tuple #[voteZ.v, .int .i64 11]) (results_let Tryz.results9 _ _ _ voteZ _ rfl rfl HG8.out) rfl (.inr ⟨k, u, HU.out, HK.out, .inl ⟨hc, rfl, A', c', hst2.out.fr HF8.out (fun i hi h => hrb1 (by rw [← (show i = w.heap.size from hi)]; exact h)) (fun v hv => (HN.out.u2 v (List.mem_of_mem_eraseIdx hv)).o.new (HN.out.u2 v (List.mem_of_mem_eraseIdx hv)).i (fun i hi h => by unfold isB at h; omega)), ?_, fun i hi => (HA1.out i hi).imp id (fun h => by rw [World.size_alloc] at h; omega)⟩⟩)
      exact (((((Fr.ofExt _ HE.out).trans HF1.out (fun _ _ t => t)).then HE6.out).trans HS.out (fun i _ t => .inr (.inl t))).then HE9.out).trans HF8.out (fun i hi t => by unfold isB at t; omega)
end Go.Proofs.YtigljihohpdpeaaGreatDoor
