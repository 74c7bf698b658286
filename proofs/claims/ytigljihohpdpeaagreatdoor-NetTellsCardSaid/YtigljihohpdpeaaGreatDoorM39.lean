/-
  Copy.
  Cut, Count.
-/
import Derived.Test.YtigljihohpdpeaaGreatDoorM36
import Derived.Test.YtigljihohpdpeaaGreatDoorM37
namespace Go.Proofs.YtigljihohpdpeaaGreatDoor
open Go.RowKit

theorem yieldsP_let {o : Oper} {a : Act} {w : World} (x : Operand) (ho : o.op = .load 44 x) (b f : Nat) (l : Let) (hx : a.eval x = .pointer (some ⟨b, f, none⟩)) (hg : World.rangeAt w b f l.arr.toList) :
    Stab.yields Tryz.prog o a w (fun u w' => Ext w w' ∧ u = l.v) := by
  simp only [Stab.yields, Stab.yieldsUpon, execOp, ho, hx, Instr.loadAt, Instr.sureAddr, Sem.run_bind, Sem.run_pure, Result.andThen_ok, run_loadVar_mid w b f 44 l.arr.toList _ hg Tryz.underlying44 rfl (by rw [infoLet, arr_len])]
  exact ⟨Ext.refl _, by simp [Let.v]⟩
theorem SlR.upE {arr : Array Value} {N : Nat} (u : Value) : Stab.Up Ext (SlR arr N u) := fun w w' h he => by
  obtain ⟨b, h1, h2, h3⟩ := h
  exact ⟨b, h1, he.blk h2, h3⟩
def CopyP (w : World) (B nb bb : Nat) (A : Option Addr) (s : NetS) (i : Int) (e : Ending) (w' : World) : Prop :=
  (s.us = [] ∧ e = .returned (.int .i64 7) ∧ Ext w w') ∨
  ∃ (k : Nat) (u u' : Let), s.us[k]? = some u ∧ (i % (s.us.length : Int)) = (k : Int) ∧ u'.cont = u.cont ∧ u'.off (fun i => i < w.heap.size) ∧ e = .returned (.int .i64 0) ∧ NetStep w B nb bb A { s with us := s.us ++ [u'], twice := s.twice + 1 } w'
set_option maxRecDepth 100000 in
set_option maxHeartbeats 4000000 in
theorem copy_any (w : World) (B nb bb : Nat) (A : Option Addr) (c : Nat) (s : NetS) (hN : NetAt w B nb bb A c s) (hf : s.fits) (hB : 0 < B) (hBw : B ≤ w.heap.size) (hg : ErrT w) (i : Int) :
    Calls Tryz.prog 14 #[.pointer (some ⟨nb, 0, none⟩), .int .i64 i] w (CopyP w B nb bb A s i) := by
  have HT := Lib.hid (there_any nb bb s.off w hN.n1)
  have HP := Lib.hid (place_any i bb s.us.length c A s.sent s.gone s.lost s.twice w hN.b1 hf.f1)
  have c0 := net_c0 hN.n1
  have HN := Lib.hid hN
  have HG := Lib.hid hg
  have HF := Lib.hid hf
  unfold placeE at HP
  clear hN hg hf
  by_cases h0 : s.us.length = 0
  · have hu : s.us = [] := List.eq_nil_of_length_eq_zero h0
    rw [if_pos h0, if_pos h0] at HP
    have HTD := Lib.hid (fun w => tolds_num 7 w)
    unfold numN at HP HTD
    go_enter Tryz.func14, Tryz.ntmps14
    go_wp2_with fail
    refine (HT.out).mono ?_
    rintro ev w1 ⟨rfl, rfl⟩
    go_wp2_with fail
    refine (HP.out).mono ?_
    rintro ev w1 ⟨rfl, hE1⟩
    have HE1 := Lib.hid hE1
    clear hE1
    go_wp2_with fail
    refine (HTD.out _ (HG.out.ext HE1.out)).mono ?_
    rintro ev w2 ⟨rfl, hE2⟩
    go_wp2_with fail
    go_ret
    exact .inl ⟨hu, rfl, HE1.out.trans hE2⟩
  · obtain ⟨k, hk⟩ : ∃ k : Nat, i % (s.us.length : Int) = (k : Int) := ⟨(i % (s.us.length : Int)).toNat, by have := Int.emod_nonneg i (show (s.us.length : Int) ≠ 0 by omega); omega⟩
    have hkl : k < s.us.length := by have := Int.emod_lt_of_pos i (show 0 < (s.us.length : Int) by omega); omega
    rw [if_neg h0, if_neg h0, hk] at HP
    have HK := Lib.hid hk
    clear hk
    go_enter Tryz.func14, Tryz.ntmps14
    go_wp2_with fail
    refine (HT.out).mono ?_
    rintro ev w1 ⟨rfl, rfl⟩
    go_wp2_with fail
    refine (HP.out).mono ?_
    rintro ev w1 ⟨rfl, hE1⟩
    have HN1 := Lib.hid (HN.out.ext hE1)
    have HE1 := Lib.hid hE1
    have d0 := net_c0 HN1.out.n1
    have d1 := bag_c0 HN1.out.b1
    obtain ⟨g, f, u, rfl, hu, hr, _⟩ := HN1.out.lets.at_ hkl
    have HU := Lib.hid hu
    have hmem := List.mem_of_getElem? hu
    have HH := Lib.hid (HN1.out.u2 u hmem)
    have HR := Lib.hid (HN1.out.u3 u hmem)
    clear hE1 hu hmem
    go_wp2_with fail
    refine Stab.wp_region_lexTail 15 Ext (Ext w1) (fun _ => True) (by kernel_rfl) (by kernel_rfl) (fun _ _ h => h) (fun _ _ h k => Ext.trans h k) (fun _ _ _ _ => trivial) ((Ext.refl _).drew) trivial ?_
    simp only [Stab.zipL, Nat.reduceAdd, List.take, List.drop]
    iterate 13 (refine Stab.wpX_val rfl rfl ?_; apply Exists.intro; refine ⟨fun wx hC _ => ?_, ?_⟩; (have r := hC.cell d0; have r2 := hC.cell d1; go_simp; exact ⟨Ext.refl _, rfl⟩); simp only [Act.put, List.setIfInBounds_toArray, List.set_cons_zero, List.set_cons_succ])
    (refine Stab.wpX_val rfl rfl ?_; apply Exists.intro; refine ⟨fun wx hC _ => ?_, ?_⟩; (exact yieldsP_let _ rfl g (f + k * 23) u rfl (fun j v hv => hC.cell (hr j v hv))); simp only [Act.put, List.setIfInBounds_toArray, List.set_cons_zero, List.set_cons_succ])
    refine Stab.wpX_new (SlR u.arr w1.heap.size) rfl rfl rfl (SlR.upE) (fun _ _ _ _ => trivial) ?_ ?_
    · intro wx hC hF
      have hV : u.v = .agg u.arr := rfl
      rw [hV]
      go_simp
      exact ⟨(Ext.refl _).alloc _, wx.heap.size, rfl, by rw [heap_alloc_new]; exact congrArg (fun c => some (Obj.cells c 44 (0, 0))) (buildL u), hC.sz⟩
    rintro ux ⟨_, _, ⟨bs, rfl, _, _⟩, _⟩
    simp only [Act.put, List.setIfInBounds_toArray, List.set_cons_zero, List.set_cons_succ]
    refine Stab.wpX_end fun w2 hC2 _ hF2 => ?_
    obtain ⟨b7, h5, h6, h7⟩ := (hF2 14).2 rfl
    injection h5 with h5 _ _
    injection h5 with h5
    injection h5 with h5 _ _
    subst h5
    have HN2 := Lib.hid (HN1.out.ext hC2)
    have HE2 := Lib.hid (HE1.out.trans hC2)
    have HH2 := Lib.hid (HH.out.ext hC2)
    have hL : LetsIn w2 (some ⟨bs, 0, none⟩) [u] := LetsIn.of (fun j v hv => ⟨_, rfl, by
      rw [add_lit', Nat.zero_add, cell_of_heap h6]
      simpa [flat] using hv⟩) (fun l hl => by simp at hl; subst hl; exact HH2.out.i)
    have HPU := Lib.hid (put_any w2 B nb bb _ c s HN2.out HF.out.f1 (Nat.le_trans hBw HE2.out.sz) (some ⟨bs, 0, none⟩) 1 [u] hL (by simp) (fun _ ad ha hm => by
      injection ha with ha
      subst ha
      have := (HN1.out.mut_lt hm).2
      simp only at this
      omega) (fun l hl => by simp at hl; subst hl; exact HH2.out) (fun l hl => by simp at hl; subst hl; exact HR.out))
    clear hC2 hF2 hL h6
    go_wp2_with fail
    refine (HPU.out).mono ?_
    rintro ev w3 ⟨rfl, ms, hms, hmo, A', c', hN3, hF3, hA3⟩
    obtain ⟨u', rfl, huc⟩ : ∃ u', ms = [u'] ∧ u'.cont = u.cont := by
      have hl := congrArg List.length hms
      simp only [List.length_map, List.length_cons, List.length_nil] at hl
      obtain ⟨u', rfl⟩ := List.length_eq_one_iff.1 hl
      exact ⟨u', rfl, by simpa using hms⟩
    have HMO := Lib.hid ((hmo u' (List.mem_singleton.2 rfl)).sub fun i hi => Nat.lt_of_lt_of_le hi HE2.out.sz)
    clear hmo
    have HN3 := Lib.hid hN3
    have HF3 := Lib.hid hF3
    have d3 := net_c0 hN3.n1
    have d2 := bag_ck hN3.b1
    have fz := frozen_of_heap hN3.b1
    have hl := HF.out.f5
    have x1 : IntKind.i64.wrap (s.twice + 1) = s.twice + 1 := IntWalk.i64_in _ (by omega)
    have hset : Fr (isB bb) w3 (w3.setCell ⟨bb, 5, none⟩ (.int .i64 (s.twice + 1))) := (Fr.refl (isB bb) w3).set (p := ⟨bb, 5, none⟩) (.inl rfl) _
    have hst := Lib.hid (HN3.out.count (sent := s.sent) (gone := s.gone) (lost := s.lost) (twice := s.twice + 1) (by rw [heap_set HN3.out.b1]; rfl) hset)
    have HS := Lib.hid hset
    clear hN3 hF3 hset
    go_wp2_with fail
    refine (tolds_nil _).mono ?_
    rintro ev w6 ⟨rfl, hE6⟩
    go_wp2_with fail
    go_ret
    exact .inr ⟨k, u, u', HU.out, HK.out, huc, HMO.out, rfl, A', c', hst.out.ext hE6, (((Fr.ofExt _ HE2.out).trans HF3.out (fun _ _ t => t)).trans HS.out (fun i _ t => .inr (.inl t))).then hE6, fun i hi => (hA3 i hi).imp id fun h => Nat.le_trans HE2.out.sz h⟩
end Go.Proofs.YtigljihohpdpeaaGreatDoor
namespace Go.Proofs.YtigljihohpdpeaaGreatDoor
open Go.RowKit

def CutP (w : World) (B nb bb : Nat) (A : Option Addr) (s : NetS) (i : Int) (b : Bool) (e : Ending) (w' : World) : Prop := ∃ (n : Int) (off : List Bool), e = .returned (.int .i64 n) ∧ (1 ≤ i ∧ i ≤ 7 → n = 0 ∧ off = s.off.set i.toNat b) ∧ NetStep w B nb bb A { s with off := off } w'
theorem NetAt.cutoff {w : World} {B nb bb : Nat} {A : Option Addr} {c : Nat} {s : NetS} (h : NetAt w B nb bb A c s) {w' : World} {off : List Bool}
    (hb : w'.heap[nb]? = some (.cells (netA bb off) 66)) (hl : off.length = 8) (hf : Fr (isB nb) w w') : NetAt w' B nb bb A c { s with off := off } :=
  ⟨hb, (hf.block bb (heap_lt h.b1) (fun e => h.nbb e.symm)).trans h.b1, h.u1.fr hf (fun i hi t => h.anb (by cases t; exact hi)), fun u hu => ⟨(h.u2 u hu).i.fr hf ((h.u2 u hu).o.sub fun i t => .inl t), (h.u2 u hu).o, (h.u2 u hu).s⟩, h.u3, h.B1, h.B2, hl⟩
set_option maxRecDepth 100000 in
set_option maxHeartbeats 2000000 in
theorem cut_any (w : World) (B nb bb : Nat) (A : Option Addr) (c : Nat) (s : NetS) (hN : NetAt w B nb bb A c s) (i : Int) (b : Bool) :
    Calls Tryz.prog 16 #[.pointer (some ⟨nb, 0, none⟩), .int .i64 i, .bool b] w (CutP w B nb bb A s i b) := by
  have HT := Lib.hid (there_any nb bb s.off w hN.n1)
  have HN := Lib.hid hN
  clear hN
  by_cases h1 : 1 ≤ i
  · have d1 : decide (i < 1) = false := by simp; omega
    by_cases h7 : i ≤ 7
    · have d7 : decide (7 < i) = false := by simp; omega
      obtain ⟨p, rfl⟩ : ∃ p : Nat, i = p := ⟨i.toNat, by omega⟩
      have hp8 : (p : Int) < 8 := by omega
      have e1 := net_off (k := p) HN.out.n1 (by rw [HN.out.o1]; omega)
      have fz := frozen_of_heap HN.out.n1
      go_enter Tryz.func16, Tryz.ntmps16
      go_wp2_with fail
      refine (HT.out).mono ?_
      rintro ev w1 ⟨rfl, rfl⟩
      go_wp2_with fail
      go_ret
      have hset : Fr (isB nb) w (w.setCell ⟨nb, 1 + p, none⟩ (.bool b)) := (Fr.refl (isB nb) w).set (p := ⟨nb, 1 + p, none⟩) (.inl rfl) _
      refine ⟨0, s.off.set p b, rfl, fun _ => ⟨rfl, rfl⟩, A, c, HN.out.cutoff ?_ (by rw [List.length_set]; exact HN.out.o1) hset, hset.mono (fun i _ t => .inl t), fun i hi => .inl hi⟩
      rw [heap_set HN.out.n1]
      simp [netA, Nat.add_comm 1 p, List.map_set]
    · have d7 : decide (7 < i) = true := by simp; omega
      go_enter Tryz.func16, Tryz.ntmps16
      go_wp2_with fail
      refine (HT.out).mono ?_
      rintro ev w1 ⟨rfl, rfl⟩
      go_wp2_with fail
      go_ret
      exact ⟨2, s.off, rfl, fun h => by omega, NetStep.rfl' HN.out (Ext.refl _)⟩
  · have d1 : decide (i < 1) = true := by simp; omega
    go_enter Tryz.func16, Tryz.ntmps16
    go_wp2_with fail
    refine (HT.out).mono ?_
    rintro ev w1 ⟨rfl, rfl⟩
    go_wp2_with fail
    go_ret
    exact ⟨2, s.off, rfl, fun h => by omega, NetStep.rfl' HN.out (Ext.refl _)⟩
def countA (n : Nat) (s g l t : Int) : Array Value := #[.int .i64 n, .int .i64 s, .int .i64 g, .int .i64 l, .int .i64 t]
theorem count_one (n : Nat) (s g l t : Int) : ∀ v ∈ countA n s g l t, v.oneCell' = true := by
  intro v hv
  simp only [countA, List.mem_toArray, List.mem_cons, List.not_mem_nil, or_false] at hv
  rcases hv with rfl | rfl | rfl | rfl | rfl <;> rfl
theorem infoCount : (Tryz.prog.info? 56).map (·.size) = some 5 := by kernel_rfl
set_option maxRecDepth 100000 in
set_option maxHeartbeats 2000000 in
theorem count_any (w : World) (B nb bb : Nat) (A : Option Addr) (c : Nat) (s : NetS) (hN : NetAt w B nb bb A c s) :
    Calls Tryz.prog 18 #[.pointer (some ⟨nb, 0, none⟩)] w fun e w' => e = .returned (.agg (countA s.us.length s.sent s.gone s.lost s.twice)) ∧ Ext w w' := by
  have HT := Lib.hid (there_any nb bb s.off _ (hN.ext ((Ext.refl w).alloc (.cells #[.int .i64 0, .int .i64 0, .int .i64 0, .int .i64 0, .int .i64 0] 56))).n1)
  have hE := fun o => (Ext.refl w).alloc o
  have c0 := fun o => (hE o).cell (net_c0 hN.n1)
  have b0 := fun o => (hE o).cell (bag_c0 hN.b1)
  have b2 := fun o => (hE o).cell (bag_ck hN.b1).1
  have b3 := fun o => (hE o).cell (bag_ck hN.b1).2.1
  have b4 := fun o => (hE o).cell (bag_ck hN.b1).2.2.1
  have b5 := fun o => (hE o).cell (bag_ck hN.b1).2.2.2
  have b1 : ∀ o, (w.alloc o).cell? ⟨bb, 1, none⟩ = some (.int .i64 0) := fun o => (hE o).cell (by rw [cell_of_heap hN.b1]; rfl)
  clear hN
  go_enter Tryz.func18, Tryz.ntmps18
  go_wp2_with fail
  refine (HT.out).mono ?_
  rintro ev w1 ⟨rfl, rfl⟩
  go_wp2_with fail
  refine bodyPost_ret (v := .agg (countA s.us.length s.sent s.gone s.lost s.twice)) (results_cell_row Tryz.results18 _ _ w.heap.size 56 _ (0, 0) _ rfl (heap_alloc_new w _) Tryz.underlying56 rfl (by rw [infoCount]; rfl)) rfl ⟨rfl, hE _⟩
end Go.Proofs.YtigljihohpdpeaaGreatDoor
