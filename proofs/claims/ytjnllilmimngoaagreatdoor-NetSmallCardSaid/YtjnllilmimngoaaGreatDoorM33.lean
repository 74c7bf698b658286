/-
  The document's net: Take.
  The document's net: Drop, Copy.
  The document's net: Cut.
-/
import Derived.Test.YtjnllilmimngoaaGreatDoorM32
import Derived.Test.YtjnllilmimngoaaGreatDoorM19
namespace Go.Proofs.YtjnllilmimngoaaGreatDoor
open Go.RowKit

def cutR (cuts : List Int) (u : Let) : Bool := decide (u.frm ∈ cuts) || decide (u.too ∈ cuts)
def RTakeP (w : World) (B rb : Nat) (A Ac : Option Addr) (s : RefS) (i : Int) (e : Ending) (w' : World) : Prop :=
  (s.us.length = 0 ∧ e = .returned (.tuple #[voteZ.v, .int .i64 7]) ∧ Ext w w') ∨
  ∃ (k : Nat) (u : Let), s.us[k]? = some u ∧ i % (s.us.length : Int) = k ∧
    ((cutR s.cuts u = true ∧ e = .returned (.tuple #[voteZ.v, .int .i64 11]) ∧ RefStep w B rb A Ac { s with us := s.us.eraseIdx k, lost := s.lost + 1 } w') ∨
     (cutR s.cuts u = false ∧ e = .returned (.tuple #[u.v, .int .i64 0]) ∧ RefStep w B rb A Ac { s with us := s.us.eraseIdx k, gone := s.gone + 1 } w'))
set_option maxRecDepth 100000 in
set_option maxHeartbeats 4000000 in
theorem take_ref (w : World) (B rb : Nat) (A Ac : Option Addr) (c cc : Nat) (s : RefS) (hR : RefAt w B rb A c Ac cc s) (hf : s.fits) (i : Int) :
    Calls Tryz.prog 25 #[.pointer (some ⟨rb, 0, none⟩), .int .i64 i] w (RTakeP w B rb A Ac s i) := by
  have hE := (Ext.refl w).alloc (.cells voteZ.arr 35)
  have c0 : ∀ o, (w.alloc o).cell? ⟨rb, 0, none⟩ = some (.slice A s.us.length c) := fun o => ((Ext.refl w).alloc o).cell hR.cells.1
  have HRES := Lib.hid (heap_alloc_new w (.cells voteZ.arr 35))
  have hrlt := heap_lt hR.r1
  have HF := Lib.hid hf
  by_cases h0 : s.us.length = 0
  · have H0 := Lib.hid h0
    simp only [h0] at c0
    clear h0 hR hf hE
    go_enter Tryz.func25, Tryz.ntmps25
    go_wp2_with (refine wpList_store_all rfl _ _ rfl rfl w.heap.size voteZ _ rfl rfl HRES.out (by simp [Let.arr]) ?_; intro w8 hG8 hF8; have HF8 := Lib.hid hF8; have HG8 := Lib.hid hG8; clear hG8 hF8)
    exact bodyPost_ret (v := .tuple #[voteZ.v, .int .i64 7]) (results_let Tryz.results25 _ _ _ voteZ _ rfl rfl HG8.out) rfl (.inl ⟨H0.out, rfl, ((Fr.ofExt (isB w.heap.size) ((Ext.refl w).alloc _)).trans HF8.out (fun _ _ h => h)).toExt (fun i hi => by unfold isB at hi; omega)⟩)
  · have HO := Lib.hid (out_ref _ B rb A Ac c cc s (hR.ext hE) hf.f1 h0 i)
    have hne : ((s.us.length : Int) == 0) = false := beq_eq_false_iff_ne.2 (by omega)
    have HR0 := Lib.hid hR
    have HE := Lib.hid hE
    have hfl := hf.f4
    have hfg := hf.f3
    have x1 : IntKind.i64.wrap (s.lost + 1) = s.lost + 1 := IntWalk.i64_in _ (by omega)
    have x2 : IntKind.i64.wrap (s.gone + 1) = s.gone + 1 := IntWalk.i64_in _ (by omega)
    clear hR hE hf hfl hfg
    go_enter Tryz.func25, Tryz.ntmps25
    go_wp2_with fail
    refine (HO.out).mono ?_
    rintro ev w1 ⟨k, u, hu, hk, rfl, A', c', Ac', cc', hR1, hF1, hA1, hAc1⟩
    have hnr : ¬ mutR rb A Ac w.heap.size := fun h => by have := (HR0.out.mut_lt h).2; omega
    have hg1 := (hF1.block w.heap.size (heap_lt HRES.out) hnr).trans HRES.out
    have hsz1 := hF1.size
    rw [World.size_alloc] at hsz1
    have HMR : Hid (¬ mutR rb A' Ac' w.heap.size) := Lib.hid (fun h => by
      rcases h with h | h | h
      · exact hnr (.inl h)
      · rcases hA1 _ h with h | h
        · exact hnr (.inr (.inl h))
        · rw [World.size_alloc] at h; omega
      · rcases hAc1 _ h with h | h
        · exact hnr (.inr (.inr h))
        · rw [World.size_alloc] at h; omega)
    have hrlt1 := heap_lt hR1.r1
    have HR1 := Lib.hid hR1
    have HF1 := Lib.hid hF1
    have HA1 := Lib.hid hA1
    have HAC1 := Lib.hid hAc1
    have HU := Lib.hid hu
    have HK := Lib.hid hk
    have HG1 := Lib.hid hg1
    clear c0 hR1 hF1 hA1 hAc1 hu hk hg1
    go_wp2_with (refine wpList_store_all rfl _ _ rfl rfl w1.heap.size u _ rfl rfl (heap_alloc_new w1 _) (by simp) ?_; intro w5 hG5 hF5; have HG5 := Lib.hid hG5; have HF5 := Lib.hid hF5; have y1 : w5.cell? ⟨w1.heap.size, 1, none⟩ = some (.int .i64 u.frm) := (by rw [cell_of_heap hG5]; rfl); have y2 : w5.cell? ⟨w1.heap.size, 2, none⟩ = some (.int .i64 u.too) := (by rw [cell_of_heap hG5]; rfl); clear hG5 hF5)
    have HE15 := Lib.hid (show Ext w1 w5 from ((Fr.ofExt (isB w1.heap.size) ((Ext.refl w1).alloc _)).trans HF5.out (fun _ _ h => h)).toExt (fun i hi => by unfold isB at hi; omega))
    have HR5 := Lib.hid (HR1.out.ext HE15.out)
    have HRES5 := Lib.hid (HE15.out.blk HG1.out)
    have hbr : rb ≠ w.heap.size := by omega
    have hbl : rb ≠ w1.heap.size := by omega
    have hC1 := cut_ref w5 B rb A' Ac' c' cc' _ HR5.out HF.out.f6 u.frm
    have hC2 := cut_ref w5 B rb A' Ac' c' cc' _ HR5.out HF.out.f6 u.too
    simp only at hC1 hC2
    cases hb1 : decide (u.frm ∈ s.cuts) with
    | true =>
      have HB1 : Hid (cutR s.cuts u = true) := Lib.hid (by unfold cutR; rw [hb1]; rfl)
      have HB2 := HB1
      rw [hb1] at hC1
      have HC1 := Lib.hid hC1
      clear hC1 hC2 hb1
      refine (HC1.out).mono ?_
      rintro ev wq ⟨rfl, rfl⟩
      go_upto_region 5 with fail
      have d4 := HR5.out.cells.2.2.2.2.1
      have fz := frozen_of_heap HR5.out.r1
      have hset : Fr (isB rb) w5 (w5.setCell ⟨rb, 4, none⟩ (.int .i64 (s.lost + 1))) := (Fr.refl (isB rb) w5).set (p := ⟨rb, 4, none⟩) (.inl rfl) _
      have hg9 := (hset.block w.heap.size (heap_lt HRES5.out) (fun e => hbr e.symm)).trans HRES5.out
      have HST := Lib.hid (HR5.out.count (sent := s.sent) (gone := s.gone) (lost := s.lost + 1) (twice := s.twice) (by rw [heap_set HR5.out.r1]; rfl) hset)
      have HS := Lib.hid hset
      clear hset
      go_wp2_with (refine wpList_store_all rfl _ _ rfl rfl w.heap.size voteZ _ rfl rfl hg9 (by simp [Let.arr]) ?_; intro w8 hG8 hF8; have HF8 := Lib.hid hF8; have HG8 := Lib.hid hG8; clear hG8 hF8)
      refine bodyPost_ret (v := .tuple #[voteZ.v, .int .i64 11]) (results_let Tryz.results25 _ _ _ voteZ _ rfl rfl HG8.out) rfl (.inr ⟨k, u, HU.out, HK.out, .inl ⟨HB1.out, rfl, A', c', Ac', cc', HST.out.fr HF8.out (fun i hi t => HMR.out (by rw [← show i = w.heap.size from t]; exact hi)), ((((Fr.ofExt _ HE.out).trans HF1.out (fun _ _ t => t)).then HE15.out).trans HS.out (fun i _ t => .inl t)).trans HF8.out (fun i hi t => by unfold isB at t; omega), fun i hi => (HA1.out i hi).imp id (fun h => by rw [World.size_alloc] at h; omega), fun i hi => (HAC1.out i hi).imp id (fun h => by rw [World.size_alloc] at h; omega)⟩⟩)
    | false =>
      cases hb2 : decide (u.too ∈ s.cuts) with
      | true =>
        have HB1 : Hid (cutR s.cuts u = true) := Lib.hid (by unfold cutR; rw [hb1, hb2]; rfl)
        have HB2 := HB1
        rw [hb1] at hC1
        rw [hb2] at hC2
        have HC1 := Lib.hid hC1
        have HC2 := Lib.hid hC2
        clear hC1 hC2 hb1 hb2
        refine (HC1.out).mono ?_
        rintro ev wq ⟨rfl, rfl⟩
        go_wp2_with fail
        refine (HC2.out).mono ?_
        rintro ev wq ⟨rfl, rfl⟩
        go_upto_region 5 with fail
        have d4 := HR5.out.cells.2.2.2.2.1
        have fz := frozen_of_heap HR5.out.r1
        have hset : Fr (isB rb) w5 (w5.setCell ⟨rb, 4, none⟩ (.int .i64 (s.lost + 1))) := (Fr.refl (isB rb) w5).set (p := ⟨rb, 4, none⟩) (.inl rfl) _
        have hg9 := (hset.block w.heap.size (heap_lt HRES5.out) (fun e => hbr e.symm)).trans HRES5.out
        have HST := Lib.hid (HR5.out.count (sent := s.sent) (gone := s.gone) (lost := s.lost + 1) (twice := s.twice) (by rw [heap_set HR5.out.r1]; rfl) hset)
        have HS := Lib.hid hset
        clear hset
        go_wp2_with (refine wpList_store_all rfl _ _ rfl rfl w.heap.size voteZ _ rfl rfl hg9 (by simp [Let.arr]) ?_; intro w8 hG8 hF8; have HF8 := Lib.hid hF8; have HG8 := Lib.hid hG8; clear hG8 hF8)
        refine bodyPost_ret (v := .tuple #[voteZ.v, .int .i64 11]) (results_let Tryz.results25 _ _ _ voteZ _ rfl rfl HG8.out) rfl (.inr ⟨k, u, HU.out, HK.out, .inl ⟨HB1.out, rfl, A', c', Ac', cc', HST.out.fr HF8.out (fun i hi t => HMR.out (by rw [← show i = w.heap.size from t]; exact hi)), ((((Fr.ofExt _ HE.out).trans HF1.out (fun _ _ t => t)).then HE15.out).trans HS.out (fun i _ t => .inl t)).trans HF8.out (fun i hi t => by unfold isB at t; omega), fun i hi => (HA1.out i hi).imp id (fun h => by rw [World.size_alloc] at h; omega), fun i hi => (HAC1.out i hi).imp id (fun h => by rw [World.size_alloc] at h; omega)⟩⟩)
      | false =>
        have HB1 : Hid (cutR s.cuts u = false) := Lib.hid (by unfold cutR; rw [hb1, hb2]; rfl)
        have HB2 := HB1
        rw [hb1] at hC1
        rw [hb2] at hC2
        have HC1 := Lib.hid hC1
        have HC2 := Lib.hid hC2
        clear hC1 hC2 hb1 hb2
        refine (HC1.out).mono ?_
        rintro ev wq ⟨rfl, rfl⟩
        go_wp2_with fail
        refine (HC2.out).mono ?_
        rintro ev wq ⟨rfl, rfl⟩
        go_upto_region 7 with fail
        have d3 := HR5.out.cells.2.2.2.1
        have fz := frozen_of_heap HR5.out.r1
        have hset : Fr (isB rb) w5 (w5.setCell ⟨rb, 3, none⟩ (.int .i64 (s.gone + 1))) := (Fr.refl (isB rb) w5).set (p := ⟨rb, 3, none⟩) (.inl rfl) _
        have hg9 := (hset.block w.heap.size (heap_lt HRES5.out) (fun e => hbr e.symm)).trans HRES5.out
        have hl9 := (hset.block w1.heap.size (heap_lt HG5.out) (fun e => hbl e.symm)).trans HG5.out
        have HST := Lib.hid (HR5.out.count (sent := s.sent) (gone := s.gone + 1) (lost := s.lost) (twice := s.twice) (by rw [heap_set HR5.out.r1]; rfl) hset)
        have HS := Lib.hid hset
        clear hset
        go_wp2_with (first | (refine wpList_load_letAt rfl _ rfl w1.heap.size 0 u rfl (range_heapO hl9) ?_) | (refine wpList_store_all rfl _ _ rfl rfl w.heap.size u _ rfl rfl hg9 (by simp [Let.arr]) ?_; intro w8 hG8 hF8; have HF8 := Lib.hid hF8; have HG8 := Lib.hid hG8; clear hG8 hF8))
        refine bodyPost_ret (v := .tuple #[u.v, .int .i64 0]) (results_let Tryz.results25 _ _ _ u _ rfl rfl HG8.out) rfl (.inr ⟨k, u, HU.out, HK.out, .inr ⟨HB1.out, rfl, A', c', Ac', cc', HST.out.fr HF8.out (fun i hi t => HMR.out (by rw [← show i = w.heap.size from t]; exact hi)), ((((Fr.ofExt _ HE.out).trans HF1.out (fun _ _ t => t)).then HE15.out).trans HS.out (fun i _ t => .inl t)).trans HF8.out (fun i hi t => by unfold isB at t; omega), fun i hi => (HA1.out i hi).imp id (fun h => by rw [World.size_alloc] at h; omega), fun i hi => (HAC1.out i hi).imp id (fun h => by rw [World.size_alloc] at h; omega)⟩⟩)
end Go.Proofs.YtjnllilmimngoaaGreatDoor
namespace Go.Proofs.YtjnllilmimngoaaGreatDoor
open Go.RowKit

def RDropP (w : World) (B rb : Nat) (A Ac : Option Addr) (s : RefS) (i : Int) (e : Ending) (w' : World) : Prop :=
  (s.us.length = 0 ∧ e = .returned (.int .i64 7) ∧ Ext w w') ∨
  ∃ (k : Nat) (u : Let), s.us[k]? = some u ∧ i % (s.us.length : Int) = k ∧ e = .returned (.int .i64 0) ∧ RefStep w B rb A Ac { s with us := s.us.eraseIdx k, lost := s.lost + 1 } w'
set_option maxRecDepth 100000 in
set_option maxHeartbeats 2000000 in
theorem drop_ref (w : World) (B rb : Nat) (A Ac : Option Addr) (c cc : Nat) (s : RefS) (hR : RefAt w B rb A c Ac cc s) (hf : s.fits) (i : Int) :
    Calls Tryz.prog 30 #[.pointer (some ⟨rb, 0, none⟩), .int .i64 i] w (RDropP w B rb A Ac s i) := by
  have c0 := hR.cells.1
  by_cases h0 : s.us.length = 0
  · have H0 := Lib.hid h0
    rw [h0] at c0
    clear h0 hR hf
    go_enter Tryz.func30, Tryz.ntmps30
    go_wp2_with fail
    go_ret
    exact .inl ⟨H0.out, rfl, Ext.refl _⟩
  · have HO := Lib.hid (out_ref w B rb A Ac c cc s hR hf.f1 h0 i)
    have hne : ((s.us.length : Int) == 0) = false := beq_eq_false_iff_ne.2 (by omega)
    have hfl := hf.f4
    have x1 : IntKind.i64.wrap (s.lost + 1) = s.lost + 1 := IntWalk.i64_in _ (by omega)
    clear hR hf hfl
    go_enter Tryz.func30, Tryz.ntmps30
    go_wp2_with fail
    refine (HO.out).mono ?_
    rintro ev w1 ⟨k, u, hu, hk, rfl, A', c', Ac', cc', hR1, hF1, hA1, hAc1⟩
    have d4 := hR1.cells.2.2.2.2.1
    have fz := frozen_of_heap hR1.r1
    have hset : Fr (isB rb) w1 (w1.setCell ⟨rb, 4, none⟩ (.int .i64 (s.lost + 1))) := (Fr.refl (isB rb) w1).set (p := ⟨rb, 4, none⟩) (.inl rfl) _
    have HST := Lib.hid (hR1.count (sent := s.sent) (gone := s.gone) (lost := s.lost + 1) (twice := s.twice) (by rw [heap_set hR1.r1]; rfl) hset)
    have HS := Lib.hid hset
    have HF1 := Lib.hid hF1
    have HA1 := Lib.hid hA1
    have HAC1 := Lib.hid hAc1
    have HU := Lib.hid hu
    have HK := Lib.hid hk
    clear c0 hR1 hF1 hA1 hAc1 hu hk hset
    go_wp2_with fail
    go_ret
    exact .inr ⟨k, u, HU.out, HK.out, rfl, A', c', Ac', cc', HST.out, HF1.out.trans HS.out (fun i _ t => .inl t), HA1.out, HAC1.out⟩

/-- A block for a letter. -/
def PtR (N : Nat) (u : Value) (w : World) : Prop := ∃ b, u = .pointer (some ⟨b, 0, none⟩) ∧ w.heap[b]? = some (.cells voteZ.arr 35) ∧ N ≤ b
theorem PtR.up {N : Nat} (u : Value) : Stab.Up Ext (PtR N u) := fun w w' h he => by
  obtain ⟨b, h1, h2, h3⟩ := h
  exact ⟨b, h1, he.blk h2, h3⟩
def RCopyP (w : World) (B rb : Nat) (A Ac : Option Addr) (s : RefS) (i : Int) (e : Ending) (w' : World) : Prop :=
  (s.us.length = 0 ∧ e = .returned (.int .i64 7) ∧ Ext w w') ∨ (s.us.length = 10000 ∧ e = .returned (.int .i64 3) ∧ Ext w w') ∨
  ∃ (k : Nat) (u u' : Let), s.us.length < 10000 ∧ s.us[k]? = some u ∧ i % (s.us.length : Int) = k ∧ u'.cont = u.cont ∧ e = .returned (.int .i64 0) ∧ RefStep w B rb A Ac { s with us := s.us ++ [u'], twice := s.twice + 1 } w'
set_option maxRecDepth 100000 in
set_option maxHeartbeats 4000000 in
theorem copy_ref (w : World) (B rb : Nat) (A Ac : Option Addr) (c cc : Nat) (s : RefS) (hR : RefAt w B rb A c Ac cc s) (hf : s.fits) (hB : B ≤ w.heap.size) (i : Int) :
    Calls Tryz.prog 29 #[.pointer (some ⟨rb, 0, none⟩), .int .i64 i] w (RCopyP w B rb A Ac s i) := by
  have c0 := hR.cells.1
  by_cases h0 : s.us.length = 0
  · have H0 := Lib.hid h0
    rw [h0] at c0
    clear h0 hR hf
    go_enter Tryz.func29, Tryz.ntmps29
    go_wp2_with fail
    go_ret
    exact .inl ⟨H0.out, rfl, Ext.refl _⟩
  · have hne : ((s.us.length : Int) == 0) = false := beq_eq_false_iff_ne.2 (by omega)
    by_cases h1 : s.us.length = 10000
    · have H1 := Lib.hid h1
      rw [h1] at c0
      clear h1 h0 hR hf hne
      go_enter Tryz.func29, Tryz.ntmps29
      go_wp2_with fail
      go_ret
      exact .inr (.inl ⟨H1.out, rfl, Ext.refl _⟩)
    · have hf1 := hf.f1
      have hge : decide (10000 ≤ (s.us.length : Int)) = false := by simp; omega
      obtain ⟨k, hk⟩ : ∃ k : Nat, i % (s.us.length : Int) = (k : Int) := ⟨(i % (s.us.length : Int)).toNat, by have := Int.emod_nonneg i (show (s.us.length : Int) ≠ 0 by omega); omega⟩
      have hkl : k < s.us.length := by have := Int.emod_lt_of_pos i (show 0 < (s.us.length : Int) by omega); omega
      obtain ⟨g, f, u, rfl, hu, hru, _⟩ := hR.lets.at_ hkl
      have HAT := Lib.hid (fun wx (h : Ext w wx) => at_ref wx B rb _ Ac c cc s (hR.ext h) hf1 h0 i)
      rw [hk] at HAT
      have HLT := Lib.hid (hR.u2 u (List.mem_of_getElem? hu))
      have HU := Lib.hid hu
      have HK := Lib.hid hk
      have HR0 := Lib.hid hR
      have hft := hf.f5
      have x2 : IntKind.i64.wrap (s.twice + 1) = s.twice + 1 := IntWalk.i64_in _ (by omega)
      have VR := Lib.hid hru
      clear hu hk hR hf hft hru
      go_enter Tryz.func29, Tryz.ntmps29
      go_wp2_with fail
      refine Stab.wp_region_lexTail 10 Ext (Ext w) (fun _ => True) (by kernel_rfl) (by kernel_rfl) (fun _ _ h => h) (fun _ _ h k => Ext.trans h k) (fun _ _ _ _ => trivial) ((Ext.refl _).drew) trivial ?_
      simp only [Stab.zipL, Nat.reduceAdd, List.take, List.drop]
      iterate 6 (refine Stab.wpX_val rfl rfl ?_; apply Exists.intro; refine ⟨fun wx hC _ => ?_, ?_⟩; (have r := hC.cell c0; go_simp; exact ⟨Ext.refl _, rfl⟩); simp only [Act.put, List.setIfInBounds_toArray, List.set_cons_zero, List.set_cons_succ])
      refine Stab.wpX_call1 rfl rfl (fun _ _ _ _ => trivial) ?_; apply Exists.intro; refine ⟨fun wx hC _ _ => ?_, ?_⟩; (go_simp; refine ⟨rfl, ?_⟩; refine (HAT.out wx hC).mono ?_; rintro ev w9 ⟨rfl, hE9⟩; first | exact ⟨hE9, rfl⟩ | exact ⟨hE9, rfl, trivial⟩); simp only [Act.put, List.setIfInBounds_toArray, List.set_cons_zero, List.set_cons_succ]
      iterate 1 (refine Stab.wpX_val rfl rfl ?_; apply Exists.intro; refine ⟨fun wx hC _ => ?_, ?_⟩; (have r := hC.cell c0; go_simp; exact ⟨Ext.refl _, rfl⟩); simp only [Act.put, List.setIfInBounds_toArray, List.set_cons_zero, List.set_cons_succ])
      (refine Stab.wpX_val rfl rfl ?_; apply Exists.intro; refine ⟨fun wx hC _ => ?_, ?_⟩; (exact yieldsP_let _ rfl g (f + k * 23) u rfl (fun j v hv => hC.cell (VR.out j v hv))); simp only [Act.put, List.setIfInBounds_toArray, List.set_cons_zero, List.set_cons_succ])
      refine Stab.wpX_new (PtR w.heap.size) rfl rfl rfl (PtR.up) (fun _ _ _ _ => trivial) ?_ ?_
      · intro wx hC hF
        go_simp
        exact ⟨(Ext.refl _).alloc _, wx.heap.size, rfl, by rw [heap_alloc_new]; rfl, hC.sz⟩
      rintro ux ⟨_, _, ⟨b2, rfl, _, _⟩, _⟩
      simp only [Act.put, List.setIfInBounds_toArray, List.set_cons_zero, List.set_cons_succ]
      refine Stab.wpX_end fun w2 hC2 _ hF2 => ?_
      obtain ⟨b3, hb3, hg3, hN3⟩ := (hF2 9).2 rfl
      injection hb3 with hb3
      injection hb3 with hb3
      injection hb3 with hb3 _ _
      subst hb3
      have HE2 := Lib.hid hC2
      have HG3 := Lib.hid hg3
      clear hC2 c0 hF2 hg3
      go_wp2_with (refine wpList_store_all rfl _ _ rfl rfl b2 u _ rfl rfl HG3.out (by simp [Let.arr]) ?_; intro w5 hG5 hF5; have HG5 := Lib.hid hG5; have HF5 := Lib.hid hF5; clear hG5 hF5)
      have HE5 := Lib.hid (((Fr.ofExt (isB b2) HE2.out).trans HF5.out (fun _ _ t => t)).toExt (fun i hi => by unfold isB at hi; omega))
      have HR5 := Lib.hid (HR0.out.ext HE5.out)
      have cb5 := HR5.out.cells.1
      have arb := HR5.out.arb
      have hBs : B ≤ w5.heap.size := Nat.le_trans hB HE5.out.sz
      have hbx : ¬ blk (some (⟨g, f, none⟩ : Addr)) b2 := fun h => by have := (HR0.out.u1.lt h).2; omega
      refine Stab.wp_region_lexTail 9 (Fr (blk (some (⟨g, f, none⟩ : Addr)))) (Fr (blk (some (⟨g, f, none⟩ : Addr))) w5) (fun w => OwnW 23 w B 35 (some ⟨g, f, none⟩) s.us.length c (flat s.us)) (by kernel_rfl) (by kernel_rfl) (fun _ _ h => Fr.ofExt _ h) (fun _ _ h k => Fr.trans h k (fun _ _ t => t)) (fun _ _ h k => OwnW.ext h k) ((Fr.refl _ _).drew) HR5.out.u1 ?_
      simp only [Stab.zipL, Nat.reduceAdd, List.take, List.drop]
      iterate 5 (refine Stab.wpX_val rfl rfl ?_; apply Exists.intro; refine ⟨fun wx hC _ => ?_, ?_⟩; (have r := hC.cell arb cb5; go_simp; exact ⟨Ext.refl _, rfl⟩); simp only [Act.put, List.setIfInBounds_toArray, List.set_cons_zero, List.set_cons_succ])
      (refine Stab.wpX_val rfl rfl ?_; apply Exists.intro; refine ⟨fun wx hC _ => ?_, ?_⟩; (exact yieldsA_let _ rfl b2 0 u rfl (range_heap ((hC.block _ (heap_lt HG5.out) hbx).trans HG5.out))); simp only [Act.put, List.setIfInBounds_toArray, List.set_cons_zero, List.set_cons_succ])
      refine Stab.wpX_call (CpR u) (fun _ w => OwnW 23 w B 35 (some ⟨g, f, none⟩) s.us.length c (flat s.us)) rfl rfl (fun _ _ _ h _ => h) (fun _ _ _ h k => OwnW.ext h k) ?_ ?_
      · intro wx hC hT hF
        go_simp
        refine ⟨rfl, ?_⟩
        refine (copied_ref u wx HLT.out).mono ?_
        rintro ev w9 ⟨l', rfl, h1, h4⟩
        exact ⟨Fr.ofExt _ h4, ⟨l', rfl, h1⟩, hT.ext h4⟩
      rintro ux ⟨_, _, ⟨l', rfl, hlc⟩, _⟩
      have HLC := Lib.hid hlc
      clear hlc
      simp only [Act.put, List.setIfInBounds_toArray, List.set_cons_zero, List.set_cons_succ]
      refine Stab.wpX_new (SlR l'.arr w5.heap.size) rfl rfl rfl (SlR.up (fun i hi => (HR5.out.u1.lt hi).2)) (fun _ _ h k => OwnW.ext h k) ?_ ?_
      · intro wx hC hF
        have hV : l'.v = .agg l'.arr := rfl
        rw [hV]
        go_simp
        exact ⟨(Ext.refl _).alloc _, wx.heap.size, rfl, by rw [heap_alloc_new]; exact congrArg (fun c => some (Obj.cells c 35 (0, 0))) (buildL l'), hC.size⟩
      rintro ux ⟨_, _, ⟨bs, rfl, _, _⟩, _⟩
      simp only [Act.put, List.setIfInBounds_toArray, List.set_cons_zero, List.set_cons_succ]
      refine Stab.wpX_call (fun _ _ => True) (ApR u s.us B (some ⟨g, f, none⟩) w5.heap.size) rfl rfl (fun _ _ _ _ _ => trivial) (ApR.up) ?_ ?_
      · intro wx hC hT hF
        obtain ⟨b7, h5, h6, h7⟩ := (hF 7 rfl).2 rfl
        injection h5 with h5 _ _
        injection h5 with h5
        injection h5 with h5 _ _
        subst h5
        have hr7 : Rd wx (some ⟨bs, 0, none⟩) (flat [l']) := fun j u hj => ⟨_, rfl, by
          rw [add_lit', Nat.zero_add, cell_of_heap h6]
          simpa [flat] using hj⟩
        obtain ⟨A2, c2, w2, g1, g2, g3, g4⟩ := run_append_L wx 22 B (some ⟨g, f, none⟩) c s.us hT (some ⟨bs, 0, none⟩) 1 [l'] hr7 (by simp; omega) (Nat.le_trans hBs hC.size)
        refine yieldsA_append _ _ rfl _ _ rfl rfl _ _ g1 ⟨g3, trivial, l', A2, c2, rfl, HLC.out, g2, fun i hi => (g4 i hi).imp id (fun h => Nat.le_trans hC.size h)⟩
      rintro ux ⟨_, _, _, ⟨l9, A2, c2, rfl, _⟩, _⟩
      simp only [Act.put, List.setIfInBounds_toArray, List.set_cons_zero, List.set_cons_succ]
      refine Stab.wpX_end fun w8 hC8 hT8 _ => ?_
      obtain ⟨l2, A3, c3, hv, h2, h5, h6⟩ := hT8
      injection hv with hv1 _ hv2
      subst hv1 hv2
      have d0 := hC8.cell arb cb5
      have dz := frozen_of_heap ((hC8.block _ (heap_lt HR5.out.r1) arb).trans HR5.out.r1)
      have hlt8 : ∀ u ∈ s.us ++ [l2], u.light := fun x hx => by
        rcases List.mem_append.1 hx with hx | hx
        · exact HR0.out.u2 x hx
        · simp at hx
          subst hx
          exact light_cont h2 HLT.out
      have hR8 := HR5.out.row' hC8 h5 hlt8 (s.us.length + 1) (by simp)
      have HS8 := Lib.hid ((Fr.refl (isB rb) w8).set (p := ⟨rb, 0, none⟩) (.inl rfl) (.slice A2 (s.us.length + 1) c2))
      have d5 := hR8.cells.2.2.2.2.2
      have fz := frozen_of_heap hR8.r1
      have hset : Fr (isB rb) (w8.setCell ⟨rb, 0, none⟩ (.slice A2 (s.us.length + 1) c2)) ((w8.setCell ⟨rb, 0, none⟩ (.slice A2 (s.us.length + 1) c2)).setCell ⟨rb, 5, none⟩ (.int .i64 (s.twice + 1))) := (Fr.refl (isB rb) _).set (p := ⟨rb, 5, none⟩) (.inl rfl) _
      have HST := Lib.hid (hR8.count (sent := s.sent) (gone := s.gone) (lost := s.lost) (twice := s.twice + 1) (by rw [heap_set hR8.r1]; rfl) hset)
      have HS := Lib.hid hset
      have HC8 := Lib.hid hC8
      have HA8 := Lib.hid h6
      have H2 := Lib.hid h2
      clear hC8 h5 h6 h2 hR8 hset hlt8
      go_wp2_with fail
      go_ret
      have hsz : w.heap.size ≤ w5.heap.size := HE5.out.sz
      exact .inr (.inr ⟨k, u, l2, by omega, HU.out, HK.out, H2.out, rfl, A2, c2, Ac, cc, HST.out, (((Fr.ofExt _ HE5.out).trans HC8.out (fun i _ t => .inr (.inl t))).trans HS8.out (fun i _ t => .inl t)).trans HS.out (fun i _ t => .inl t), fun i hi => (HA8.out i hi).imp id (fun h => Nat.le_trans hsz h), fun i hi => .inl hi⟩)
end Go.Proofs.YtjnllilmimngoaaGreatDoor
namespace Go.Proofs.YtjnllilmimngoaaGreatDoor
open Go.RowKit

/-- Who is cut off behind a cut. -/
def cutF (cuts : List Int) (who : Int) (b : Bool) (x : Int) : Bool := (x == who && b) || (x != who && decide (x ∈ cuts))
def cutsUp (f : Int → Bool) (k : Nat) : List Int := ((List.range k).map fun (j : Nat) => ((j : Int) + 1)).filter f
theorem cutsUp_succ (f : Int → Bool) (k : Nat) : cutsUp f (k + 1) = cutsUp f k ++ if f ((k : Int) + 1) = true then [(k : Int) + 1] else [] := by
  unfold cutsUp
  rw [List.range_succ, List.map_append, List.filter_append]
  congr 1
  simp only [List.map_cons, List.map_nil, List.filter_cons, List.filter_nil]
theorem cutsUp_len (f : Int → Bool) (k : Nat) : (cutsUp f k).length ≤ k := by
  unfold cutsUp
  exact Nat.le_trans (List.length_filter_le _ _) (by simp)
def RCutP (w : World) (B rb : Nat) (A Ac : Option Addr) (s : RefS) (who : Int) (b : Bool) (e : Ending) (w' : World) : Prop :=
  (¬ (1 ≤ who ∧ who ≤ 7) ∧ e = .returned (.int .i64 2) ∧ Ext w w') ∨
  ((1 ≤ who ∧ who ≤ 7) ∧ e = .returned (.int .i64 0) ∧ RefStep w B rb A Ac { s with cuts := cutsUp (cutF s.cuts who b) 7 } w')
def CmRel (f : Int → Bool) (w : World) (v i : Value) (wr : World) : Prop :=
  ∃ (k : Nat) (A : Option Addr) (c : Nat), k ≤ 7 ∧ i = .int .i64 ((k : Int) + 1) ∧ v = .slice A (cutsUp f k).length c ∧ Own wr w.heap.size 3 A c ((cutsUp f k).map (.int .i64)) ∧ Ext w wr
/-- The cuts are told anew. -/
theorem RefAt.cut' {w w8 : World} {B rb c cc : Nat} {A Ac : Option Addr} {s : RefS} {A2 : Option Addr} {c2 : Nat} {cuts : List Int} (h : RefAt w B rb A c Ac cc s) (he : Ext w w8) (ho : Own w8 B 3 A2 c2 (cuts.map (.int .i64))) :
    RefAt (w8.setCell ⟨rb, 1, none⟩ (.slice A2 cuts.length c2)) B rb A c A2 c2 { s with cuts := cuts } := by
  have h8 := h.ext he
  have hset : Fr (isB rb) w8 (w8.setCell ⟨rb, 1, none⟩ (.slice A2 cuts.length c2)) := (Fr.refl (isB rb) w8).set (p := ⟨rb, 1, none⟩) (.inl rfl) _
  refine ⟨?_, h8.u1.fr hset (fun i hi t => h8.arb (by rw [← show i = rb from t]; exact hi)), ?_, h.u2, h.B1⟩
  · rw [heap_set h8.r1]
    rfl
  · exact ho.fr hset (fun i hi t => OwnW.ne_blk (show OwnW 1 w8 B 3 A2 _ c2 _ from ho) h8.r1 (by decide) (by rw [← show i = rb from t]; exact hi))
set_option maxRecDepth 100000 in
set_option maxHeartbeats 4000000 in
theorem cutm_ref (w : World) (B rb : Nat) (A Ac : Option Addr) (c cc : Nat) (s : RefS) (hR : RefAt w B rb A c Ac cc s) (hf : s.cuts.length ≤ 7) (hB : B ≤ w.heap.size) (who : Int) (b : Bool) :
    Calls Tryz.prog 31 #[.pointer (some ⟨rb, 0, none⟩), .int .i64 who, .bool b] w (RCutP w B rb A Ac s who b) := by
  have HR := Lib.hid hR
  clear hR
  by_cases h1 : 1 ≤ who
  rotate_left
  · have d1 : decide (who < 1) = true := by simp; omega
    go_enter Tryz.func31, Tryz.ntmps31
    go_wp2_with fail
    go_ret
    exact .inl ⟨by omega, rfl, Ext.refl _⟩
  · have d1 : decide (who < 1) = false := by simp; omega
    by_cases h7 : who ≤ 7
    rotate_left
    · have d7 : decide (7 < who) = true := by simp; omega
      go_enter Tryz.func31, Tryz.ntmps31
      go_wp2_with fail
      go_ret
      exact .inl ⟨by omega, rfl, Ext.refl _⟩
    · have d7 : decide (7 < who) = false := by simp; omega
      obtain ⟨f, hfd⟩ : ∃ f, f = cutF s.cuts who b := ⟨_, rfl⟩
      have HFD := Lib.hid hfd
      clear hfd
      go_enter Tryz.func31, Tryz.ntmps31
      go_wp2_with fail
      go_loopw [7, 8] (fun v i wr => CmRel f w v i wr) (fun _ i _ => 8 - (intOf i).toNat)
      case atStart => exact ⟨0, none, 0, by omega, rfl, rfl, Own.nil _ _ _, Ext.refl _⟩
      case round =>
        obtain ⟨k, A1, c1, hk, rfl, rfl, hO, hE⟩ := hrel
        have hlen := cutsUp_len f k
        have HO := Lib.hid hO
        have HE := Lib.hid hE
        clear hO hE
        have x1 : IntKind.i64.wrap ((k : Int) + 1 + 1) = (k : Int) + 1 + 1 := IntWalk.i64_in _ (by omega)
        by_cases hlt : k < 7
        · have e7 : decide ((k : Int) + 1 ≤ 7) = true := by simp; omega
          have hC := cut_ref wr B rb A Ac c cc s (HR.out.ext HE.out) hf ((k : Int) + 1)
          have HR1 := Lib.hid (rd_one wr (.int .i64 ((k : Int) + 1)) 3)
          have HO2 := Lib.hid (HO.out.ext ((Ext.refl wr).alloc (.cells #[.int .i64 ((k : Int) + 1)] 3)))
          have hbs := (HE.out.alloc (.cells #[.int .i64 ((k : Int) + 1)] 3)).sz
          have HE2 := Lib.hid (HE.out.alloc (.cells #[.int .i64 ((k : Int) + 1)] 3))
          have HST := Lib.hid (cutsUp_succ f k)
          have hff : f ((k : Int) + 1) = cutF s.cuts who b ((k : Int) + 1) := by rw [HFD.out]
          have HFF := Lib.hid hff
          clear hff
          by_cases hw : (k : Int) + 1 = who
          · have dw : ((k : Int) + 1 == who) = true := by simpa using hw
            have dn : ((k : Int) + 1 != who) = false := by simpa using hw
            have HW := Lib.hid hw
            clear hw hC
            cases b with
            | true =>
              go_wp2_with (at_builtin; refine appendInts _ rfl _ _ rfl w.heap.size _ _ _ (cutsUp f k) rfl rfl HO2.out _ _ _ [(k : Int) + 1] rfl rfl HR1.out (by simp only [List.length_cons, List.length_nil]; omega) hbs ?_; intro A3 c3 m3 w3 hm3 hO3 hF3 hA3; obtain rfl := hm3)
              go_roundw
              case rel =>
                have hy : f ((k : Int) + 1) = true := by rw [HFF.out]; simp [cutF, HW.out]
                have hs := HST.out
                rw [if_pos hy] at hs
                exact ⟨k + 1, A3, c3, by omega, by go_num, by rw [hs, List.length_append]; rfl, by rw [hs]; exact hO3, own_fresh HO2.out HE2.out hF3⟩
              case measure => simp [intOf]; omega
            | false =>
              go_wp2_with fail
              go_roundw
              case rel =>
                have hy : ¬ f ((k : Int) + 1) = true := by rw [HFF.out]; simp [cutF, HW.out]
                have hs := HST.out
                rw [if_neg hy, List.append_nil] at hs
                exact ⟨k + 1, A1, c1, by omega, by go_num, by rw [hs], by rw [hs]; exact HO.out, HE.out⟩
              case measure => simp [intOf]; omega
          · have dw : ((k : Int) + 1 == who) = false := by simpa using hw
            have dn : ((k : Int) + 1 != who) = true := by simpa using hw
            have HW := Lib.hid hw
            clear hw
            cases hm : decide ((k : Int) + 1 ∈ s.cuts) with
            | true =>
              rw [hm] at hC
              have HC := Lib.hid hC
              have HM := Lib.hid hm
              clear hC hm
              go_wp2_with fail
              refine (HC.out).mono ?_
              rintro ev wq ⟨rfl, rfl⟩
              go_wp2_with (at_builtin; refine appendInts _ rfl _ _ rfl w.heap.size _ _ _ (cutsUp f k) rfl rfl HO2.out _ _ _ [(k : Int) + 1] rfl rfl HR1.out (by simp only [List.length_cons, List.length_nil]; omega) hbs ?_; intro A3 c3 m3 w3 hm3 hO3 hF3 hA3; obtain rfl := hm3)
              go_roundw
              case rel =>
                have hy : f ((k : Int) + 1) = true := by
                  have h8 := of_decide_eq_true HM.out
                  rw [HFF.out]
                  simp [cutF, HW.out, h8]
                have hs := HST.out
                rw [if_pos hy] at hs
                exact ⟨k + 1, A3, c3, by omega, by go_num, by rw [hs, List.length_append]; rfl, by rw [hs]; exact hO3, own_fresh HO2.out HE2.out hF3⟩
              case measure => simp [intOf]; omega
            | false =>
              rw [hm] at hC
              have HC := Lib.hid hC
              have HM := Lib.hid hm
              clear hC hm
              go_wp2_with fail
              refine (HC.out).mono ?_
              rintro ev wq ⟨rfl, rfl⟩
              go_wp2_with fail
              go_roundw
              case rel =>
                have hy : ¬ f ((k : Int) + 1) = true := by
                  have h8 := of_decide_eq_false HM.out
                  rw [HFF.out]
                  simp [cutF, HW.out, h8]
                have hs := HST.out
                rw [if_neg hy, List.append_nil] at hs
                exact ⟨k + 1, A1, c1, by omega, by go_num, by rw [hs], by rw [hs]; exact HO.out, HE.out⟩
              case measure => simp [intOf]; omega
        · obtain rfl : k = 7 := by omega
          have hR8 := HR.out.ext HE.out
          have d1c := hR8.cells.2.1
          have fz := frozen_of_heap hR8.r1
          have hO' := HO.out.raise (B' := B) (fun i hi => Nat.le_trans hB (HO.out.lt hi).1)
          have HST := Lib.hid (HR.out.cut' HE.out hO')
          have HS := Lib.hid ((Fr.refl (isB rb) wr).set (p := ⟨rb, 1, none⟩) (.inl rfl) (.slice A1 (cutsUp f 7).length c1))
          clear hR8 hO' x1
          go_wp2_with fail
          go_ret
          have hst := HST.out
          rw [HFD.out] at hst
          exact .inr ⟨⟨h1, h7⟩, rfl, A, c, A1, c1, by rw [HFD.out]; exact hst, (Fr.ofExt _ HE.out).trans (by rw [HFD.out]; have h9 := HS.out; rw [HFD.out] at h9; exact h9) (fun i _ t => .inl t), fun i hi => .inl hi, fun i hi => .inr (HO.out.lt hi).1⟩
end Go.Proofs.YtjnllilmimngoaaGreatDoor
