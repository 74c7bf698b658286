/-
  full: as many letters as may be, and more.
  none: of no net.
  NetSmall: the rows of deeds.
-/
import Derived.Test.YtjnllilmimngoaaGreatDoorM43
import Derived.Test.YtjnllilmimngoaaGreatDoorM20
import Derived.Test.YtjnllilmimngoaaGreatDoorM19
import Derived.Test.YtjnllilmimngoaaGreatDoorM18
namespace Go.Proofs.YtjnllilmimngoaaGreatDoor
open Go.RowKit

def FuRel (w : World) (v i : Value) (wr : World) : Prop :=
  ∃ (k : Nat) (A : Option Addr) (c : Nat), k ≤ 5000 ∧ i = .int .i64 k ∧ v = .slice A k c ∧ OwnW 23 wr w.heap.size 35 A (vs k).length c (flat (vs k)) ∧ Ext w wr
def SmR (u : Value) (w : World) : Prop := ∃ b, u = .slice (some ⟨b, 0, none⟩) 1 1 ∧ w.heap[b]? = some (.cells (voteL 1 2 0).arr 35)
theorem SmR.up {B : Nat} (u : Value) : Stab.Up (LeS B) (SmR u) := fun w w' h he => by
  obtain ⟨b, h1, h2⟩ := h
  exact ⟨b, h1, he.2 _ _ h2 (arr_len' _)⟩
theorem fieldUnder (a b c d e : Int) (w : World) : (Instr.field 57 (.agg #[.int .i64 a, .int .i64 b, .int .i64 c, .int .i64 d, .int .i64 e]) 0).run Tryz.prog w = .ok (.int .i64 a) w := by kernel_rfl
set_option maxRecDepth 100000 in
set_option maxHeartbeats 8000000 in
theorem full_any (w : World) (hg : ErrT w) : Calls Tryz.prog 6 #[] w fun e w' => e = .returned (.bool true) ∧ Ext w w' := by
  have hB0 : 0 < w.heap.size := World.block_lt_of_cell? w _ hg
  have HG := Lib.hid hg
  clear hg
  go_enter Tryz.func6, Tryz.ntmps6
  go_wp2_with fail
  go_loopw [1, 2] (fun v i wr => FuRel w v i wr) (fun _ i _ => 5000 - (intOf i).toNat)
  case atStart => exact ⟨0, none, 0, Nat.zero_le _, rfl, rfl, OwnW.nil _ _ _ _, Ext.refl _⟩
  case round =>
    obtain ⟨k, A1, c1, hk, rfl, rfl, hO, hE⟩ := hrel
    by_cases hlt : k < 5000
    · have HO := Lib.hid hO
      have HE := Lib.hid hE
      have HV := Lib.hid (vote_any 1 2 (k : Int) wr)
      have hl := vs_len k
      clear hO hE
      go_wp2_with fail
      refine (HV.out).mono ?_
      rintro ev w5 ⟨rfl, hE5⟩
      have hsz := HE.out.sz
      have hsz5 := hE5.sz
      have HE7 := Lib.hid (hE5.alloc (.cells (voteL 1 2 (k : Int)).arr 35))
      have hO7 := HO.out.ext HE7.out
      have hr7 : Rd (w5.alloc (.cells (voteL 1 2 (k : Int)).arr 35)) (some ⟨w5.heap.size, 0, none⟩) (flat [voteL 1 2 (k : Int)]) := fun j v hj => ⟨_, rfl, by
        rw [add_lit', Nat.zero_add, cell_of_heap (heap_alloc_new w5 _)]
        simpa [flat] using hj⟩
      clear hE5
      go_wp2_with (first | (refine wpList_buildL rfl _ (voteL 1 2 (k : Int)) rfl rfl ?_) | (at_builtin; refine appendLets _ rfl _ _ rfl w.heap.size A1 _ c1 (vs k) rfl hl.symm hO7 _ 1 1 [voteL 1 2 (k : Int)] rfl rfl hr7 (by simp only [List.length_cons, List.length_nil]; omega) (by rw [World.size_alloc]; omega) ?_; intro A3 c3 w3 hO3 hF3 hA3; have HO3 := Lib.hid hO3; have HF3 := Lib.hid hF3; clear hO3 hF3 hA3))
      refine ⟨⟨k + 1, A3, c3, by omega, by go_num, ?_, ?_, Fr.low (HE.out.trans HE7.out) HF3.out (fun i hi => (HO.out.lt hi).1)⟩, by simp [intOf]; omega⟩
      · simp
      · rw [vs_succ]
        exact HO3.out
    · obtain rfl : k = 5000 := by omega
      rw [vs_len] at hO
      obtain ⟨g, rfl, hgw, hcap, hcm⟩ : ∃ g, A1 = some ⟨g, 0, none⟩ ∧ g < wr.heap.size ∧ 5000 ≤ c1 ∧ c1 ≤ maxLen := by
        rcases hO.cases with ⟨_, h, _⟩ | ⟨g, cur, rfl, _, h1, _, h2, h3, _⟩
        · omega
        · exact ⟨g, rfl, h1, h2, h3⟩
      have hLr : LetsIn wr (some ⟨g, 0, none⟩) (vs 5000) := LetsIn.light hO vs_light
      have HLr := Lib.hid hLr
      have HE := Lib.hid hE
      clear hO hE hLr
      go_wp2_with fail
      refine (new_any wr).mono ?_
      rintro ev w1 ⟨rfl, hN, hE1⟩
      have hFN : FN wr.heap.size (wr.heap.size + 1) [] 0 0 0 w1 := ⟨none, 0, [], hN, rfl⟩
      have hb1 := heap_lt hN.n1
      generalize hnb : wr.heap.size + 1 = nb at *
      have hwr := HE.out.sz
      generalize hBB : wr.heap.size = B at *
      have HL1 := Lib.hid (HLr.out.ext hE1)
      have HG1 := Lib.hid (HG.out.ext (HE.out.trans hE1))
      have HEB := Lib.hid (And.intro HE.out hE1)
      have hsz1 : B ≤ w1.heap.size := by omega
      have HGX := Lib.hid (fun wx (h : LeB B w1 wx) => HG1.out.fr h (fun t => by omega))
      have HLX := Lib.hid (fun wx (h : LeB B w1 wx) => HL1.out.frL vs_light h (fun ad ha t => by injection ha with ha; subst ha; simp only at t; omega))
      have HOF := Lib.hid (fun wx A c s (hA : NetAt wx B nb B A c s) (ls : List Let) (_ : ls ≠ []) => (show Off (mutN nb B A) (some ⟨g, 0, none⟩) from fun ad ha t => by injection ha with ha; subst ha; have := fn_low hA _ t; simp only at this; omega))
      have HS1 := Lib.hid (fun wx (hC : LeB B w1 wx) (hT : FN B nb [] 0 0 0 wx) => (fsend hT (by simp) (by omega) (by omega) (by omega) (by omega) (Nat.le_trans hsz1 hC.size) (HGX.out wx hC) (some ⟨g, 0, none⟩) c1 (vs 5000) (HLX.out wx hC) vs_light (vs_right (by omega)) (by rw [vs_len]; omega) 5000 (vs_len _).symm (fun A c s hA _ h => HOF.out wx A c s hA _ h)))
      have HS2 := Lib.hid (fun wx (hC : LeB B w1 wx) (hT : FN B nb (Vc 5000) 5000 0 0 wx) => (fsend hT (by rw [Vc_len]; omega) (by omega) (by omega) (by omega) (by omega) (Nat.le_trans hsz1 hC.size) (HGX.out wx hC) (some ⟨g, 0, none⟩) c1 (vs 4999) (by rw [vs_take (show 4999 ≤ 5000 by omega)]; exact (HLX.out wx hC).take _) vs_light (vs_right (by omega)) (by rw [vs_len]; omega) 4999 (vs_len _).symm (fun A c s hA _ h => HOF.out wx A c s hA _ h)))
      have HS3 := Lib.hid (fun wx (hC : LeB B w1 wx) (hT : FN B nb K2 9999 0 0 wx) => (fsend hT (by rw [K2_len]; omega) (by omega) (by omega) (by omega) (by omega) (Nat.le_trans hsz1 hC.size) (HGX.out wx hC) (some ⟨g, 0, none⟩) c1 (vs 2) (by rw [vs_take (show 2 ≤ 5000 by omega)]; exact (HLX.out wx hC).take _) vs_light (vs_right (by omega)) (by rw [vs_len]; omega) 2 (vs_len _).symm (fun A c s hA _ h => HOF.out wx A c s hA _ h)))
      have HFN := Lib.hid hFN
      have hcz : (4999 : Int) ≤ (c1 : Int) := by omega
      have hcz2 : (2 : Int) ≤ (c1 : Int) := by omega
      clear hN hE1 hFN
      go_upto_region 7 with (fail)
      refine Stab.wp_region_lex (LeB B) (LeB B w1) (FN B nb [] 0 0 0) (by kernel_rfl) (by kernel_rfl) (fun _ _ h => Fr.ofExt _ h) (fun _ _ h k => h.trans k (fun _ _ t => t)) (fun _ _ h k => h.ext k) ((Fr.refl _ w1).drew) (HFN.out.ext (Ext.refl _).drew) ?_
      simp only [Stab.zipL, Nat.reduceAdd]
      iterate 2 (refine Stab.wpX_val rfl rfl ?_; apply Exists.intro; refine ⟨fun wx hC _ => ?_, ?_⟩; (go_simp; exact ⟨Ext.refl _, rfl⟩); simp only [Act.put, List.setIfInBounds_toArray, List.set_cons_zero, List.set_cons_succ])
      refine Stab.wpX_call (fun u _ => u = .int .i64 0) (fun _ => FN B nb (Vc 5000) 5000 0 0) rfl rfl (fun _ _ _ h _ => h) (fun _ _ _ h k => h.ext k) ?_ ?_
      · intro wx hC hT hF
        go_simp
        refine ⟨rfl, ?_⟩
        refine (HS1.out wx hC hT).mono ?_
        rintro ev w11 (⟨_, rfl, h1, h2⟩ | ⟨h, _⟩)
        · rw [vs_cont] at h2
          exact ⟨h1, rfl, h2⟩
        · simp at h
      rintro ux ⟨_, _, rfl, _⟩
      simp only [Act.put, List.setIfInBounds_toArray, List.set_cons_zero, List.set_cons_succ]
      iterate 3 (refine Stab.wpX_val rfl rfl ?_; apply Exists.intro; refine ⟨fun wx hC _ => ?_, ?_⟩; (go_simp; exact ⟨Ext.refl _, rfl⟩); simp only [Act.put, List.setIfInBounds_toArray, List.set_cons_zero, List.set_cons_succ])
      refine Stab.wpX_call (fun u _ => u = .int .i64 0) (fun _ => FN B nb K2 9999 0 0) rfl rfl (fun _ _ _ h _ => h) (fun _ _ _ h k => h.ext k) ?_ ?_
      · intro wx hC hT hF
        go_simp
        refine ⟨rfl, ?_⟩
        refine (HS2.out wx hC hT).mono ?_
        rintro ev w11 (⟨_, rfl, h1, h2⟩ | ⟨h, _⟩)
        · rw [vs_cont] at h2
          exact ⟨h1, rfl, h2⟩
        · rw [Vc_len] at h
          omega
      rintro ux ⟨_, _, rfl, _⟩
      simp only [Act.put, List.setIfInBounds_toArray, List.set_cons_zero, List.set_cons_succ]
      iterate 3 (refine Stab.wpX_val rfl rfl ?_; apply Exists.intro; refine ⟨fun wx hC _ => ?_, ?_⟩; (go_simp; exact ⟨Ext.refl _, rfl⟩); simp only [Act.put, List.setIfInBounds_toArray, List.set_cons_zero, List.set_cons_succ])
      refine Stab.wpX_call (fun u _ => u = .int .i64 3) (fun _ => FN B nb K2 9999 0 0) rfl rfl (fun _ _ _ h _ => h) (fun _ _ _ h k => h.ext k) ?_ ?_
      · intro wx hC hT hF
        go_simp
        refine ⟨rfl, ?_⟩
        refine (HS3.out wx hC hT).mono ?_
        rintro ev w11 (⟨h, _⟩ | ⟨_, rfl, h1⟩)
        · rw [K2_len] at h
          omega
        · exact ⟨Fr.ofExt _ h1, rfl, hT.ext h1⟩
      rintro ux ⟨_, _, rfl, _⟩
      simp only [Act.put, List.setIfInBounds_toArray, List.set_cons_zero, List.set_cons_succ]
      iterate 3 (refine Stab.wpX_val rfl rfl ?_; apply Exists.intro; refine ⟨fun wx hC _ => ?_, ?_⟩; (go_simp; exact ⟨Ext.refl _, rfl⟩); simp only [Act.put, List.setIfInBounds_toArray, List.set_cons_zero, List.set_cons_succ])
      refine Stab.wpX_end fun w2 hC2 hT2 _ => ?_
      have HC2 := Lib.hid hC2
      have HFN2 := Lib.hid hT2
      have hsz2 : B ≤ w2.heap.size := Nat.le_trans hsz1 hC2.size
      have HGY := Lib.hid (fun wx (h : LeS B w2 wx) => (HGX.out w2 hC2).fr h.1 (fun t => by omega))
      have HLY := Lib.hid (fun wx (h : LeS B w2 wx) => (HLX.out w2 hC2).frL vs_light h.1 (fun ad ha t => by injection ha with ha; subst ha; simp only at t; omega))
      have HC21 := Lib.hid (fun wx (hC : LeS B w2 wx) (hT : FN B nb K2 9999 0 0 wx) => (fcopy hT (by rw [K2_len]; omega) (by omega) (by omega) (by omega) (by omega) (Nat.le_trans hsz2 hC.1.size) (HGY.out wx hC) 9 (by rw [K2_len]; omega) (by rw [K2_len]; omega)))
      have HC22 := Lib.hid (fun wx (hC : LeS B w2 wx) (hT : FN B nb K3 9999 0 1 wx) => (fcopy hT (by rw [K3_len]; omega) (by omega) (by omega) (by omega) (by omega) (Nat.le_trans hsz2 hC.1.size) (HGY.out wx hC) 9 (by rw [K3_len]; omega) (by rw [K3_len]; omega)))
      have HS4 := Lib.hid (fun wx (hC : LeS B w2 wx) (hT : FN B nb K3 9999 0 1 wx) b (hb : wx.heap[b]? = some (.cells (voteL 1 2 0).arr 35)) => (fsend hT (by rw [K3_len]; omega) (by omega) (by omega) (by omega) (by omega) (Nat.le_trans hsz2 hC.1.size) (HGY.out wx hC) (some ⟨b, 0, none⟩) 1 [voteL 1 2 0] (LetsIn.of (fun j v hv => ⟨_, rfl, by rw [add_lit', Nat.zero_add, cell_of_heap hb]; simpa [flat] using hv⟩) (fun l hl => by simp at hl; subst hl; exact vote_in _ _ _ _)) (fun l hl => by simp at hl; subst hl; exact vote_light _ _ _) (by simp [right_vote]) (by simp) 1 rfl (fun A c s hA hs _ => fun ad ha t => by injection ha with ha; subst ha; exact fn_off hA (by rw [hs, K3_len]; omega) hb (arr_len' _) t)))
      clear hC2 hT2
      go_upto_region 8 with (fail)
      refine Stab.wp_region_lex (LeS B) (LeS B w2) (FN B nb K2 9999 0 0) (by kernel_rfl) (by kernel_rfl) (fun _ _ h => LeS.ofExt h) (fun _ _ h k => LeS.trans h k) (fun _ _ h k => h.ext k) (LeS.ofExt (Ext.refl w2).drew) (HFN2.out.ext (Ext.refl _).drew) ?_
      simp only [Stab.zipL, Nat.reduceAdd]
      iterate 1 (refine Stab.wpX_val rfl rfl ?_; apply Exists.intro; refine ⟨fun wx hC _ => ?_, ?_⟩; (go_simp; exact ⟨Ext.refl _, rfl⟩); simp only [Act.put, List.setIfInBounds_toArray, List.set_cons_zero, List.set_cons_succ])
      refine Stab.wpX_call (fun u _ => u = .int .i64 0) (fun _ => FN B nb K3 9999 0 1) rfl rfl (fun _ _ _ h _ => h) (fun _ _ _ h k => h.ext k) ?_ ?_
      · intro wx hC hT hF
        go_simp
        refine ⟨rfl, ?_⟩
        refine (HC21.out wx hC hT).mono ?_
        rintro ev w11 (⟨_, rfl, h1, h2⟩ | ⟨h, _⟩)
        · rw [K2_nine] at h2
          exact ⟨h1, rfl, h2⟩
        · rw [K2_len] at h
          omega
      rintro ux ⟨_, _, rfl, _⟩
      simp only [Act.put, List.setIfInBounds_toArray, List.set_cons_zero, List.set_cons_succ]
      iterate 1 (refine Stab.wpX_val rfl rfl ?_; apply Exists.intro; refine ⟨fun wx hC _ => ?_, ?_⟩; (go_simp; exact ⟨Ext.refl _, rfl⟩); simp only [Act.put, List.setIfInBounds_toArray, List.set_cons_zero, List.set_cons_succ])
      refine Stab.wpX_call (fun u _ => u = .int .i64 3) (fun _ => FN B nb K3 9999 0 1) rfl rfl (fun _ _ _ h _ => h) (fun _ _ _ h k => h.ext k) ?_ ?_
      · intro wx hC hT hF
        go_simp
        refine ⟨rfl, ?_⟩
        refine (HC22.out wx hC hT).mono ?_
        rintro ev w11 (⟨h, _⟩ | ⟨_, rfl, h1⟩)
        · rw [K3_len] at h
          omega
        · exact ⟨LeS.ofExt h1, rfl, hT.ext h1⟩
      rintro ux ⟨_, _, rfl, _⟩
      simp only [Act.put, List.setIfInBounds_toArray, List.set_cons_zero, List.set_cons_succ]
      iterate 3 (refine Stab.wpX_val rfl rfl ?_; apply Exists.intro; refine ⟨fun wx hC _ => ?_, ?_⟩; (go_simp; exact ⟨Ext.refl _, rfl⟩); simp only [Act.put, List.setIfInBounds_toArray, List.set_cons_zero, List.set_cons_succ])
      (refine Stab.wpX_val rfl rfl ?_; apply Exists.intro; refine ⟨fun wx hC _ => ?_, ?_⟩; (exact yieldsP_let _ rfl g 0 (voteL 1 2 0) rfl (fun j v hv => by
        obtain ⟨b, f, hbf, hr, _⟩ := (HLY.out wx hC) 0 (voteL 1 2 0) rfl
        injection hbf with hbf
        injection hbf with hbf hff
        subst hbf hff
        exact hr j v hv)); simp only [Act.put, List.setIfInBounds_toArray, List.set_cons_zero, List.set_cons_succ])
      refine Stab.wpX_new SmR rfl rfl rfl (SmR.up) (fun _ _ h k => h.ext k) ?_ ?_
      · intro wx hC hF
        have hV : (voteL 1 2 0).v = .agg (voteL 1 2 0).arr := rfl
        rw [hV]
        go_simp
        exact ⟨(Ext.refl _).alloc _, wx.heap.size, rfl, by rw [heap_alloc_new]; exact congrArg (fun c => some (Obj.cells c 35 (0, 0))) (buildL (voteL 1 2 0))⟩
      rintro ux ⟨_, _, ⟨bs, rfl, _⟩, _⟩
      simp only [Act.put, List.setIfInBounds_toArray, List.set_cons_zero, List.set_cons_succ]
      refine Stab.wpX_call (fun u _ => u = .int .i64 3) (fun _ => FN B nb K3 9999 0 1) rfl rfl (fun _ _ _ h _ => h) (fun _ _ _ h k => h.ext k) ?_ ?_
      · intro wx hC hT hF
        obtain ⟨b7, h5, h6⟩ := (hF 8 (by kernel_rfl)).2 rfl
        injection h5 with h5 _ _
        injection h5 with h5
        injection h5 with h5 _ _
        subst h5
        go_simp
        refine ⟨rfl, ?_⟩
        refine (HS4.out wx hC hT bs h6).mono ?_
        rintro ev w11 (⟨h, _⟩ | ⟨_, rfl, h1⟩)
        · rw [K3_len] at h
          omega
        · exact ⟨LeS.ofExt h1, rfl, hT.ext h1⟩
      rintro ux ⟨_, _, rfl, _⟩
      simp only [Act.put, List.setIfInBounds_toArray, List.set_cons_zero, List.set_cons_succ]
      iterate 3 (refine Stab.wpX_val rfl rfl ?_; apply Exists.intro; refine ⟨fun wx hC _ => ?_, ?_⟩; (go_simp; exact ⟨Ext.refl _, rfl⟩); simp only [Act.put, List.setIfInBounds_toArray, List.set_cons_zero, List.set_cons_succ])
      refine Stab.wpX_end fun w4 hC4 hT4 _ => ?_
      have HE4 := Lib.hid (Fr.low HEB.out.1 ((Fr.ofExt _ HEB.out.2).trans (HC2.out.trans hC4.1 (fun _ _ t => t)) (fun _ _ t => t)) (fun i hi => Nat.le_trans hwr hi))
      have HTK := Lib.hid (ftake hT4 (by rw [K3_len]; omega) (by omega) (by omega) (by omega) (by omega) (HGY.out w4 hC4) (-1) 9999 (by rw [K3_len]; omega) (by rw [K3_len]; rfl))
      have hsz4 : B ≤ w4.heap.size := Nat.le_trans hsz2 hC4.1.size
      clear hC4 hT4
      go_wp2_with fail
      refine (HTK.out).mono ?_
      rintro ev w5 ⟨u, huc, rfl, hL5, hFN5⟩
      rw [K3_last] at huc
      have hut := cv9_term huc
      have HE5 := Lib.hid (Fr.low HE4.out hL5 (fun i hi => Nat.le_trans hwr hi))
      have HFN5 := Lib.hid (show FN B nb K4 9999 1 1 w5 from hFN5)
      have hsz5 : B ≤ w5.heap.size := Nat.le_trans hsz4 hL5.size
      clear hL5 hFN5 huc
      go_wp2_with (refine wpList_store_all rfl _ _ rfl rfl w5.heap.size u _ rfl rfl (heap_alloc_new w5 _) (by simp) ?_; intro w6 hG6 hF6; have HE6 := Lib.hid (show Ext w5 w6 from ((Fr.ofExt (isB w5.heap.size) ((Ext.refl w5).alloc _)).trans hF6 (fun _ _ h => h)).toExt (fun i hi => by unfold isB at hi; omega)); have d3 : w6.cell? ⟨w5.heap.size, 3, none⟩ = some (.int .i64 9) := (by rw [cell_of_heap hG6]; simp [Let.arr, hut]); have HCN := Lib.hid (fcount (HFN5.out.ext HE6.out)); rw [K4_len] at HCN; clear hG6 hF6)
      refine (HCN.out).mono ?_
      rintro ev w7 ⟨rfl, hE7⟩
      have HE7 := Lib.hid (HE6.out.trans hE7)
      have HSN := Lib.hid (fsend (HFN5.out.ext HE7.out) (by rw [K4_len]; omega) (by omega) (by omega) (by omega) (by omega) (by have := HE7.out.sz; omega) ((HG.out.ext HE5.out).ext HE7.out) none 0 [] (LetsIn.nil _ _) (fun l hl => by simp at hl) rfl (by simp) 0 rfl (fun _ _ _ _ _ h => absurd rfl h))
      clear hE7
      have hfld := fieldUnder 9999 9999 1 0 1
      go_wp2_with fail
      refine (HSN.out).mono ?_
      rintro ev w8 (⟨_, rfl, h1, h2⟩ | ⟨h, _⟩)
      · have HE8 := Lib.hid (Fr.low (HE5.out.trans HE7.out) h1 (fun i hi => Nat.le_trans hwr hi))
        clear h1 h2
        go_wp2_with fail
        go_ret
        exact ⟨rfl, HE8.out⟩
      · rw [K4_len] at h
        omega
end Go.Proofs.YtjnllilmimngoaaGreatDoor
namespace Go.Proofs.YtjnllilmimngoaaGreatDoor
open Go.RowKit

/-- No net, or one without a bag. -/
def NoNet (w : World) (p : Option Addr) : Prop := p = none ∨ ∃ nb, p = some ⟨nb, 0, none⟩ ∧ w.cell? ⟨nb, 0, none⟩ = some (.pointer none)
theorem NoNet.ext {w w' : World} {p : Option Addr} (h : NoNet w p) (he : Ext w w') : NoNet w' p := h.imp id fun ⟨nb, h1, h2⟩ => ⟨nb, h1, he.cell h2⟩
theorem there_no (w : World) (p : Option Addr) (h : NoNet w p) : Calls Tryz.prog 40 #[.pointer p] w fun e w' => e = .returned (.bool false) ∧ w = w' := by
  rcases h with rfl | ⟨nb, rfl, c0⟩
  · go_enter Tryz.func40, Tryz.ntmps40
    go_wp2
    go_ret
    exact ⟨rfl, rfl⟩
  · go_enter Tryz.func40, Tryz.ntmps40
    go_wp2
    go_ret
    exact ⟨rfl, rfl⟩
theorem send_no (w : World) (p : Option Addr) (h : NoNet w p) : Calls Tryz.prog 16 #[.pointer p, .slice none 0 0] w fun e w' => e = .returned (.int .i64 1) ∧ Ext w w' := by
  have HT := Lib.hid (there_no w p h)
  clear h
  go_enter Tryz.func16, Tryz.ntmps16
  go_wp2_with fail
  refine (HT.out).mono ?_
  rintro ev w1 ⟨rfl, rfl⟩
  go_wp2_with fail
  go_ret
  exact ⟨rfl, Ext.refl _⟩
theorem copy_no (w : World) (p : Option Addr) (h : NoNet w p) (i : Int) : Calls Tryz.prog 17 #[.pointer p, .int .i64 i] w fun e w' => e = .returned (.int .i64 1) ∧ Ext w w' := by
  have HT := Lib.hid (there_no w p h)
  clear h
  go_enter Tryz.func17, Tryz.ntmps17
  go_wp2_with fail
  refine (HT.out).mono ?_
  rintro ev w1 ⟨rfl, rfl⟩
  go_wp2_with fail
  go_ret
  exact ⟨rfl, Ext.refl _⟩
theorem drop_no (w : World) (p : Option Addr) (h : NoNet w p) (i : Int) : Calls Tryz.prog 20 #[.pointer p, .int .i64 i] w fun e w' => e = .returned (.int .i64 1) ∧ Ext w w' := by
  have HT := Lib.hid (there_no w p h)
  clear h
  go_enter Tryz.func20, Tryz.ntmps20
  go_wp2_with fail
  refine (HT.out).mono ?_
  rintro ev w1 ⟨rfl, rfl⟩
  go_wp2_with fail
  go_ret
  exact ⟨rfl, Ext.refl _⟩
theorem cut_no (w : World) (p : Option Addr) (h : NoNet w p) (i : Int) (b : Bool) : Calls Tryz.prog 21 #[.pointer p, .int .i64 i, .bool b] w fun e w' => e = .returned (.int .i64 1) ∧ Ext w w' := by
  have HT := Lib.hid (there_no w p h)
  clear h
  go_enter Tryz.func21, Tryz.ntmps21
  go_wp2_with fail
  refine (HT.out).mono ?_
  rintro ev w1 ⟨rfl, rfl⟩
  go_wp2_with fail
  go_ret
  exact ⟨rfl, Ext.refl _⟩
theorem look_no (w : World) (p : Option Addr) (h : NoNet w p) : Calls Tryz.prog 15 #[.pointer p] w fun e w' => e = .returned (.slice none 0 0) ∧ Ext w w' := by
  have HT := Lib.hid (there_no w p h)
  clear h
  go_enter Tryz.func15, Tryz.ntmps15
  go_wp2_with fail
  refine (HT.out).mono ?_
  rintro ev w1 ⟨rfl, rfl⟩
  go_wp2_with fail
  go_ret
  exact ⟨rfl, Ext.refl _⟩
theorem off_no (w : World) (p : Option Addr) (h : NoNet w p) : Calls Tryz.prog 22 #[.pointer p] w fun e w' => e = .returned (.slice none 0 0) ∧ Ext w w' := by
  have HT := Lib.hid (there_no w p h)
  clear h
  go_enter Tryz.func22, Tryz.ntmps22
  go_wp2_with fail
  refine (HT.out).mono ?_
  rintro ev w1 ⟨rfl, rfl⟩
  go_wp2_with fail
  go_ret
  exact ⟨rfl, Ext.refl _⟩
theorem count_no (w : World) (p : Option Addr) (h : NoNet w p) : Calls Tryz.prog 19 #[.pointer p] w fun e w' => e = .returned (.agg #[.int .i64 0, .int .i64 0, .int .i64 0, .int .i64 0, .int .i64 0]) ∧ Ext w w' := by
  have hE := (Ext.refl w).alloc (.cells #[.int .i64 0, .int .i64 0, .int .i64 0, .int .i64 0, .int .i64 0] 57)
  have HT := Lib.hid (there_no _ p (h.ext hE))
  have HE := Lib.hid hE
  clear h hE
  go_enter Tryz.func19, Tryz.ntmps19
  go_wp2_with fail
  refine (HT.out).mono ?_
  rintro ev w1 ⟨rfl, rfl⟩
  go_wp2_with fail
  exact bodyPost_ret (v := .agg #[.int .i64 0, .int .i64 0, .int .i64 0, .int .i64 0, .int .i64 0]) (results_cell_row Tryz.results19 _ _ w.heap.size 57 _ (0, 0) _ rfl (heap_alloc_new w _) Tryz.underlying57 rfl (by rw [infoCount]; rfl)) rfl ⟨rfl, HE.out⟩
set_option maxRecDepth 100000 in
set_option maxHeartbeats 1000000 in
theorem take_no (w : World) (p : Option Addr) (h : NoNet w p) (i : Int) : Calls Tryz.prog 18 #[.pointer p, .int .i64 i] w fun e w' => e = .returned (.tuple #[voteZ.v, .int .i64 1]) ∧ Ext w w' := by
  have hE := (Ext.refl w).alloc (.cells voteZ.arr 35)
  have HT := Lib.hid (there_no _ p (h.ext hE))
  have HE := Lib.hid hE
  clear h hE
  go_enter Tryz.func18, Tryz.ntmps18
  go_wp2_with fail
  refine (HT.out).mono ?_
  rintro ev w1 ⟨rfl, rfl⟩
  go_wp2_with (refine wpList_store_all rfl _ _ rfl rfl w.heap.size voteZ _ rfl rfl (heap_alloc_new w _) (by simp [Let.arr]) ?_; intro w8 hG8 hF8; have HF8 := Lib.hid hF8; have HG8 := Lib.hid hG8; clear hG8 hF8)
  exact bodyPost_ret (v := .tuple #[voteZ.v, .int .i64 1]) (results_let Tryz.results18 _ _ _ voteZ _ rfl rfl HG8.out) rfl ⟨rfl, ((Fr.ofExt (isB w.heap.size) HE.out).trans HF8.out (fun _ _ h => h)).toExt (fun i hi => by unfold isB at hi; omega)⟩
def netZ : Array Value := #[.pointer none, .bool false, .bool false, .bool false, .bool false, .bool false, .bool false, .bool false, .bool false]
def NoRel (w : World) (i : Value) (wr : World) : Prop := ∃ k : Nat, k ≤ 2 ∧ i = .int .i64 k ∧ Ext w wr
set_option maxRecDepth 100000 in
set_option maxHeartbeats 4000000 in
theorem none_any (w : World) : Calls Tryz.prog 7 #[] w fun e w' => e = .returned (.bool true) ∧ Ext w w' := by
  have hE := ((Ext.refl w).alloc (.cells netZ 62)).alloc (.cells #[.pointer none, .pointer (some ⟨w.heap.size, 0, none⟩)] 42)
  have h0 := heap0 w (.cells netZ 62) (.cells #[.pointer none, .pointer (some ⟨w.heap.size, 0, none⟩)] 42)
  have h1 := heap1 w (.cells netZ 62) (.cells #[.pointer none, .pointer (some ⟨w.heap.size, 0, none⟩)] 42)
  have HL := Lib.hid (show ∀ k, k < 2 → ∃ p, ((w.alloc (.cells netZ 62)).alloc (.cells #[.pointer none, .pointer (some ⟨w.heap.size, 0, none⟩)] 42)).cell? ⟨w.heap.size + 1, k, none⟩ = some (.pointer p) ∧ NoNet ((w.alloc (.cells netZ 62)).alloc (.cells #[.pointer none, .pointer (some ⟨w.heap.size, 0, none⟩)] 42)) p from fun k hk => by
    rcases (by omega : k = 0 ∨ k = 1) with rfl | rfl
    · exact ⟨none, by rw [cell_of_heap h1]; rfl, .inl rfl⟩
    · exact ⟨some ⟨w.heap.size, 0, none⟩, by rw [cell_of_heap h1]; rfl, .inr ⟨w.heap.size, rfl, by rw [cell_of_heap h0]; rfl⟩⟩)
  have HE := Lib.hid hE
  clear hE h0 h1
  go_enter Tryz.func7, Tryz.ntmps7
  unfold netZ at HL HE
  go_wp2_with fail
  generalize hlb : w.heap.size + 1 = lb at *
  generalize (w.alloc (.cells #[.pointer none, .bool false, .bool false, .bool false, .bool false, .bool false, .bool false, .bool false, .bool false] 62)).alloc (.cells #[.pointer none, .pointer (some ⟨w.heap.size, 0, none⟩)] 42) = w1 at *
  go_loopw [2] (fun i wr => NoRel w1 i wr) (fun i _ => 2 - (intOf i).toNat)
  case atStart => exact ⟨0, Nat.zero_le _, rfl, Ext.refl _⟩
  case round =>
    obtain ⟨k, hk, rfl, hE⟩ := hrel
    by_cases hlt : k < 2
    · obtain ⟨p, hp, hno⟩ := HL.out k hlt
      have hpc := hE.cell hp
      have HNO := Lib.hid (hno.ext hE)
      have HE1 := Lib.hid hE
      clear hE hp hno
      go_wp2_with fail
      refine (take_no wr p HNO.out 0).mono ?_
      rintro ev w2 ⟨rfl, hE2⟩
      have HE2 := Lib.hid hE2
      clear hE2 hpc
      go_wp2_with (refine wpList_store_all rfl _ _ rfl rfl w2.heap.size voteZ _ rfl rfl (heap_alloc_new w2 _) (by simp) ?_; intro w3 hG3 hF3; have HE3 := Lib.hid (HE2.out.trans (show Ext w2 w3 from ((Fr.ofExt (isB w2.heap.size) ((Ext.refl w2).alloc _)).trans hF3 (fun _ _ h => h)).toExt (fun i hi => by unfold isB at hi; omega))); have d3 : w3.cell? ⟨w2.heap.size, 0, none⟩ = some (.int .i64 0) := (by rw [cell_of_heap hG3]; rfl); clear hG3 hF3)
      refine (send_no w3 p (HNO.out.ext HE3.out)).mono ?_
      rintro ev w4 ⟨rfl, hE4⟩
      have HE4 := Lib.hid (HE3.out.trans hE4)
      clear hE4 d3
      go_wp2_with fail
      refine (copy_no w4 p (HNO.out.ext HE4.out) 0).mono ?_
      rintro ev w5 ⟨rfl, hE5⟩
      have HE5 := Lib.hid (HE4.out.trans hE5)
      clear hE5
      go_wp2_with fail
      refine (drop_no w5 p (HNO.out.ext HE5.out) 0).mono ?_
      rintro ev w6 ⟨rfl, hE6⟩
      have HE6 := Lib.hid (HE5.out.trans hE6)
      clear hE6
      go_wp2_with fail
      refine (cut_no w6 p (HNO.out.ext HE6.out) 1 true).mono ?_
      rintro ev w7 ⟨rfl, hE7⟩
      have HE7 := Lib.hid (HE6.out.trans hE7)
      clear hE7
      go_wp2_with fail
      refine (look_no w7 p (HNO.out.ext HE7.out)).mono ?_
      rintro ev w8 ⟨rfl, hE8⟩
      have HE8 := Lib.hid (HE7.out.trans hE8)
      clear hE8
      go_wp2_with fail
      refine (off_no w8 p (HNO.out.ext HE8.out)).mono ?_
      rintro ev w9 ⟨rfl, hE9⟩
      have HE9 := Lib.hid (HE8.out.trans hE9)
      clear hE9
      go_wp2_with fail
      refine (count_no w9 p (HNO.out.ext HE9.out)).mono ?_
      rintro ev w10 ⟨rfl, hE10⟩
      have HE10 := Lib.hid (HE9.out.trans hE10)
      clear hE10
      go_wp2_with fail
      exact ⟨⟨k + 1, by omega, by go_num, HE1.out.trans HE10.out⟩, by simp [intOf]; omega⟩
    · obtain rfl : k = 2 := by omega
      go_wp2_with fail
      go_ret
      exact ⟨rfl, HE.out.trans hE⟩
end Go.Proofs.YtjnllilmimngoaaGreatDoor
namespace Go.Proofs.YtjnllilmimngoaaGreatDoor
open Go.RowKit

theorem flat4_get {ds : List Deed} {k j : Nat} {d : Deed} {v : Value} (h : ds[k]? = some d) (hj : d.cells[j]? = some v) : (ds.flatMap Deed.cells)[k * 4 + j]? = some v := by
  have hj4 : j < 4 := by
    have := (List.getElem?_eq_some_iff.1 hj).1
    simpa [Deed.cells] using this
  induction ds generalizing k with
  | nil => simp at h
  | cons x xs ih =>
    rw [List.flatMap_cons]
    cases k with
    | zero =>
      simp only [List.getElem?_cons_zero, Option.some.injEq] at h
      subst h
      rw [List.getElem?_append_left (by simp [Deed.cells]; omega)]
      simpa using hj
    | succ k =>
      rw [List.getElem?_cons_succ] at h
      rw [List.getElem?_append_right (by simp [Deed.cells]; omega)]
      have h4 : (k + 1) * 4 + j - x.cells.length = k * 4 + j := by simp [Deed.cells]; omega
      rw [h4]
      exact ih h
theorem DeedsIn.of {w : World} {b : Nat} {ds : List Deed} {e : TypeId} (h : w.heap[b]? = some (.cells (ds.flatMap Deed.cells).toArray e)) (hd : ∀ d ∈ ds, d.inW w) : DeedsIn w (some ⟨b, 0, none⟩) ds := fun k d hk =>
  ⟨b, 0, rfl, fun j v hv => by
    rw [Nat.zero_add, cell_of_heap h]
    simpa using flat4_get hk hv, hd d (List.mem_of_getElem? hk)⟩
def three : List Let := [voteL 1 2 0, voteL 2 3 1, voteL 3 1 2]
theorem three_light : ∀ l ∈ three, l.light := fun l hl => by
  simp [three] at hl
  rcases hl with rfl | rfl | rfl <;> exact vote_light _ _ _
structure NX where
  b1 : Nat
  b2 : Nat
  q : Nat
  y : Int
  x1 : Int
  x2 : Int
  x3 : Int
  x4 : Int
  x5 : Int
  x6 : Int
  x7 : Int
  x8 : Int
  x9 : Int
  x10 : Int
  x11 : Int
  x12 : Int
  x13 : Int
def NX.ds (n : NX) : List Deed := [⟨0, 0, false, some ⟨n.b1, 0, none⟩, 3, three.take n.q⟩, ⟨5, n.x1, true, none, 0, []⟩, ⟨n.x2, n.x3, false, none, 0, []⟩, ⟨n.x4, n.x5, false, none, 0, []⟩, ⟨0, 0, false, some ⟨n.b2, 0, none⟩, 1, [voteL n.y 7 3]⟩, ⟨n.x6, n.x7, false, none, 0, []⟩, ⟨5, n.x8, false, none, 0, []⟩, ⟨n.x9, n.x10, false, none, 0, []⟩, ⟨n.x11, n.x12, false, none, 0, []⟩]
def NX.cells (n : NX) : Array Value := #[.int .i64 0, .int .i64 0, .bool false, .slice (some ⟨n.b1, 0, none⟩) n.q 3, .int .i64 5, .int .i64 n.x1, .bool true, .slice none 0 0, .int .i64 n.x2, .int .i64 n.x3, .bool false, .slice none 0 0, .int .i64 n.x4, .int .i64 n.x5, .bool false, .slice none 0 0, .int .i64 0, .int .i64 0, .bool false, .slice (some ⟨n.b2, 0, none⟩) 1 1, .int .i64 n.x6, .int .i64 n.x7, .bool false, .slice none 0 0, .int .i64 5, .int .i64 n.x8, .bool false, .slice none 0 0, .int .i64 n.x9, .int .i64 n.x10, .bool false, .slice none 0 0, .int .i64 n.x11, .int .i64 n.x12, .bool false, .slice none 0 0]
theorem NX.cells_eq (n : NX) (hq : n.q ≤ 3) : n.cells = (n.ds.flatMap Deed.cells).toArray := by
  have h : (three.take n.q).length = n.q := by rw [List.length_take]; simp [three]; omega
  simp [NX.cells, NX.ds, Deed.cells, h]
theorem light_modest {l : Let} (h : l.light) : l.modest := fun x hx => by rw [h.e] at hx; simp at hx
/-- What lies in memory when the deeds are made. -/
structure NX.at_ (n : NX) (b : Nat) (w : World) : Prop where
  h : w.heap[b]? = some (.cells n.cells 38)
  h1 : w.heap[n.b1]? = some (.cells (flat three).toArray 35)
  h2 : w.heap[n.b2]? = some (.cells (flat [voteL n.y 7 3]).toArray 35)
  q : n.q ≤ 3
theorem lets_heap {w : World} {b : Nat} {ls : List Let} {e : TypeId} (h : w.heap[b]? = some (.cells (flat ls).toArray e)) (hl : ∀ l ∈ ls, l.light) : LetsIn w (some ⟨b, 0, none⟩) ls :=
  LetsIn.of (fun j v hv => ⟨_, rfl, by
    rw [add_lit', Nat.zero_add, cell_of_heap h]
    simpa using hv⟩) (fun l h' => (hl l h').inW w)
theorem NX.at_.deeds {n : NX} {b : Nat} {w : World} (h : n.at_ b w) : DeedsIn w (some ⟨b, 0, none⟩) n.ds ∧ ∀ d ∈ n.ds, d.good w.heap.size := by
  have hh := h.h
  rw [n.cells_eq h.q] at hh
  have hv := vote_light n.y 7 3
  have hnil : ∀ (d : Deed), d.ls = [] → d.lA = none → d.inW w ∧ d.good w.heap.size := fun d h1 h2 => ⟨⟨by rw [h1]; exact LetsIn.nil _ _, by rw [h1]; simp, fun l hl => by rw [h1] at hl; simp at hl⟩, ⟨fun l hl => by rw [h1] at hl; simp at hl, fun i hi => by rw [h2] at hi; simp [blk] at hi⟩⟩
  have hin : ∀ d ∈ n.ds, d.inW w ∧ d.good w.heap.size := fun d hd => by
    simp only [NX.ds, List.mem_cons, List.not_mem_nil, or_false] at hd
    rcases hd with rfl | rfl | rfl | rfl | rfl | rfl | rfl | rfl | rfl
    · have hl : ∀ l ∈ three.take n.q, l.light := fun l hl => three_light l (List.mem_of_mem_take hl)
      refine ⟨⟨(lets_heap h.h1 three_light).take _, ?_, fun l hl' => light_modest (hl l hl')⟩, hl, fun i hi => ?_⟩
      · simp only [List.length_take]
        have := h.q
        omega
      · have := heap_lt h.h1
        simp [blk] at hi
        omega
    · exact hnil _ rfl rfl
    · exact hnil _ rfl rfl
    · exact hnil _ rfl rfl
    · have hl : ∀ l ∈ [voteL n.y 7 3], l.light := fun l hl => by simp at hl; subst hl; exact hv
      refine ⟨⟨lets_heap h.h2 hl, by simp, fun l hl' => light_modest (hl l hl')⟩, hl, fun i hi => ?_⟩
      have := heap_lt h.h2
      simp [blk] at hi
      omega
    · exact hnil _ rfl rfl
    · exact hnil _ rfl rfl
    · exact hnil _ rfl rfl
    · exact hnil _ rfl rfl
  exact ⟨DeedsIn.of hh fun d hd => (hin d hd).1, fun d hd => (hin d hd).2⟩
end Go.Proofs.YtjnllilmimngoaaGreatDoor
