/-
  What is kept is told to be: rows of entries, snapshots, letters.
  What is kept is told to be: snapshots, letters.
  A letter that is lent and not written is told to be kept; it puts as the letter puts.
  Marks: identities, entries, letters.
-/
import Derived.Test.YtjnllilmimngoaaGreatDoorM29
import Derived.Test.YtjnllilmimngoaaGreatDoorM26
import Derived.Test.YtjnllilmimngoaaGreatDoorM14
import Derived.Test.YtjnllilmimngoaaGreatDoorM28
import Derived.Test.YtjnllilmimngoaaGreatDoorM16
import Derived.Test.YtjnllilmimngoaaGreatDoorM20
namespace Go.Proofs.YtjnllilmimngoaaGreatDoor
open Go.RowKit

set_option maxRecDepth 100000 in
set_option maxHeartbeats 2000000 in
theorem sameEnts_true (B : Nat) (A D : Option Addr) (c d : Nat) (es es' : List Ent) (w : World) (hA : EntsIn w A es') (hD : EntsIn w D es) (hL : LentOf B es es' w) (hx : es.length ≤ 1000000000) :
    Calls Tryz.prog 55 #[.slice A es.length c, .slice D es.length d] w fun e w' => e = .returned (.bool true) ∧ Ext w w' := by
  have hne : ((es.length : Int) != (es.length : Int)) = false := by simp
  have HL := Lib.hid hL
  have hl := hL.1
  clear hL
  go_enter Tryz.func55, Tryz.ntmps55
  go_wp2
  go_loopw [5] (fun i wr => SmRel es.length w i wr) (fun i _ => es.length - (intOf i).toNat)
  case atStart => exact ⟨0, Nat.zero_le _, rfl, Ext.refl _⟩
  case round =>
    obtain ⟨k, hk, rfl, hE⟩ := hrel
    by_cases hlt : k < es.length
    · obtain ⟨b, f, x, rfl, hp, c0, c1, c2, c3, hix⟩ := (hA.ext hE).at_ (k := k) (by omega)
      obtain ⟨b2, f2, y, rfl, hp2, d0, d1, d2, d3, hiy⟩ := (hD.ext hE).at_ hlt
      obtain ⟨g, c', h1, _, _⟩ := HL.out.2 k y hp2
      rw [hp] at h1
      injection h1 with h1
      have HS := Lib.hid (fun w' (h : Ext wr w') => sameEnt_true x y w' (hix.1.ext h) (hiy.1.ext h) (by rw [h1]) (by rw [h1]) (by rw [h1]) (by rw [h1]) hix.2.2)
      unfold Ent.v at HS
      have C0 := Lib.hid c0
      have C1 := Lib.hid c1
      have C2 := Lib.hid c2
      have C3 := Lib.hid c3
      have D0 := Lib.hid d0
      have D1 := Lib.hid d1
      have D2 := Lib.hid d2
      have D3 := Lib.hid d3
      have HE := Lib.hid hE
      have hltx : k < es'.length := by omega
      clear c0 c1 c2 c3 d0 d1 d2 d3 hp hp2 h1 hix hiy hE
      go_wp2_with fail
      refine Stab.wp_region_lex Ext (Ext _) (fun _ => True) (by kernel_rfl) (by kernel_rfl) (fun _ _ h => h) (fun _ _ h k => Ext.trans h k) (fun _ _ _ _ => trivial) ((Ext.refl _).drew) trivial ?_
      simp only [Stab.zipL, Nat.reduceAdd]
      repeat (first
        | (refine Stab.wpX_skip rfl ?_; simp only [Act.put, List.setIfInBounds_toArray, List.set_cons_zero, List.set_cons_succ])
        | (refine Stab.wpX_val rfl rfl ?_; apply Exists.intro; refine ⟨fun wx hC _ => ?_, ?_⟩; (have q0 := hC.cell C0.out; have q1 := hC.cell C1.out; have q2 := hC.cell C2.out; have q3 := hC.cell C3.out; have q4 := hC.cell D0.out; have q5 := hC.cell D1.out; have q6 := hC.cell D2.out; have q7 := hC.cell D3.out; go_simp; exact ⟨Ext.refl _, rfl⟩); simp only [Act.put, List.setIfInBounds_toArray, List.set_cons_zero, List.set_cons_succ])
        | (refine Stab.wpX_call1 rfl rfl (fun _ _ _ _ => trivial) ?_; apply Exists.intro; refine ⟨fun wx hC _ _ => ?_, ?_⟩; (go_simp; refine ⟨rfl, ?_⟩; refine (HS.out _ hC).mono ?_; rintro ev w9 ⟨rfl, hb9⟩; (first | (subst hb9; exact ⟨Ext.refl _, rfl, trivial⟩) | (subst hb9; exact ⟨Ext.refl _, rfl⟩) | exact ⟨hb9, rfl, trivial⟩ | exact ⟨hb9, rfl⟩)); simp only [Act.put, List.setIfInBounds_toArray, List.set_cons_zero, List.set_cons_succ]))
      refine Stab.wpX_end fun w8 hC8 _ _ => ?_
      have HE8 := Lib.hid (HE.out.trans hC8)
      clear hC8
      go_wp2_with fail
      go_roundw
      case rel => exact ⟨k + 1, by omega, by go_num, HE8.out⟩
      case measure => simp [intOf]; omega
    · obtain rfl : k = es.length := by omega
      go_wp2
      go_ret
      exact ⟨rfl, hE⟩
set_option maxRecDepth 100000 in
set_option maxHeartbeats 4000000 in
theorem keptEnts_true (B g : Nat) (A : Option Addr) (c d : Nat) (es es' : List Ent) (w : World) (hg : EntsIn w (some ⟨g, 0, none⟩) (es' ++ mkEnts 12)) (hA : EntsIn w A es) (hL : LentOf B es es' w) (hz : es.length ≤ 1000000000) (hz2 : ∀ e ∈ es, e.bs.length ≤ 1000000000) (hc : es.length + 12 ≤ c) :
    Calls Tryz.prog 113 #[.slice (some ⟨g, 0, none⟩) es.length c, .slice A es.length d] w fun e w' => e = .returned (.bool true) ∧ Ext w w' := by
  have hne : ((es.length : Int) != (es.length : Int)) = false := by simp
  have HMI := Lib.hid (fun i w hi => markEntry_any i w hi)
  have HL := Lib.hid hL
  have hl := hL.1
  unfold Ent.v mkEnt at HMI
  clear hL
  go_enter Tryz.func113, Tryz.ntmps113
  go_wp2
  go_loopw [6] (fun i wr => KeptRelInts es.length w i wr) (fun i _ => es.length + 12 - (intOf i).toNat)
  case atStart => exact ⟨0, Nat.zero_le _, rfl, Ext.refl _⟩
  case round =>
    obtain ⟨k, hk, rfl, hE⟩ := hrel
    by_cases hlt : k < es.length + 12
    · obtain ⟨b, f, x, hb, hp, c0, c1, c2, c3, hix⟩ := (hg.ext hE).at_ (k := k) (by simp [mkEnts_length]; omega)
      injection hb with hb
      injection hb with hb hf
      subst hb hf
      simp only [Nat.zero_add] at c0 c1 c2 c3
      have C0 := Lib.hid c0
      have C1 := Lib.hid c1
      have C2 := Lib.hid c2
      have C3 := Lib.hid c3
      have HE := Lib.hid hE
      by_cases hin : k < es.length
      · obtain ⟨b2, f2, y, rfl, hp2, d0, d1, d2, d3, hiy⟩ := (hA.ext hE).at_ hin
        obtain ⟨gb, cb, h1, h2, h3⟩ := (HL.out.ext hE).2 k y hp2
        rw [List.getElem?_append_left (by omega), h1] at hp
        injection hp with hp
        have hby := hz2 y (mem_get hp2)
        have HS := Lib.hid (fun w' (h : Ext wr w') => keptEnt_true x y gb w' (by rw [← hp]) (h3.rd.ext h) (hiy.1.ext h) (by rw [← hp]) (by rw [← hp]) (by rw [← hp]) (by rw [← hp]) (by rw [← hp]; exact hby) (by rw [← hp]; exact h2))
        unfold Ent.v at HS
        have D0 := Lib.hid d0
        have D1 := Lib.hid d1
        have D2 := Lib.hid d2
        have D3 := Lib.hid d3
        have hd1 : decide (es.length ≤ k) = false := by simp; omega
        clear c0 c1 c2 c3 d0 d1 d2 d3 hp hp2 hE hix hiy h1 h2 h3
        go_wp2_with fail
        refine Stab.wp_region_lex Ext (Ext _) (fun _ => True) (by kernel_rfl) (by kernel_rfl) (fun _ _ h => h) (fun _ _ h k => Ext.trans h k) (fun _ _ _ _ => trivial) ((Ext.refl _).drew) trivial ?_
        simp only [Stab.zipL, Nat.reduceAdd]
        repeat (first
          | (refine Stab.wpX_skip rfl ?_; simp only [Act.put, List.setIfInBounds_toArray, List.set_cons_zero, List.set_cons_succ])
          | (refine Stab.wpX_val rfl rfl ?_; apply Exists.intro; refine ⟨fun wx hC _ => ?_, ?_⟩; (have q0 := hC.cell C0.out; have q1 := hC.cell C1.out; have q2 := hC.cell C2.out; have q3 := hC.cell C3.out; have q4 := hC.cell D0.out; have q5 := hC.cell D1.out; have q6 := hC.cell D2.out; have q7 := hC.cell D3.out; go_simp; exact ⟨Ext.refl _, rfl⟩); simp only [Act.put, List.setIfInBounds_toArray, List.set_cons_zero, List.set_cons_succ])
          | (refine Stab.wpX_call1 rfl rfl (fun _ _ _ _ => trivial) ?_; apply Exists.intro; refine ⟨fun wx hC _ _ => ?_, ?_⟩; (go_simp; refine ⟨rfl, ?_⟩; refine (HS.out _ hC).mono ?_; rintro ev w9 ⟨rfl, hb9⟩; (first | (subst hb9; exact ⟨Ext.refl _, rfl, trivial⟩) | (subst hb9; exact ⟨Ext.refl _, rfl⟩) | exact ⟨hb9, rfl, trivial⟩ | exact ⟨hb9, rfl⟩)); simp only [Act.put, List.setIfInBounds_toArray, List.set_cons_zero, List.set_cons_succ]))
        refine Stab.wpX_end fun w8 hC8 _ _ => ?_
        have HE8 := Lib.hid (HE.out.trans hC8)
        clear hC8
        go_wp2_with fail
        go_roundw
        case rel => exact ⟨k + 1, by omega, by go_num, HE8.out⟩
        case measure => simp [intOf]; omega
      · rw [List.getElem?_append_right (by omega)] at hp
        have hpm : x = mkEnt (k - es.length) := by
          have hlm : k - es.length < (mkEnts 12).length := by rw [mkEnts_length]; omega
          rw [hl, List.getElem?_eq_getElem hlm] at hp
          injection hp with hp
          rw [← hp]
          simp [mkEnts]
        subst hpm
        have hd1 : decide (k < es.length) = false := by simp; omega
        have hd2 : decide (es.length ≤ k) = true := by simp; omega
        have hw1 : IntKind.i64.wrap ((k : Int) - es.length) = ((k - es.length : Nat) : Int) := by rw [IntWalk.i64_in _ (by omega)]; omega
        have HSM := Lib.hid (fun w' => sameEnt_true (mkEnt (k - es.length)) (mkEnt (k - es.length)) w' (Rd.nil _ _) (Rd.nil _ _) rfl rfl rfl rfl (Nat.zero_le _))
        clear c0 c1 c2 c3 hp hE hix
        unfold Ent.v mkEnt at HSM
        unfold mkEnt at C0 C1 C2 C3
        go_wp2_with fail
        refine Stab.wp_region_lex Ext (Ext _) (fun _ => True) (by kernel_rfl) (by kernel_rfl) (fun _ _ h => h) (fun _ _ h k => Ext.trans h k) (fun _ _ _ _ => trivial) ((Ext.refl _).drew) trivial ?_
        simp only [Stab.zipL, Nat.reduceAdd]
        repeat (first
          | (refine Stab.wpX_skip rfl ?_; simp only [Act.put, List.setIfInBounds_toArray, List.set_cons_zero, List.set_cons_succ])
          | (refine Stab.wpX_val rfl rfl ?_; apply Exists.intro; refine ⟨fun wx hC _ => ?_, ?_⟩; (have q0 := hC.cell C0.out; have q1 := hC.cell C1.out; have q2 := hC.cell C2.out; have q3 := hC.cell C3.out; go_simp; exact ⟨Ext.refl _, rfl⟩); simp only [Act.put, List.setIfInBounds_toArray, List.set_cons_zero, List.set_cons_succ])
          | (refine Stab.wpX_call1 rfl rfl (fun _ _ _ _ => trivial) ?_; apply Exists.intro; refine ⟨fun wx hC _ _ => ?_, ?_⟩; (go_simp; refine ⟨rfl, ?_⟩; refine (HMI.out (k - es.length) _ (by omega)).mono ?_; rintro ev w9 ⟨rfl, hb9⟩; (first | (subst hb9; exact ⟨Ext.refl _, rfl, trivial⟩) | (subst hb9; exact ⟨Ext.refl _, rfl⟩) | exact ⟨hb9, rfl, trivial⟩ | exact ⟨hb9, rfl⟩)); simp only [Act.put, List.setIfInBounds_toArray, List.set_cons_zero, List.set_cons_succ])
          | (refine Stab.wpX_call1 rfl rfl (fun _ _ _ _ => trivial) ?_; apply Exists.intro; refine ⟨fun wx hC _ _ => ?_, ?_⟩; (go_simp; refine ⟨rfl, ?_⟩; refine (HSM.out _).mono ?_; rintro ev w9 ⟨rfl, hb9⟩; (first | (subst hb9; exact ⟨Ext.refl _, rfl, trivial⟩) | (subst hb9; exact ⟨Ext.refl _, rfl⟩) | exact ⟨hb9, rfl, trivial⟩ | exact ⟨hb9, rfl⟩)); simp only [Act.put, List.setIfInBounds_toArray, List.set_cons_zero, List.set_cons_succ]))
        refine Stab.wpX_end fun w8 hC8 _ _ => ?_
        have HE8 := Lib.hid (HE.out.trans hC8)
        clear hC8
        go_wp2_with fail
        go_roundw
        case rel => exact ⟨k + 1, by omega, by go_num, HE8.out⟩
        case measure => simp [intOf]; omega
    · obtain rfl : k = es.length + 12 := by omega
      go_wp2
      go_ret
      exact ⟨rfl, hE⟩

theorem LetLent.eq {B : Nat} {l l' : Let} {w : World} (h : LetLent B l l' w) : ∃ (wA : Option Addr) (wc : Nat) (eA : Option Addr) (ec : Nat) (es' : List Ent) (mA : Option Addr) (mc : Nat) (uA : Option Addr) (uc : Nat) (bA : Option Addr) (bc : Nat),
    l' = { l with wA := wA, wc := wc, eA := eA, ec := ec, ents := es', mA := mA, mc := mc, uA := uA, uc := uc, bA := bA, bc := bc } := by
  refine ⟨l'.wA, l'.wc, l'.eA, l'.ec, l'.ents, l'.mA, l'.mc, l'.uA, l'.uc, l'.bA, l'.bc, ?_⟩
  have e1 := h.e1
  have e2 := h.e2
  have e3 := h.e3
  have e4 := h.e4
  have e5 := h.e5
  have e6 := h.e6
  have e7 := h.e7
  have e8 := h.e8
  have e9 := h.e9
  have e10 := h.e10
  have e11 := h.e11
  have e12 := h.e12
  have e13 := h.w2.1
  have e14 := h.m2.1
  have e15 := h.u2.1
  have e16 := h.b2.1
  clear h
  cases l'
  simp only at e1 e2 e3 e4 e5 e6 e7 e8 e9 e10 e11 e12 e13 e14 e15 e16
  subst e1 e2 e3 e4 e5 e6 e7 e8 e9 e10 e11 e12 e13 e14 e15 e16
  rfl
end Go.Proofs.YtjnllilmimngoaaGreatDoor
namespace Go.Proofs.YtjnllilmimngoaaGreatDoor
open Go.RowKit

def snV (l : Let) (mA : Option Addr) (mc : Nat) (uA : Option Addr) (uc : Nat) : Array Value := #[.int .i64 l.slast.i, .int .i64 l.slast.t, .int .i64 l.slast.k, .slice mA l.mems.length mc, .int .i64 l.size, .slice uA l.sums.length uc]
set_option maxRecDepth 100000 in
set_option maxHeartbeats 2000000 in
theorem sameSnap_true (l : Let) (mA uA mB uB : Option Addr) (mc uc md ud : Nat) (w : World) (h1 : Rd w mA (l.mems.map (.int .i64))) (h2 : Rd w mB (l.mems.map (.int .i64))) (h3 : Rd w uA (l.sums.map (.int .u32))) (h4 : Rd w uB (l.sums.map (.int .u32))) (hm : l.mems.length ≤ 1000000000) (hu : l.sums.length ≤ 1000000000) :
    Calls Tryz.prog 56 #[.agg (snV l mA mc uA uc), .agg (snV l mB md uB ud)] w fun e w' => e = .returned (.bool true) ∧ Ext w w' := by
  have HM := Lib.hid (fun w' (h : Ext w w') => sameInts_any mA mB mc md l.mems l.mems w' (h1.ext h) (h2.ext h) (by unfold maxLen; omega) (by unfold maxLen; omega))
  have HU := Lib.hid (fun w' (h : Ext w w') => sameLimbs_any uA uB uc ud l.sums l.sums w' (h3.ext h) (h4.ext h) (by unfold maxLen; omega) (by unfold maxLen; omega))
  simp only [decide_true] at HM HU
  have HB0 := Lib.hid (heap0 w (.cells (snV l mA mc uA uc) 32) (.cells (snV l mB md uB ud) 32))
  have HB1 := Lib.hid (heap1 w (.cells (snV l mA mc uA uc) 32) (.cells (snV l mB md uB ud) 32))
  have HE0 := Lib.hid (((Ext.refl w).alloc (.cells (snV l mA mc uA uc) 32)).alloc (.cells (snV l mB md uB ud) 32))
  have heq := eqId l.slast.i l.slast.t l.slast.k l.slast.i l.slast.t l.slast.k
  simp only [beq_self_eq_true, Bool.and_self] at heq
  clear h1 h2 h3 h4
  unfold snV at HB0 HB1 HE0 ⊢
  go_enter Tryz.func56, Tryz.ntmps56
  go_wp2_with fail
  refine (HM.out _ HE0.out).mono ?_
  rintro ev w1 ⟨rfl, hE1⟩
  have g0 := hE1.blk HB0.out
  have g1 := hE1.blk HB1.out
  have a0 := cell_of_heap g0 4
  have a1 := cell_of_heap g0 5
  have b0 := cell_of_heap g1 4
  have b1 := cell_of_heap g1 5
  simp at a0 a1 b0 b1
  have HE1 := Lib.hid (HE0.out.trans hE1)
  clear g0 g1 hE1
  go_wp2_with fail
  refine (HU.out _ HE1.out).mono ?_
  rintro ev w2 ⟨rfl, hE2⟩
  go_wp2_with fail
  go_ret
  exact ⟨rfl, HE1.out.trans hE2⟩
set_option maxRecDepth 100000 in
set_option maxHeartbeats 2000000 in
theorem keptSnap_true (l : Let) (gm gu mc uc : Nat) (mB uB : Option Addr) (md ud : Nat) (w : World) (h1 : Rd w (some ⟨gm, 0, none⟩) ((l.mems ++ mks (markI 1) 12).map (.int .i64))) (h2 : Rd w mB (l.mems.map (.int .i64))) (h3 : Rd w (some ⟨gu, 0, none⟩) ((l.sums ++ mks (markI 1) 12).map (.int .u32))) (h4 : Rd w uB (l.sums.map (.int .u32)))
    (hm : l.mems.length ≤ 1000000000) (hu : l.sums.length ≤ 1000000000) (hmc : l.mems.length + 12 ≤ mc) (huc : l.sums.length + 12 ≤ uc) :
    Calls Tryz.prog 114 #[.agg (snV l (some ⟨gm, 0, none⟩) mc (some ⟨gu, 0, none⟩) uc), .agg (snV l mB md uB ud)] w fun e w' => e = .returned (.bool true) ∧ Ext w w' := by
  have h1' : Rd w (some ⟨gm, 0, none⟩) (l.mems.map (.int .i64)) := by rw [List.map_append] at h1; exact h1.pre
  have h3' : Rd w (some ⟨gu, 0, none⟩) (l.sums.map (.int .u32)) := by rw [List.map_append] at h3; exact h3.pre
  have HS := Lib.hid (fun w' (h : Ext w w') => sameSnap_true l (some ⟨gm, 0, none⟩) (some ⟨gu, 0, none⟩) mB uB mc uc md ud w' (h1'.ext h) (h2.ext h) (h3'.ext h) (h4.ext h) hm hu)
  have HM := Lib.hid (fun w' (h : Ext w w') => keptInts_any gm mB mc md l.mems w' (h1.ext h) (h2.ext h) hm hmc)
  have HU := Lib.hid (fun w' (h : Ext w w') => keptLimbs_any gu uB uc ud l.sums w' (h3.ext h) (h4.ext h) hu huc)
  have HB0 := Lib.hid (heap0 w (.cells (snV l (some ⟨gm, 0, none⟩) mc (some ⟨gu, 0, none⟩) uc) 32) (.cells (snV l mB md uB ud) 32))
  have HB1 := Lib.hid (heap1 w (.cells (snV l (some ⟨gm, 0, none⟩) mc (some ⟨gu, 0, none⟩) uc) 32) (.cells (snV l mB md uB ud) 32))
  have HE0 := Lib.hid (((Ext.refl w).alloc (.cells (snV l (some ⟨gm, 0, none⟩) mc (some ⟨gu, 0, none⟩) uc) 32)).alloc (.cells (snV l mB md uB ud) 32))
  clear h1 h2 h3 h4 h1' h3' hmc huc
  unfold snV at HS HB0 HB1 HE0 ⊢
  go_enter Tryz.func114, Tryz.ntmps114
  go_wp2_with fail
  refine (HS.out _ HE0.out).mono ?_
  rintro ev w1 ⟨rfl, hE1⟩
  have g0 := hE1.blk HB0.out
  have g1 := hE1.blk HB1.out
  have a0 := cell_of_heap g0 3
  have b0 := cell_of_heap g1 3
  simp at a0 b0
  have HE1 := Lib.hid (HE0.out.trans hE1)
  have HG0 := Lib.hid g0
  have HG1 := Lib.hid g1
  clear g0 g1 hE1
  go_wp2_with fail
  refine (HM.out _ HE1.out).mono ?_
  rintro ev w2 ⟨rfl, hE2⟩
  clear a0 b0
  have a0 := cell_of_heap (hE2.blk HG0.out) 5
  have b0 := cell_of_heap (hE2.blk HG1.out) 5
  simp at a0 b0
  have HE2 := Lib.hid (HE1.out.trans hE2)
  clear hE2
  go_wp2_with fail
  refine (HU.out _ HE2.out).mono ?_
  rintro ev w3 ⟨rfl, hE3⟩
  go_wp2_with fail
  go_ret
  exact ⟨rfl, HE2.out.trans hE3⟩

theorem idsIn_pre {w : World} {A : Option Addr} {ps qs : List Id} (h : IdsIn w A (ps ++ qs)) : IdsIn w A ps := fun j p hj => h j p (by
  rw [List.getElem?_append_left (List.getElem?_eq_some_iff.1 hj).1]; exact hj)
theorem entsIn_pre {w : World} {A : Option Addr} {ps qs : List Ent} (h : EntsIn w A (ps ++ qs)) : EntsIn w A ps := fun j p hj => h j p (by
  rw [List.getElem?_append_left (List.getElem?_eq_some_iff.1 hj).1]; exact hj)
def lentArr (l : Let) (gw wc ge ec gm mc gu uc gb bc : Nat) : Array Value := #[.int .i64 l.kind, .int .i64 l.frm, .int .i64 l.too, .int .i64 l.term, .int .i64 l.index, .int .i64 l.last.i, .int .i64 l.last.t, .int .i64 l.last.k, .int .i64 l.prev.i, .int .i64 l.prev.t, .int .i64 l.prev.k, .slice (some ⟨gw, 0, none⟩) l.want.length wc, .int .i64 l.commit, .bool l.yes, .slice (some ⟨ge, 0, none⟩) l.ents.length ec, .int .i64 l.slast.i, .int .i64 l.slast.t, .int .i64 l.slast.k, .slice (some ⟨gm, 0, none⟩) l.mems.length mc, .int .i64 l.size, .slice (some ⟨gu, 0, none⟩) l.sums.length uc, .int .i64 l.piece, .slice (some ⟨gb, 0, none⟩) l.bs.length bc]
set_option maxRecDepth 100000 in
set_option maxHeartbeats 4000000 in
theorem sameLet_true {B : Nat} (l l' : Let) (w : World) (hin : l.inW w) (hs : l.small) (hL : LetLent B l l' w) :
    Calls Tryz.prog 26 #[l'.v, l.v] w fun e w' => e = .returned (.bool true) ∧ Ext w w' := by
  obtain ⟨wA, wc, eA, ec, es', mA, mc, uA, uc, bA, bc, rfl⟩ := hL.eq
  obtain ⟨gw, hgw, ⟨hIw, _⟩, _⟩ := hL.w1
  obtain ⟨ge, hge, ⟨hIe, _⟩, _⟩ := hL.n1
  obtain ⟨B, hLO⟩ := hL.n2
  obtain ⟨gm, hgm, ⟨hRm, _⟩, _⟩ := hL.m1
  obtain ⟨gu, hgu, ⟨hRu, _⟩, _⟩ := hL.u1
  obtain ⟨gb, hgb, ⟨hRb, _⟩, _⟩ := hL.b1
  simp only at hgw hge hLO hgm hgu hgb hIe
  subst hgw hge hgm hgu hgb
  rw [List.map_append] at hRm hRu hRb
  have H1 := Lib.hid (fun w' (h : Ext w w') => sameIds_true (some ⟨gw, 0, none⟩) l.wA wc l.wc l.want w' ((idsIn_pre hIw).ext h) (hin.w1.ext h) hs.s1)
  have H2 := Lib.hid (fun w' (h : Ext w w') => sameEnts_true B (some ⟨ge, 0, none⟩) l.eA ec l.ec l.ents es' w' ((entsIn_pre hIe).ext h) (hin.e1.ext h) (hLO.ext h) hs.s2)
  have H3 := Lib.hid (fun w' (h : Ext w w') => sameSnap_true l (some ⟨gm, 0, none⟩) (some ⟨gu, 0, none⟩) l.mA l.uA mc uc l.mc l.uc w' (hRm.pre.ext h) (hin.m1.ext h) (hRu.pre.ext h) (hin.u1.ext h) hs.s4 hs.s5)
  have H4 := Lib.hid (fun w' (h : Ext w w') => sameBytes_any (some ⟨gb, 0, none⟩) l.bA bc l.bc l.bs l.bs w' (hRb.pre.ext h) (hin.b1.ext h) (by have := hs.s6; unfold maxLen; omega) (by have := hs.s6; unfold maxLen; omega))
  simp only [decide_true] at H4
  have hel : es'.length = l.ents.length := hLO.1
  have hV : Let.v { l with wA := some ⟨gw, 0, none⟩, wc := wc, eA := some ⟨ge, 0, none⟩, ec := ec, ents := es', mA := some ⟨gm, 0, none⟩, mc := mc, uA := some ⟨gu, 0, none⟩, uc := uc, bA := some ⟨gb, 0, none⟩, bc := bc } = .agg (lentArr l gw wc ge ec gm mc gu uc gb bc) := by simp [Let.v, Let.arr, lentArr, hel]
  have hV2 : l.v = .agg l.arr := rfl
  rw [hV, hV2]
  have heq1 := eqId l.last.i l.last.t l.last.k l.last.i l.last.t l.last.k
  have heq2 := eqId l.prev.i l.prev.t l.prev.k l.prev.i l.prev.t l.prev.k
  simp only [beq_self_eq_true, Bool.and_self] at heq1 heq2
  clear hL hIw hIe hLO hRm hRu hRb hin hs hV hV2
  have HB0 := Lib.hid (heap0 w (.cells (lentArr l gw wc ge ec gm mc gu uc gb bc) 35) (.cells l.arr 35))
  have HB1 := Lib.hid (heap1 w (.cells (lentArr l gw wc ge ec gm mc gu uc gb bc) 35) (.cells l.arr 35))
  have HE0 := Lib.hid (((Ext.refl w).alloc (.cells (lentArr l gw wc ge ec gm mc gu uc gb bc) 35)).alloc (.cells l.arr 35))
  unfold snV at H3
  unfold lentArr at HB0 HB1 HE0 ⊢
  go_enter Tryz.func26, Tryz.ntmps26
  go_upto_region 1 with fail
  simp only [List.append]
  go_wp2_with fail
  refine (H1.out _ HE0.out).mono ?_
  rintro ev w1 ⟨rfl, hE1⟩
  have g0 := hE1.blk HB0.out
  have a12 := cell_of_heap g0 12
  have a13 := cell_of_heap g0 13
  have a14 := cell_of_heap g0 14
  simp at a12 a13 a14
  have r1 := cell_of_heap (hE1.blk HB1.out)
  have HE1 := Lib.hid (HE0.out.trans hE1)
  have HG0 := Lib.hid g0
  have HG1 := Lib.hid (hE1.blk HB1.out)
  clear g0 hE1
  go_wp2_with fail
  refine (H2.out _ HE1.out).mono ?_
  rintro ev w2 ⟨rfl, hE2⟩
  clear a12 a13 a14 r1
  have g0 := hE2.blk HG0.out
  have a15 := cell_of_heap g0 15
  have a16 := cell_of_heap g0 16
  have a17 := cell_of_heap g0 17
  have a18 := cell_of_heap g0 18
  have a19 := cell_of_heap g0 19
  have a20 := cell_of_heap g0 20
  simp at a15 a16 a17 a18 a19 a20
  have r1 := cell_of_heap (hE2.blk HG1.out)
  have HE2 := Lib.hid (HE1.out.trans hE2)
  have HJ0 := Lib.hid g0
  have HJ1 := Lib.hid (hE2.blk HG1.out)
  clear g0 hE2 HG0 HG1
  go_wp2_with fail
  refine (H3.out _ HE2.out).mono ?_
  rintro ev w3 ⟨rfl, hE3⟩
  clear a15 a16 a17 a18 a19 a20 r1
  have g0 := hE3.blk HJ0.out
  have a21 := cell_of_heap g0 21
  have a22 := cell_of_heap g0 22
  simp at a21 a22
  have r1 := cell_of_heap (hE3.blk HJ1.out)
  have HE3 := Lib.hid (HE2.out.trans hE3)
  clear g0 hE3 HJ0 HJ1
  go_wp2_with fail
  refine (H4.out _ HE3.out).mono ?_
  rintro ev w4 ⟨rfl, hE4⟩
  go_wp2_with fail
  go_ret
  exact ⟨rfl, HE3.out.trans hE4⟩
end Go.Proofs.YtjnllilmimngoaaGreatDoor
namespace Go.Proofs.YtjnllilmimngoaaGreatDoor
open Go.RowKit

theorem wpList_load_arr {ops : Array Oper} {rest : List Oper} {o : Oper} {a : Act} {w : World} {Q : Exit → Act → World → Prop} (hgd : o.guard = none) (x : Operand) (ho : o.op = .load 35 x)
    (b : Nat) (arr : Array Value) (hs : arr.size = 23) (hx : a.eval x = .pointer (some ⟨b, 0, none⟩)) (hg : w.heap[b]? = some (.cells arr 35))
    (h : wpList Tryz.prog ops Q rest (a.put o.dst (.agg arr)) w) : wpList Tryz.prog ops Q (o :: rest) a w :=
  wpList_plain hgd fun K hK => wp_load_row 35 x ho b hx 35 arr (0, 0) _ hg Tryz.underlying35 rfl (by rw [infoLet, hs]) (hK _ _ h)
set_option maxRecDepth 100000 in
set_option maxHeartbeats 4000000 in
theorem keptLet_true {B : Nat} (l l' : Let) (w : World) (hin : l.inW w) (hs : l.small) (hL : LetLent B l l' w) :
    Calls Tryz.prog 66 #[l'.v, l.v] w fun e w' => e = .returned (.bool true) ∧ Ext w w' := by
  have H0 := Lib.hid (fun w' (h : Ext w w') => sameLet_true l l' w' (hin.ext h) hs (hL.ext h))
  obtain ⟨wA, wc, eA, ec, es', mA, mc, uA, uc, bA, bc, rfl⟩ := hL.eq
  obtain ⟨gw, hgw, ⟨hIw, _⟩, _⟩ := hL.w1
  obtain ⟨ge, hge, ⟨hIe, _⟩, _⟩ := hL.n1
  obtain ⟨B, hLO⟩ := hL.n2
  obtain ⟨gm, hgm, ⟨hRm, _⟩, _⟩ := hL.m1
  obtain ⟨gu, hgu, ⟨hRu, _⟩, _⟩ := hL.u1
  obtain ⟨gb, hgb, ⟨hRb, _⟩, _⟩ := hL.b1
  have c1 := hL.w2.2
  have c2 := hL.n3
  have c3 := hL.m2.2
  have c4 := hL.u2.2
  have c5 := hL.b2.2
  simp only at hgw hge hLO hgm hgu hgb hIe c1 c2 c3 c4 c5
  subst hgw hge hgm hgu hgb
  have H1 := Lib.hid (fun w' (h : Ext w w') => keptIds_true gw l.wA wc l.wc l.want w' (hIw.ext h) (hin.w1.ext h) hs.s1 c1)
  have H2 := Lib.hid (fun w' (h : Ext w w') => keptEnts_true B ge l.eA ec l.ec l.ents es' w' (hIe.ext h) (hin.e1.ext h) (hLO.ext h) hs.s2 hs.s3 c2)
  have H3 := Lib.hid (fun w' (h : Ext w w') => keptSnap_true l gm gu mc uc l.mA l.uA l.mc l.uc w' (hRm.ext h) (hin.m1.ext h) (hRu.ext h) (hin.u1.ext h) hs.s4 hs.s5 c3 c4)
  have H4 := Lib.hid (fun w' (h : Ext w w') => keptBytes_any gb l.bA bc l.bc l.bs w' (hRb.ext h) (hin.b1.ext h) hs.s6 c5)
  have hel : es'.length = l.ents.length := hLO.1
  have hV : Let.v { l with wA := some ⟨gw, 0, none⟩, wc := wc, eA := some ⟨ge, 0, none⟩, ec := ec, ents := es', mA := some ⟨gm, 0, none⟩, mc := mc, uA := some ⟨gu, 0, none⟩, uc := uc, bA := some ⟨gb, 0, none⟩, bc := bc } = .agg (lentArr l gw wc ge ec gm mc gu uc gb bc) := by simp [Let.v, Let.arr, lentArr, hel]
  have hV2 : l.v = .agg l.arr := rfl
  rw [hV, hV2]
  rw [hV, hV2] at H0
  clear hL hIw hIe hLO hRm hRu hRb hin hs hV hV2 c1 c2 c3 c4 c5
  have HB0 := Lib.hid (heap0 w (.cells (lentArr l gw wc ge ec gm mc gu uc gb bc) 35) (.cells l.arr 35))
  have HB1 := Lib.hid (heap1 w (.cells (lentArr l gw wc ge ec gm mc gu uc gb bc) 35) (.cells l.arr 35))
  have HE0 := Lib.hid (((Ext.refl w).alloc (.cells (lentArr l gw wc ge ec gm mc gu uc gb bc) 35)).alloc (.cells l.arr 35))
  unfold snV at H3
  have k11 : (lentArr l gw wc ge ec gm mc gu uc gb bc)[11]? = some (.slice (some ⟨gw, 0, none⟩) l.want.length wc) := rfl
  have k14 : (lentArr l gw wc ge ec gm mc gu uc gb bc)[14]? = some (.slice (some ⟨ge, 0, none⟩) l.ents.length ec) := rfl
  have k15 : (lentArr l gw wc ge ec gm mc gu uc gb bc)[15]? = some (.int .i64 l.slast.i) := rfl
  have k16 : (lentArr l gw wc ge ec gm mc gu uc gb bc)[16]? = some (.int .i64 l.slast.t) := rfl
  have k17 : (lentArr l gw wc ge ec gm mc gu uc gb bc)[17]? = some (.int .i64 l.slast.k) := rfl
  have k18 : (lentArr l gw wc ge ec gm mc gu uc gb bc)[18]? = some (.slice (some ⟨gm, 0, none⟩) l.mems.length mc) := rfl
  have k19 : (lentArr l gw wc ge ec gm mc gu uc gb bc)[19]? = some (.int .i64 l.size) := rfl
  have k20 : (lentArr l gw wc ge ec gm mc gu uc gb bc)[20]? = some (.slice (some ⟨gu, 0, none⟩) l.sums.length uc) := rfl
  have k22 : (lentArr l gw wc ge ec gm mc gu uc gb bc)[22]? = some (.slice (some ⟨gb, 0, none⟩) l.bs.length bc) := rfl
  have hsz23 := Lib.hid (show (lentArr l gw wc ge ec gm mc gu uc gb bc).size = 23 from rfl)
  generalize hLA : lentArr l gw wc ge ec gm mc gu uc gb bc = LA at *
  clear hLA
  go_enter Tryz.func66, Tryz.ntmps66
  go_wp2_with (first | (refine wpList_load_arr rfl (.tmp 2) rfl w.heap.size _ hsz23.out rfl HB0.out ?_) | (refine wpList_load_arr rfl (.tmp 3) rfl (w.heap.size + 1) _ rfl rfl HB1.out ?_))
  refine (H0.out _ HE0.out).mono ?_
  rintro ev w0 ⟨rfl, hE1⟩
  have g0 := hE1.blk HB0.out
  have a11 := cell_of_heap g0 11
  have r1 := cell_of_heap (hE1.blk HB1.out)
  have HE1 := Lib.hid (HE0.out.trans hE1)
  have HG0 := Lib.hid g0
  have HG1 := Lib.hid (hE1.blk HB1.out)
  clear g0 hE1
  go_wp2_with fail
  refine (H1.out _ HE1.out).mono ?_
  rintro ev w1 ⟨rfl, hE2⟩
  clear a11 r1
  have g0 := hE2.blk HG0.out
  have a14 := cell_of_heap g0 14
  have r1 := cell_of_heap (hE2.blk HG1.out)
  have HE2 := Lib.hid (HE1.out.trans hE2)
  have HJ0 := Lib.hid g0
  have HJ1 := Lib.hid (hE2.blk HG1.out)
  clear g0 hE2 HG0 HG1
  go_wp2_with fail
  refine (H2.out _ HE2.out).mono ?_
  rintro ev w2 ⟨rfl, hE3⟩
  clear a14 r1
  have g0 := hE3.blk HJ0.out
  have a15 := cell_of_heap g0 15
  have a16 := cell_of_heap g0 16
  have a17 := cell_of_heap g0 17
  have a18 := cell_of_heap g0 18
  have a19 := cell_of_heap g0 19
  have a20 := cell_of_heap g0 20
  have r1 := cell_of_heap (hE3.blk HJ1.out)
  have HE3 := Lib.hid (HE2.out.trans hE3)
  have HG0 := Lib.hid g0
  have HG1 := Lib.hid (hE3.blk HJ1.out)
  clear g0 hE3 HJ0 HJ1
  go_wp2_with fail
  refine (H3.out _ HE3.out).mono ?_
  rintro ev w3 ⟨rfl, hE4⟩
  clear a15 a16 a17 a18 a19 a20 r1
  have g0 := hE4.blk HG0.out
  have a22 := cell_of_heap g0 22
  have r1 := cell_of_heap (hE4.blk HG1.out)
  have HE4 := Lib.hid (HE3.out.trans hE4)
  clear g0 hE4 HG0 HG1
  go_wp2_with fail
  refine (H4.out _ HE4.out).mono ?_
  rintro ev w4 ⟨rfl, hE5⟩
  go_wp2_with fail
  go_ret
  exact ⟨rfl, HE4.out.trans hE5⟩
end Go.Proofs.YtjnllilmimngoaaGreatDoor
namespace Go.Proofs.YtjnllilmimngoaaGreatDoor
open Go.RowKit

def mkEntK (k i : Nat) : Ent := ⟨markI k i, 0, 0, none, 0, []⟩
def mkLetK (k i : Nat) : Let := { voteZ with index := markI k i }
theorem mkLetK_light (k i : Nat) : (mkLetK k i).light := ⟨rfl, rfl, rfl, rfl, rfl⟩
set_option maxRecDepth 100000 in
set_option maxHeartbeats 400000 in
theorem markIdentK (k i : Nat) (w : World) (hk : k ≤ 1000000) (hi : i ≤ 1000000000000) : Calls Tryz.prog 125 #[.int .i64 k, .int .i64 i] w fun e w' => e = .returned (.agg #[.int .i64 (markI k i), .int .i64 0, .int .i64 0]) ∧ Ext w w' := by
  have HM := Lib.hid (fun w => mark_any k i w hk hi)
  go_enter Tryz.func125, Tryz.ntmps125
  go_wp2_with (go_at_call 98; refine (HM.out _).mono ?_; rintro e w' ⟨rfl, rfl⟩)
  exact bodyPost_ret (v := .agg #[.int .i64 (markI k i), .int .i64 0, .int .i64 0]) (by simp [results, Tryz.results125, go_sem]) rfl ⟨rfl, (Ext.refl _).alloc _⟩
set_option maxRecDepth 100000 in
set_option maxHeartbeats 400000 in
theorem markEntryK (k i : Nat) (w : World) (hk : k ≤ 1000000) (hi : i ≤ 1000000000000) : Calls Tryz.prog 60 #[.int .i64 k, .int .i64 i] w fun e w' => e = .returned (.agg #[.int .i64 (markI k i), .int .i64 0, .int .i64 0, .slice none 0 0]) ∧ Ext w w' := by
  have HM := Lib.hid (fun w => mark_any k i w hk hi)
  go_enter Tryz.func60, Tryz.ntmps60
  go_wp2_with (go_at_call 98; refine (HM.out _).mono ?_; rintro e w' ⟨rfl, rfl⟩)
  exact bodyPost_ret (v := .agg #[.int .i64 (markI k i), .int .i64 0, .int .i64 0, .slice none 0 0]) (by simp [results, Tryz.results60, go_sem]) rfl ⟨rfl, (Ext.refl _).alloc _⟩
set_option maxRecDepth 100000 in
set_option maxHeartbeats 400000 in
theorem markLetterK (k i : Nat) (w : World) (hk : k ≤ 1000000) (hi : i ≤ 1000000000000) : Calls Tryz.prog 64 #[.int .i64 k, .int .i64 i] w fun e w' => e = .returned (mkLetK k i).v ∧ Ext w w' := by
  have HM := Lib.hid (fun w => mark_any k i w hk hi)
  go_enter Tryz.func64, Tryz.ntmps64
  go_wp2_with (first | (go_at_call 98; refine (HM.out _).mono ?_; rintro e w' ⟨rfl, rfl⟩) | (refine wpList_store_all rfl _ _ rfl rfl w.heap.size (mkLetK k i) _ rfl rfl (heap_alloc_new w _) (by simp) ?_; intro w5 hG5 hF5; have HG5 := Lib.hid hG5; have HF5 := Lib.hid hF5; clear hG5 hF5))
  exact bodyPost_ret (v := (mkLetK k i).v) (results_cell_row Tryz.results64 _ w5 w.heap.size 35 _ (0, 0) _ rfl HG5.out Tryz.underlying35 rfl (by rw [infoLet]; rfl)) rfl ⟨rfl, ((Fr.ofExt (isB w.heap.size) ((Ext.refl w).alloc _)).trans HF5.out (fun _ _ h => h)).toExt (fun i hi => by unfold isB at hi; omega)⟩
end Go.Proofs.YtjnllilmimngoaaGreatDoor
