/-
  does: Cut, Copy.
  does: Take.
  does: Send.
  does.
  Append to a slice without room: where it lies is not looked at.
-/
import Derived.Test.YtjnllilmimngoaaGreatDoorM36
import Derived.Test.YtjnllilmimngoaaGreatDoorM31
import Derived.Test.YtjnllilmimngoaaGreatDoorM34
import Derived.Test.YtjnllilmimngoaaGreatDoorM35
import Derived.Test.YtjnllilmimngoaaGreatDoorM21
namespace Go.Proofs.YtjnllilmimngoaaGreatDoor
open Go.RowKit

section
variable {B nb bb rb : Nat} {s : NetS} {r : RefS} {w : World}
set_option maxRecDepth 100000 in
set_option maxHeartbeats 4000000 in
theorem does_cut (m : Int) (hJ : JAt No B nb bb rb s r w) (hs : SR s r) (hb : SB s m) (hm : m ≤ 900000) (hB : 0 < B) (hBw : B ≤ w.heap.size) (hg : ErrT w) (what i : Int) (b : Bool) (D : Option Addr) (n d : Nat) (hc : what % 6 = 5) :
    Calls Tryz.prog 12 #[.pointer (some ⟨nb, 0, none⟩), .pointer (some ⟨rb, 0, none⟩), deedV what i b D n d] w (DoesP B nb bb rb (m + 1) w) := by
  have HP := Lib.hid (fun w1 => pick_any what 6 w1 (by omega) (by omega))
  have HJ := Lib.hid (fun o w1 (h : Ext (w.alloc o) w1) => hJ.boxed h)
  have HS := Lib.hid hs
  have HB := Lib.hid hb
  have HG := Lib.hid hg
  rw [hc] at HP
  clear hJ hs hb hg
  unfold deedV
  go_enter Tryz.func12, Tryz.ntmps12
  go_wp2_with fail
  refine (HP.out _).mono ?_
  rintro ev w1 ⟨rfl, hE1⟩
  have HX := Lib.hid (hE1.blk (heap_alloc_new w _))
  have HE1 := Lib.hid hE1
  clear hE1
  go_wp2_with fail
  have hxw := heap_lt HX.out
  have hX : ∀ j, isB w.heap.size j → j < w1.heap.size := fun j hj => by unfold isB at hj; omega
  have hff := HB.out.fits (by omega)
  have hHX : ∀ wx, Fr (JF (isB w.heap.size) B) w1 wx → ∀ k, wx.cell? ⟨w.heap.size, k, none⟩ = _ := fun wx h k => cell_of_heap ((h.block _ hxw (fun t => t.2 rfl)).trans HX.out) k
  have hsz : ∀ wx, Fr (JF (isB w.heap.size) B) w1 wx → ∀ j, isB w.heap.size j → j < wx.heap.size := fun wx h j hj => Nat.lt_of_lt_of_le (hX j hj) h.size
  have hgx : ∀ wx, Fr (JF (isB w.heap.size) B) w1 wx → ErrT wx := fun wx h => (HG.out.ext (((Ext.refl w).alloc _).trans HE1.out)).fr h (fun t => by have := t.1; omega)
  refine Stab.wp_region_lex (Fr (JF (isB w.heap.size) B)) (Fr (JF (isB w.heap.size) B) w1) (JAt (isB w.heap.size) B nb bb rb s r) (by kernel_rfl) (by kernel_rfl) (fun _ _ h => Fr.ofExt _ h) (fun _ _ h k => h.trans k (fun _ _ t => t)) (fun _ _ h k => h.ext k) ((Fr.refl _ w1).drew) ((HJ.out _ _ HE1.out).ext (Ext.refl _).drew) ?_
  simp only [Stab.zipL, Nat.reduceAdd]
  iterate 5 (refine Stab.wpX_val rfl rfl ?_; apply Exists.intro; refine ⟨fun wx hC _ => ?_, ?_⟩; (have r0 := hHX wx hC; go_simp; exact ⟨Ext.refl _, rfl⟩); simp only [Act.put, List.setIfInBounds_toArray, List.set_cons_zero, List.set_cons_succ])
  refine Stab.wpX_call (fun u _ => u = .int .i64 (cutC i)) (fun _ => JAt (isB w.heap.size) B nb bb rb (cutS s i b) r) rfl rfl (fun _ _ _ h _ => h) (fun _ _ _ h k => h.ext k) ?_ ?_
  · intro wx hC hT hF
    go_simp
    refine ⟨rfl, ?_⟩
    refine (jcut_n hT (hsz wx hC) i b).mono ?_
    rintro ev w11 ⟨rfl, h1, h2⟩
    exact ⟨h2, rfl, h1⟩
  rintro ux ⟨_, _, rfl, _⟩
  simp only [Act.put, List.setIfInBounds_toArray, List.set_cons_zero, List.set_cons_succ]
  iterate 5 (refine Stab.wpX_val rfl rfl ?_; apply Exists.intro; refine ⟨fun wx hC _ => ?_, ?_⟩; (have r0 := hHX wx hC; go_simp; exact ⟨Ext.refl _, rfl⟩); simp only [Act.put, List.setIfInBounds_toArray, List.set_cons_zero, List.set_cons_succ])
  refine Stab.wpX_call (fun u _ => u = .int .i64 (cutC i)) (fun _ => JAt (isB w.heap.size) B nb bb rb (cutS s i b) (cutRS r i b)) rfl rfl (fun _ _ _ h _ => h) (fun _ _ _ h k => h.ext k) ?_ ?_
  · intro wx hC hT hF
    go_simp
    refine ⟨rfl, ?_⟩
    refine (jcut_r hT (hsz wx hC) (HS.out.fitsR hff) (Nat.le_trans hBw (Nat.le_trans (by have h1 := (((Ext.refl w).alloc _).trans HE1.out).sz; exact h1) hC.size)) (HS.out.cut (i := i) (b := b)).l i b).mono ?_
    rintro ev w11 ⟨rfl, h1, h2⟩
    exact ⟨h2, rfl, h1⟩
  rintro ux ⟨_, _, rfl, _⟩
  simp only [Act.put, List.setIfInBounds_toArray, List.set_cons_zero, List.set_cons_succ]
  iterate 2 (refine Stab.wpX_val rfl rfl ?_; apply Exists.intro; refine ⟨fun wx hC _ => ?_, ?_⟩; (have r0 := hHX wx hC; go_simp; exact ⟨Ext.refl _, rfl⟩); simp only [Act.put, List.setIfInBounds_toArray, List.set_cons_zero, List.set_cons_succ])
  refine Stab.wpX_end fun w12 hC12 hT12 _ => ?_
  go_wp2_with fail
  go_ret
  exact does_end hT12 HS.out.cut HB.out.cut (by omega) HE1.out hC12
set_option maxRecDepth 100000 in
set_option maxHeartbeats 4000000 in
theorem does_copy (m : Int) (hJ : JAt No B nb bb rb s r w) (hs : SR s r) (hb : SB s m) (hm : m ≤ 900000) (hB : 0 < B) (hBw : B ≤ w.heap.size) (hg : ErrT w) (what i : Int) (b : Bool) (D : Option Addr) (n d : Nat) (hc : what % 6 = 3) :
    Calls Tryz.prog 12 #[.pointer (some ⟨nb, 0, none⟩), .pointer (some ⟨rb, 0, none⟩), deedV what i b D n d] w (DoesP B nb bb rb (m + 1) w) := by
  have HP := Lib.hid (fun w1 => pick_any what 6 w1 (by omega) (by omega))
  have HJ := Lib.hid (fun o w1 (h : Ext (w.alloc o) w1) => hJ.boxed h)
  have HS := Lib.hid hs
  have HB := Lib.hid hb
  have HG := Lib.hid hg
  rw [hc] at HP
  clear hJ hs hb hg
  unfold deedV
  go_enter Tryz.func12, Tryz.ntmps12
  go_wp2_with fail
  refine (HP.out _).mono ?_
  rintro ev w1 ⟨rfl, hE1⟩
  have HX := Lib.hid (hE1.blk (heap_alloc_new w _))
  have HE1 := Lib.hid hE1
  clear hE1
  go_wp2_with fail
  have hxw := heap_lt HX.out
  have hX : ∀ j, isB w.heap.size j → j < w1.heap.size := fun j hj => by unfold isB at hj; omega
  have hff := HB.out.fits (by omega)
  have hHX : ∀ wx, Fr (JF (isB w.heap.size) B) w1 wx → ∀ k, wx.cell? ⟨w.heap.size, k, none⟩ = _ := fun wx h k => cell_of_heap ((h.block _ hxw (fun t => t.2 rfl)).trans HX.out) k
  have hsz : ∀ wx, Fr (JF (isB w.heap.size) B) w1 wx → ∀ j, isB w.heap.size j → j < wx.heap.size := fun wx h j hj => Nat.lt_of_lt_of_le (hX j hj) h.size
  have hgx : ∀ wx, Fr (JF (isB w.heap.size) B) w1 wx → ErrT wx := fun wx h => (HG.out.ext (((Ext.refl w).alloc _).trans HE1.out)).fr h (fun t => by have := t.1; omega)
  refine Stab.wp_region_lex (Fr (JF (isB w.heap.size) B)) (Fr (JF (isB w.heap.size) B) w1) (JAt (isB w.heap.size) B nb bb rb s r) (by kernel_rfl) (by kernel_rfl) (fun _ _ h => Fr.ofExt _ h) (fun _ _ h k => h.trans k (fun _ _ t => t)) (fun _ _ h k => h.ext k) ((Fr.refl _ w1).drew) ((HJ.out _ _ HE1.out).ext (Ext.refl _).drew) ?_
  simp only [Stab.zipL, Nat.reduceAdd]
  iterate 3 (refine Stab.wpX_val rfl rfl ?_; apply Exists.intro; refine ⟨fun wx hC _ => ?_, ?_⟩; (have r0 := hHX wx hC; go_simp; exact ⟨Ext.refl _, rfl⟩); simp only [Act.put, List.setIfInBounds_toArray, List.set_cons_zero, List.set_cons_succ])
  refine Stab.wpX_call (fun u _ => u = .int .i64 (copyC s.us.length)) (fun _ wx => ∃ s', CopyS s i s' ∧ JAt (isB w.heap.size) B nb bb rb s' r wx) rfl rfl (fun _ _ _ h _ => h) (fun _ _ _ h k => ⟨h.choose, h.choose_spec.1, h.choose_spec.2.ext k⟩) ?_ ?_
  · intro wx hC hT hF
    go_simp
    refine ⟨rfl, ?_⟩
    refine (jcopy_n hT (hsz wx hC) hff hB (Nat.le_trans hBw (Nat.le_trans (by have h1 := (((Ext.refl w).alloc _).trans HE1.out).sz; exact h1) hC.size)) (hgx wx hC) i).mono ?_
    rintro ev w11 ⟨rfl, h1, h2⟩
    exact ⟨h2, rfl, h1⟩
  rintro ux ⟨_, _, rfl, _⟩
  simp only [Act.put, List.setIfInBounds_toArray, List.set_cons_zero, List.set_cons_succ]
  iterate 3 (refine Stab.wpX_val rfl rfl ?_; apply Exists.intro; refine ⟨fun wx hC _ => ?_, ?_⟩; (have r0 := hHX wx hC; go_simp; exact ⟨Ext.refl _, rfl⟩); simp only [Act.put, List.setIfInBounds_toArray, List.set_cons_zero, List.set_cons_succ])
  refine Stab.wpX_call (fun u _ => u = .int .i64 (copyC s.us.length)) (fun _ wx => ∃ s' r', CopyS s i s' ∧ CopyR r i r' ∧ JAt (isB w.heap.size) B nb bb rb s' r' wx) rfl rfl (fun _ _ _ h _ => h) (fun _ _ _ h k => by obtain ⟨s', r', h1, h2, h3⟩ := h; exact ⟨s', r', h1, h2, h3.ext k⟩) ?_ ?_
  · intro wx hC hT hF
    go_simp
    refine ⟨rfl, ?_⟩
    obtain ⟨s', hCs, hT⟩ := hT
    refine (jcopy_r hT (hsz wx hC) (HS.out.fitsR hff) (Nat.le_trans hBw (Nat.le_trans (by have h1 := (((Ext.refl w).alloc _).trans HE1.out).sz; exact h1) hC.size)) (hCs.light HS.out.l) i).mono ?_
    rintro ev w11 ⟨rfl, ⟨r', h1, h3⟩, h2⟩
    exact ⟨h2, by rw [HS.out.len], s', hCs, r', h1, h3⟩
  rintro ux ⟨_, _, rfl, _⟩
  simp only [Act.put, List.setIfInBounds_toArray, List.set_cons_zero, List.set_cons_succ]
  iterate 2 (refine Stab.wpX_val rfl rfl ?_; apply Exists.intro; refine ⟨fun wx hC _ => ?_, ?_⟩; (have r0 := hHX wx hC; go_simp; exact ⟨Ext.refl _, rfl⟩); simp only [Act.put, List.setIfInBounds_toArray, List.set_cons_zero, List.set_cons_succ])
  refine Stab.wpX_end fun w12 hC12 hT12 _ => ?_
  go_wp2_with fail
  go_ret
  obtain ⟨s', r', hCs, hCr, hT⟩ := hT12
  exact does_end hT (HS.out.copy hCs hCr) (hCs.sb HB.out) (by omega) HE1.out hC12
end
end Go.Proofs.YtjnllilmimngoaaGreatDoor
namespace Go.Proofs.YtjnllilmimngoaaGreatDoor
open Go.RowKit

theorem slot_light {l : Let} (h : l.light) (t : l.tight) : l.arr[22]? = some (.slice l.bA 0 0) ∧ l.arr[14]? = some (.slice l.eA 0 0) := by
  have h1 := h.b
  have h2 := h.e
  have h3 := t.2.2.2.2 h1
  have h4 := t.2.1 h2
  exact ⟨by simp [Let.arr, h1, h3], by simp [Let.arr, h2, h4]⟩
def two (a b : Nat) : Nat → Prop := fun j => j = a ∨ j = b
section
variable {B nb bb rb : Nat} {s : NetS} {r : RefS} {w : World}
set_option maxRecDepth 100000 in
set_option maxHeartbeats 4000000 in
theorem does_take (m : Int) (hJ : JAt No B nb bb rb s r w) (hs : SR s r) (hb : SB s m) (hm : m ≤ 900000) (hB : 0 < B) (hg : ErrT w) (what i : Int) (b : Bool) (D : Option Addr) (n d : Nat) (hc : what % 6 = 2) :
    Calls Tryz.prog 12 #[.pointer (some ⟨nb, 0, none⟩), .pointer (some ⟨rb, 0, none⟩), deedV what i b D n d] w (DoesP B nb bb rb (m + 1) w) := by
  have HP := Lib.hid (fun w1 => pick_any what 6 w1 (by omega) (by omega))
  have HJ := Lib.hid (fun o w1 (h : Ext (w.alloc o) w1) => hJ.boxed h)
  have HS := Lib.hid hs
  have HB := Lib.hid hb
  have HG := Lib.hid hg
  rw [hc] at HP
  clear hJ hs hb hg
  unfold deedV
  go_enter Tryz.func12, Tryz.ntmps12
  go_wp2_with fail
  refine (HP.out _).mono ?_
  rintro ev w1 ⟨rfl, hE1⟩
  have hx1 := hE1.blk (heap_alloc_new w _)
  have HX := Lib.hid hx1
  have r1 := cell_of_heap hx1
  have hxw := heap_lt hx1
  have hX : ∀ j, isB w.heap.size j → j < w1.heap.size := fun j hj => by unfold isB at hj; omega
  have HJ1 := Lib.hid (HJ.out _ _ hE1)
  have HE1 := Lib.hid hE1
  clear hE1 hx1
  have HFF := Lib.hid (HB.out.fits (by omega))
  have HT1 := Lib.hid (jtake_n HJ1.out hX HFF.out hB (HG.out.ext (((Ext.refl w).alloc _).trans HE1.out)) i)
  go_wp2_with fail
  refine (HT1.out).mono ?_
  rintro ev w2 ⟨l, c1, s1, rfl, hT1, hJ2, hF2⟩
  have HF2 := Lib.hid hF2
  have HJ2 := Lib.hid hJ2
  have HTS := Lib.hid hT1
  have hx2 := (hF2.block _ hxw (fun t => t.2 rfl)).trans HX.out
  have r2 := cell_of_heap hx2
  have hxw2 := heap_lt hx2
  have HX2 := Lib.hid hx2
  clear hF2 hJ2 hT1 hx2 r1
  have hnb2 : w.heap.size ≠ w2.heap.size := by omega
  go_upto_region 4 with (refine wpList_store_all rfl _ _ rfl rfl w2.heap.size l _ rfl rfl (heap_alloc_new w2 _) (by simp) ?_; intro w3 hG3 hF3; have HG3 := Lib.hid hG3; have HE3 := Lib.hid (show Ext w2 w3 from ((Fr.ofExt (isB w2.heap.size) ((Ext.refl w2).alloc _)).trans hF3 (fun _ _ h => h)).toExt (fun i hi => by unfold isB at hi; omega)); have r3 := cell_of_heap (HE3.out.blk HX2.out); clear hG3 hF3)
  have HX3 := Lib.hid (HE3.out.blk HX2.out)
  have hX3 : ∀ j, two w.heap.size w2.heap.size j → j < w3.heap.size := fun j hj => by
    have h1 := heap_lt HX3.out
    have h2 := heap_lt HG3.out
    rcases hj with rfl | rfl
    · exact h1
    · exact h2
  have HJ3 := Lib.hid (HJ2.out.grow HE3.out (Y := two w.heap.size w2.heap.size) (fun j hj => hj.imp id (fun t => by omega)))
  have HT2 := Lib.hid (jtake_r HJ3.out hX3 (HS.out.fitsR HFF.out) (HTS.out.light HS.out.l) i)
  clear r2
  go_wp2_with fail
  refine (HT2.out).mono ?_
  rintro ev w4 ⟨l2, c2, r4, rfl, hT2, hJ4, hF4⟩
  obtain ⟨hcont, hcc, hlight, htight, hSR⟩ := HS.out.take HTS.out hT2
  subst hcc
  have HLI := Lib.hid hlight
  have HTI := Lib.hid htight
  have HCO := Lib.hid hcont
  have HSR := Lib.hid hSR
  have HF4 := Lib.hid hF4
  have HJ4 := Lib.hid hJ4
  have HG4 := Lib.hid ((hF4.block _ (heap_lt HG3.out) (fun t => t.2 (.inr rfl))).trans HG3.out)
  clear hF4 hJ4 hT2 hcont hlight htight hSR r3
  go_upto_region 5 with (refine wpList_store_all rfl _ _ rfl rfl w4.heap.size l2 _ rfl rfl (heap_alloc_new w4 _) (by simp) ?_; intro w5 hG5 hF5; have HG5 := Lib.hid hG5; have HE5 := Lib.hid (show Ext w4 w5 from ((Fr.ofExt (isB w4.heap.size) ((Ext.refl w4).alloc _)).trans hF5 (fun _ _ h => h)).toExt (fun i hi => by unfold isB at hi; omega)); clear hG5 hF5)
  have HG45 := Lib.hid (HE5.out.blk HG4.out)
  have HSL := Lib.hid (sameLet_any l l2 w5 (HLI.out.inW _) ((light_cont HCO.out.symm HLI.out).inW _))
  rw [show decide (l.cont = l2.cont) = true from decide_eq_true HCO.out] at HSL
  go_wp2_with (first | (refine wpList_load_letW rfl _ rfl w2.heap.size l rfl HG45.out ?_) | (refine wpList_load_letW rfl _ rfl w4.heap.size l2 rfl HG5.out ?_))
  refine (HSL.out).mono ?_
  rintro ev w6 ⟨rfl, hE6⟩
  obtain ⟨k22, k14⟩ := slot_light HLI.out HTI.out
  have q22 := (cell_of_heap (hE6.blk HG45.out) 22).trans k22
  have q14 := (cell_of_heap (hE6.blk HG45.out) 14).trans k14
  have HE6 := Lib.hid hE6
  clear hE6 k22 k14
  go_wp2_with fail
  refine (overBytes_0 _ _).mono ?_
  rintro ev w7 ⟨rfl, rfl⟩
  go_wp2_with fail
  refine (overEntries_0 _ _).mono ?_
  rintro ev w8 ⟨rfl, rfl⟩
  go_wp2_with fail
  go_ret
  have h1 := (Fr.ofExt (fun i => B ≤ i) (((Ext.refl w).alloc _).trans HE1.out)).trans (((HF2.out.then HE3.out).trans HF4.out (fun j _ t => ⟨t.1, fun e => t.2 (.inl e)⟩)).then (HE5.out.trans HE6.out)) (fun _ _ t => t.1)
  exact ⟨rfl, ⟨_, _, ((HJ4.out.ext (HE5.out.trans HE6.out)).sub (fun _ _ h => h.elim)), HSR.out, HTS.out.sb HB.out⟩, h1⟩
end
end Go.Proofs.YtjnllilmimngoaaGreatDoor
namespace Go.Proofs.YtjnllilmimngoaaGreatDoor
open Go.RowKit

theorem LetsIn.frL {S : Nat → Prop} {w w' : World} {A : Option Addr} {ls : List Let} (h : LetsIn w A ls) (hl : ∀ l ∈ ls, l.light) (hF : Fr S w w') (hS : Off S A) : LetsIn w' A ls := fun k l hk => by
  obtain ⟨b, f, rfl, _, _⟩ := h k l hk
  exact LetsIn.of (h.rd.fr hF hS) (fun l hl' => (hl l hl').inW _) k l hk
theorem LentRow.frL {g : Nat} {ls ls' : List Let} {w w' : World} (h : LentRow g ls ls' w) (hl : ∀ l ∈ ls, l.light) (hF : Fr (fun i => i < g) w w') : LentRow g ls ls' w' :=
  ⟨h.o.fr hF (fun i hi t => by
      have : g = i := by simpa [blk] using hi
      have t2 : i < g := t
      omega), h.n, fun j l hj => by
    obtain ⟨l', h1, h2⟩ := h.l j l hj
    exact ⟨l', h1, h2.fr hF (fun i t => by have t2 : i < g := t; omega) (hl l (List.mem_of_getElem? hj))⟩⟩
theorem LentRow.conts {g : Nat} {ls ls' : List Let} {w : World} (h : LentRow g ls ls' w) (hl : ∀ l ∈ ls, l.light) : ls'.map Let.cont = ls.map Let.cont := by
  refine List.ext_getElem? fun j => ?_
  rw [List.getElem?_map, List.getElem?_map]
  cases hj : ls[j]? with
  | none =>
    have h1 : ls'[j]? = none := by
      rw [List.getElem?_eq_none_iff, h.n]
      exact List.getElem?_eq_none_iff.1 hj
    rw [h1]
  | some l =>
    obtain ⟨l', h1, h2⟩ := h.l j l hj
    rw [h1]
    simp only [Option.map_some]
    rw [h2.cont (hl l (List.mem_of_getElem? hj))]
theorem LentRow.has {g : Nat} {ls ls' : List Let} {w : World} (h : LentRow g ls ls' w) : ∀ l ∈ ls', LentHas (g + 1) l w := fun x hx => by
  obtain ⟨j, hj⟩ := List.getElem?_of_mem hx
  have hjl := (List.getElem?_eq_some_iff.1 hj).1
  rw [h.n] at hjl
  obtain ⟨l', h1, h2⟩ := h.l j _ (List.getElem?_eq_getElem hjl)
  rw [hj] at h1
  injection h1 with h1
  subst h1
  exact h2.has
def xs (a g M : Nat) : Nat → Prop := fun j => j = a ∨ (g ≤ j ∧ j < M)
section
variable {B nb bb rb : Nat} {s : NetS} {r : RefS} {w : World}
set_option maxRecDepth 100000 in
set_option maxHeartbeats 4000000 in
theorem does_send (m : Int) (hJ : JAt No B nb bb rb s r w) (hs : SR s r) (hb : SB s m) (hm : m ≤ 900000) (hB : 0 < B) (hBw : B ≤ w.heap.size) (hg : ErrT w) (what i : Int) (b : Bool) (D : Option Addr) (d : Nat) (ls : List Let) (hL : LetsIn w D ls) (hl : ∀ l ∈ ls, l.light) (hn : ls.length ≤ 10000) (hD : ∀ i, blk D i → i < B) (p : Int) (hc : what % 6 = p) (hp : p = 0 ∨ p = 1) :
    Calls Tryz.prog 12 #[.pointer (some ⟨nb, 0, none⟩), .pointer (some ⟨rb, 0, none⟩), deedV what i b D ls.length d] w (DoesP B nb bb rb (m + ls.length) w) := by
  have HP := Lib.hid (fun w1 => pick_any what 6 w1 (by omega) (by omega))
  have HJ := Lib.hid (fun o w1 (h : Ext (w.alloc o) w1) => hJ.boxed h)
  have HS := Lib.hid hs
  have HB := Lib.hid hb
  have HG := Lib.hid hg
  have HL := Lib.hid hL
  have HLI := Lib.hid hl
  have k2 : (p == 2) = false := by simp; omega
  have k3 : (p == 3) = false := by simp; omega
  have k4 : (p == 4) = false := by simp; omega
  have k5 : (p == 5) = false := by simp; omega
  rw [hc] at HP
  clear hJ hs hb hg hL hl hc hp
  unfold deedV
  go_enter Tryz.func12, Tryz.ntmps12
  go_wp2_with fail
  refine (HP.out _).mono ?_
  rintro ev w1 ⟨rfl, hE1⟩
  have hx1 := hE1.blk (heap_alloc_new w _)
  have HX1 := Lib.hid hx1
  have r1 := cell_of_heap hx1
  have HEW := Lib.hid (((Ext.refl w).alloc _).trans hE1)
  have HL1 := Lib.hid (HL.out.ext HEW.out)
  have HE1 := Lib.hid hE1
  have HLT := Lib.hid (lentLets_light D d ls w1 HL1.out HLI.out hn)
  clear hE1 hx1
  go_wp2_with fail
  refine (HLT.out).mono ?_
  rintro ev w2 ⟨ls', rfl, hR, hE2⟩
  have HE2 := Lib.hid hE2
  have HR := Lib.hid hR
  have HX2 := Lib.hid (hE2.blk HX1.out)
  clear hR hE2 r1
  go_wp2_with fail
  have hxw := heap_lt HX2.out
  have hgM : w1.heap.size < w2.heap.size := (HR.out.o.lt (i := w1.heap.size) rfl).2
  have hff := HB.out.fits (by omega)
  have hB2 : B ≤ w1.heap.size := Nat.le_trans hBw HEW.out.sz
  have hX : ∀ j, xs w.heap.size w1.heap.size w2.heap.size j → j < w2.heap.size := fun j hj => by
    rcases hj with rfl | hj
    · exact hxw
    · exact hj.2
  have hHX : ∀ wx, Fr (JF (xs w.heap.size w1.heap.size w2.heap.size) B) w2 wx → ∀ k, wx.cell? ⟨w.heap.size, k, none⟩ = _ := fun wx h k => cell_of_heap ((h.block _ hxw (fun t => t.2 (.inl rfl))).trans HX2.out) k
  have hsz : ∀ wx, Fr (JF (xs w.heap.size w1.heap.size w2.heap.size) B) w2 wx → ∀ j, xs w.heap.size w1.heap.size w2.heap.size j → j < wx.heap.size := fun wx h j hj => Nat.lt_of_lt_of_le (hX j hj) h.size
  have hgx : ∀ wx, Fr (JF (xs w.heap.size w1.heap.size w2.heap.size) B) w2 wx → ErrT wx := fun wx h => (HG.out.ext (HEW.out.trans HE2.out)).fr h (fun t => by have := t.1; omega)
  have hLg : ∀ wx, Fr (JF (xs w.heap.size w1.heap.size w2.heap.size) B) w2 wx → LentRow w1.heap.size ls ls' wx := fun wx h => HR.out.frL HLI.out (h.mono fun j hj t => by
    have h1 : ¬ (w1.heap.size ≤ j ∧ j < w2.heap.size) := fun e => t.2 (.inr e)
    show j < w1.heap.size
    omega)
  have hLd : ∀ wx, Fr (JF (xs w.heap.size w1.heap.size w2.heap.size) B) w2 wx → LetsIn wx D ls := fun wx h => (HL1.out.ext HE2.out).frL HLI.out h (fun ad had t => by
    subst had
    have := hD _ rfl
    have := t.1
    omega)
  have hcon := HR.out.conts HLI.out
  have hl' : ∀ l ∈ ls', l.light := light_all hcon HLI.out
  have hJ2 := (HJ.out _ _ HE1.out).grow HE2.out (Y := xs w.heap.size w1.heap.size w2.heap.size) (fun j hj => hj.imp id (fun t => t.1))
  have hC2 := sendC_eq hcon HS.out.len.symm
  refine Stab.wp_region_lex (Fr (JF (xs w.heap.size w1.heap.size w2.heap.size) B)) (Fr (JF (xs w.heap.size w1.heap.size w2.heap.size) B) w2) (JAt (xs w.heap.size w1.heap.size w2.heap.size) B nb bb rb s r) (by kernel_rfl) (by kernel_rfl) (fun _ _ h => Fr.ofExt _ h) (fun _ _ h k => h.trans k (fun _ _ t => t)) (fun _ _ h k => h.ext k) ((Fr.refl _ w2).drew) (hJ2.ext (Ext.refl _).drew) ?_
  simp only [Stab.zipL, Nat.reduceAdd]
  iterate 2 (refine Stab.wpX_val rfl rfl ?_; apply Exists.intro; refine ⟨fun wx hC _ => ?_, ?_⟩; (have r0 := hHX wx hC; go_simp; exact ⟨Ext.refl _, rfl⟩); simp only [Act.put, List.setIfInBounds_toArray, List.set_cons_zero, List.set_cons_succ])
  refine Stab.wpX_call (fun u _ => u = .int .i64 (sendC s.us.length ls')) (fun _ wx => ∃ s', SendS s ls' s' ∧ JAt (xs w.heap.size w1.heap.size w2.heap.size) B nb bb rb s' r wx) rfl rfl (fun _ _ _ h _ => h) (fun _ _ _ h k => ⟨h.choose, h.choose_spec.1, h.choose_spec.2.ext k⟩) ?_ ?_
  · intro wx hC hT hF
    go_simp
    refine ⟨rfl, ?_⟩
    have hlr := hLg wx hC
    have hin : LetsIn wx (some ⟨w1.heap.size, 0, none⟩) ls' := fun k l hk => (LetsIn.light hlr.o (hlr.lights HLI.out)) k l (by rw [List.getElem?_append_left (List.getElem?_eq_some_iff.1 hk).1]; exact hk)
    have h0 := jsend_n hT (hsz wx hC) hff hB (Nat.le_trans hB2 (Nat.le_trans HE2.out.sz hC.size)) (hgx wx hC) (some ⟨w1.heap.size, 0, none⟩) (ls.length + 12) ls' hin hl' (by rw [hlr.n]; exact hn) (fun j hj => .inr (.inr (by
      have h9 : w1.heap.size = j := by simpa [blk] using hj
      omega)))
    rw [hlr.n] at h0
    refine h0.mono ?_
    rintro ev w11 ⟨rfl, h1, h2⟩
    exact ⟨h2, rfl, h1⟩
  rintro ux ⟨_, _, rfl, _⟩
  simp only [Act.put, List.setIfInBounds_toArray, List.set_cons_zero, List.set_cons_succ]
  iterate 3 (refine Stab.wpX_val rfl rfl ?_; apply Exists.intro; refine ⟨fun wx hC _ => ?_, ?_⟩; (have r0 := hHX wx hC; go_simp; exact ⟨Ext.refl _, rfl⟩); simp only [Act.put, List.setIfInBounds_toArray, List.set_cons_zero, List.set_cons_succ])
  refine Stab.wpX_call (fun u _ => u = .int .i64 (sendC s.us.length ls')) (fun _ wx => ∃ s' r', SendS s ls' s' ∧ SendR r ls r' ∧ JAt (xs w.heap.size w1.heap.size w2.heap.size) B nb bb rb s' r' wx) rfl rfl (fun _ _ _ h _ => h) (fun _ _ _ h k => by obtain ⟨s', r', h1, h2, h3⟩ := h; exact ⟨s', r', h1, h2, h3.ext k⟩) ?_ ?_
  · intro wx hC hT hF
    go_simp
    refine ⟨rfl, ?_⟩
    obtain ⟨s', hCs, hT⟩ := hT
    refine (jsend_r hT (hsz wx hC) (HS.out.fitsR hff) (Nat.le_trans hB2 (Nat.le_trans HE2.out.sz hC.size)) (hCs.light hl' HS.out.l) D d ls (hLd wx hC) HLI.out hn (fun j hj => .inl (hD j hj))).mono ?_
    rintro ev w11 ⟨rfl, ⟨r', h1, h3⟩, h2⟩
    exact ⟨h2, by rw [← hC2], s', hCs, r', h1, h3⟩
  rintro ux ⟨_, _, rfl, _⟩
  simp only [Act.put, List.setIfInBounds_toArray, List.set_cons_zero, List.set_cons_succ]
  iterate 5 (refine Stab.wpX_val rfl rfl ?_; apply Exists.intro; refine ⟨fun wx hC _ => ?_, ?_⟩; (have r0 := hHX wx hC; go_simp; exact ⟨Ext.refl _, rfl⟩); simp only [Act.put, List.setIfInBounds_toArray, List.set_cons_zero, List.set_cons_succ])
  refine Stab.wpX_call1 rfl rfl (fun _ _ h k => by obtain ⟨s', r', h1, h2, h3⟩ := h; exact ⟨s', r', h1, h2, h3.ext k⟩) ?_
  apply Exists.intro
  refine ⟨fun wx hC hT hF => ?_, ?_⟩
  · go_simp
    refine ⟨rfl, ?_⟩
    refine (keptLets_true w1.heap.size D d ls ls' wx (hLg wx hC) (hLd wx hC) HLI.out hn).mono ?_
    rintro ev w9 ⟨rfl, hE9⟩
    obtain ⟨s', r', h1, h2, h3⟩ := hT
    exact ⟨Fr.ofExt _ hE9, rfl, s', h1, r', h2, h3.ext hE9⟩
  simp only [Act.put, List.setIfInBounds_toArray, List.set_cons_zero, List.set_cons_succ]
  iterate 2 (refine Stab.wpX_val rfl rfl ?_; apply Exists.intro; refine ⟨fun wx hC _ => ?_, ?_⟩; (have r0 := hHX wx hC; go_simp; exact ⟨Ext.refl _, rfl⟩); simp only [Act.put, List.setIfInBounds_toArray, List.set_cons_zero, List.set_cons_succ])
  refine Stab.wpX_end fun w12 hC12 hT12 _ => ?_
  have hlr := hLg w12 hC12
  have HOV := Lib.hid (overLets_lent w1.heap.size ls ls' w12 hlr.o hlr.n hl' hlr.has w2 HR.out.has hgM hn)
  have HC12 := Lib.hid hC12
  have HT12 := Lib.hid hT12
  clear hC12 hT12 hlr hgx hLg hLd hJ2 hHX hsz hX
  go_wp2_with fail
  refine (HOV.out).mono ?_
  rintro ev w13 ⟨rfl, hF13⟩
  have HF13 := Lib.hid hF13
  clear hF13
  go_wp2_with fail
  go_ret
  obtain ⟨s', r', h1, h2, h3⟩ := HT12.out
  have hsr := HS.out.send hl' hcon.symm h1 h2
  have hsb := h1.sb HB.out
  rw [HR.out.n] at hsb
  refine ⟨rfl, ⟨s', r', (h3.fr HF13.out (fun j t => .inr t) hsr.l).sub (fun _ _ h => h.elim), hsr, hsb⟩, ?_⟩
  exact ((Fr.ofExt _ (HEW.out.trans HE2.out)).trans HC12.out (fun _ _ t => t.1)).trans HF13.out (fun j _ t => Nat.le_trans hB2 t.1)
end
end Go.Proofs.YtjnllilmimngoaaGreatDoor
namespace Go.Proofs.YtjnllilmimngoaaGreatDoor
open Go.RowKit

theorem DoesP.up {B nb bb rb : Nat} {m m' : Int} {w w' : World} {e : Ending} (h : DoesP B nb bb rb m w e w') (hm : m ≤ m') : DoesP B nb bb rb m' w e w' := by
  obtain ⟨h1, ⟨s', r', h2, h3, h4⟩, h5⟩ := h
  exact ⟨h1, ⟨s', r', h2, h3, h4.up hm⟩, h5⟩
theorem does_any {B nb bb rb : Nat} {s : NetS} {r : RefS} {w : World} (m : Int) (hJ : JAt No B nb bb rb s r w) (hs : SR s r) (hb : SB s m) (hm : m ≤ 900000) (hB : 0 < B) (hBw : B ≤ w.heap.size) (hg : ErrT w) (what i : Int) (b : Bool) (D : Option Addr) (d : Nat) (ls : List Let) (hL : LetsIn w D ls) (hl : ∀ l ∈ ls, l.light) (hn : ls.length ≤ 10000) (hD : ∀ i, blk D i → i < B) :
    Calls Tryz.prog 12 #[.pointer (some ⟨nb, 0, none⟩), .pointer (some ⟨rb, 0, none⟩), deedV what i b D ls.length d] w (DoesP B nb bb rb (m + (ls.length + 1)) w) := by
  have h1 := Int.emod_nonneg what (show (6 : Int) ≠ 0 by omega)
  have h2 := Int.emod_lt_of_pos what (show (0 : Int) < 6 by omega)
  by_cases c2 : what % 6 = 2
  · exact (does_take m hJ hs hb hm hB hg what i b D ls.length d c2).mono fun _ _ h => h.up (by omega)
  by_cases c3 : what % 6 = 3
  · exact (does_copy m hJ hs hb hm hB hBw hg what i b D ls.length d c3).mono fun _ _ h => h.up (by omega)
  by_cases c4 : what % 6 = 4
  · exact (does_drop m hJ hs hb hm hB hg what i b D ls.length d c4).mono fun _ _ h => h.up (by omega)
  by_cases c5 : what % 6 = 5
  · exact (does_cut m hJ hs hb hm hB hBw hg what i b D ls.length d c5).mono fun _ _ h => h.up (by omega)
  exact (does_send m hJ hs hb hm hB hBw hg what i b D d ls hL hl hn hD (what % 6) rfl (by omega)).mono fun _ _ h => h.up (by omega)
end Go.Proofs.YtjnllilmimngoaaGreatDoor
namespace Go.Proofs.YtjnllilmimngoaaGreatDoor
open Go.RowKit

theorem run_append_Z {P : Program} (w : World) (t ty e : TypeId) (i : TypeInfo) (z : Value) (sz bytes : Nat) (ht : P.underlying t = some (.slice e)) (hi : P.info? e = some i) (hz : i.zero = some z)
    (hsize : i.size = sz) (hsz : 0 < sz) (hby : i.bytes = bytes) (hzs : z.cells.size = sz) (B : Nat) (A : Option Addr)
    (D : Option Addr) (m cc : Nat) (news : List Value) (hl : news.length = m * sz) (hr : Rd w D news) (h0 : 0 < m)
    (h63 : m ≤ maxLen) (hbytes : m * bytes ≤ 140737488355328) (hbase : B ≤ w.heap.size) :
    ∃ v' w', (Builtin.append_ #[t, t] ty #[.slice A 0 0, .slice D m cc]).run P w = .ok v' w' ∧ GrewW sz w B e none m news v' w' ∧ Ext w w' := by
  subst hsize
  subst hby
  have hpos : 0 < news.length := by rw [hl]; exact Nat.mul_pos (by omega) hsz
  obtain ⟨ad, rfl, _⟩ := hr 0 news[0] (List.getElem?_eq_getElem hpos)
  have hnews : ∀ j u, news[j]? = some u → w.cell? (ad.add j) = some u := fun j u hj => by
    obtain ⟨ad', ha, hc⟩ := hr j u hj
    injection ha with ha; subst ha; exact hc
  have hsmall : m ≤ 9223372036854775807 := by simp only [maxLen] at h63; omega
  have hg := grewW_new w (sz := i.size) (B := B) (e := e) (A := none) (n := 0) (m := m) z hzs [] news 0 (by simp) hl (by omega) hbase
  cases A with
  | none =>
    have hr := run_append_nil (P := P) w t ty e i z ht hi hz ad m cc news hl hnews (by omega) (by omega) (by omega)
    simp only [Nat.zero_add, List.nil_append, Array.empty_append] at hg hr ⊢
    exact ⟨_, _, hr, hg, ((Ext.refl w).drew).alloc _⟩
  | some b =>
    have hr := run_append_grow (P := P) w t ty e i z ht hi hz b 0 0 [] (by simp) (by simp) ad m cc news hl hnews (by omega) (by omega) (by rw [Nat.zero_add, nextslicecap_zero h0]; omega)
    simp only [Nat.zero_add, List.nil_append, Array.empty_append] at hg hr ⊢
    exact ⟨_, _, hr, hg, ((Ext.refl w).drew).alloc _⟩
theorem wpList_append_Z {ops : Array Oper} {rest : List Oper} {o : Oper} {a : Act} {Q : Exit → Act → World → Prop} (w : World) (hgd : o.guard = none) (s x : Operand) (t : TypeId)
    (ho : o.op = .call { callee := .builtin .append, args := #[s, x], argTypes := #[t, t] }) (e : TypeId) (sz bytes : Nat) (ht : Tryz.prog.underlying t = some (.slice e))
    (hinfo : (Tryz.prog.info? e).map (fun i => (i.zero.map (fun z => z.cells.size), i.size, i.bytes)) = some (some sz, sz, bytes)) (hsz : 0 < sz)
    (B : Nat) (A : Option Addr) (n c : Nat) (xs : List Value) (hs : a.eval s = .slice A n c) (hown : (n = 0 ∧ c = 0 ∧ xs = []) ∨ (0 < n ∧ OwnW sz w B e A n c xs))
    (D : Option Addr) (m cc : Nat) (news : List Value) (hx : a.eval x = .slice D m cc) (hl : news.length = m * sz) (hr : Rd w D news) (h1 : ∀ u ∈ news, u.oneCell' = true) (h0 : 0 < m)
    (h63 : n + m ≤ maxLen) (hbytes : (n + m) * bytes ≤ 140737488355328) (hbase : B ≤ w.heap.size)
    (h : ∀ A' c' w', OwnW sz w' B e A' (n + m) c' (xs ++ news) → Fr (fun i => n ≠ 0 ∧ blk A i) w w' → (∀ i, blk A' i → (n ≠ 0 ∧ blk A i) ∨ B ≤ i) → wpList Tryz.prog ops Q rest (a.put o.dst (.slice A' (n + m) c')) w') : wpList Tryz.prog ops Q (o :: rest) a w := by
  refine wpList_plain hgd fun K hK => ?_
  obtain ⟨i0, hi, hz⟩ := Option.map_eq_some_iff.1 hinfo
  simp only [Prod.mk.injEq] at hz
  obtain ⟨hz0, hz1, hz2⟩ := hz
  obtain ⟨z, hz3, hz4⟩ := Option.map_eq_some_iff.1 hz0
  unfold Oper.wp execOp
  rcases hown with ⟨rfl, rfl, rfl⟩ | ⟨hn, hown⟩
  · rw [Nat.zero_add] at h63 hbytes
    obtain ⟨v', w', h2, ⟨A', c', rfl, h3, h4, h5⟩, h6⟩ := run_append_Z (P := Tryz.prog) w t o.type e i0 z sz bytes ht hi hz3 hz1 hsz hz2 hz4 B A D m cc news hl hr h0 h63 hbytes hbase
    simp only [ho, resolve, invoke, builtin, Sem.run_bind, Sem.run_pure, Result.andThen_ok, List.map_toArray, List.map_cons, List.map_nil, hs, hx, h2]
    have h8 := h A' c' w'
    simp only [Nat.zero_add, List.nil_append] at h8
    exact hK _ _ (h8 h3 (h4.mono fun i _ t => by simp [blk] at t) (fun i hi => (h5 i hi).elim (fun t => by simp [blk] at t) (fun t => .inr (by omega))))
  · obtain ⟨v', w', h2, ⟨A', c', rfl, h3, h4, h5⟩, h6⟩ := run_append_W (P := Tryz.prog) w t o.type e i0 z sz bytes ht hi hz3 hz1 hsz hz2 hz4 B A n c xs hown D m cc news hl hr h1 h63 hbytes hbase
    simp only [ho, resolve, invoke, builtin, Sem.run_bind, Sem.run_pure, Result.andThen_ok, List.map_toArray, List.map_cons, List.map_nil, hs, hx, h2]
    exact hK _ _ (h A' c' w' h3 (h4.mono fun i _ t => ⟨by omega, t⟩) (fun i hi => (h5 i hi).elim (fun t => .inl ⟨by omega, t⟩) (fun t => .inr (by omega))))
end Go.Proofs.YtjnllilmimngoaaGreatDoor
