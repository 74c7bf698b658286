/-
  has at any letter; check; Right.
  check; Right.
-/
import Derived.Test.YtigljihohpdpeaaGreatDoorM17
import Derived.Test.YtigljihohpdpeaaGreatDoorM18
import Derived.Test.YtigljihohpdpeaaGreatDoorM19
import Derived.Test.YtigljihohpdpeaaGreatDoorM20
import Derived.Test.YtigljihohpdpeaaGreatDoorM21
import Derived.Test.YtigljihohpdpeaaGreatDoorM22
import Derived.Test.YtigljihohpdpeaaGreatDoorM23
import Derived.Test.YtigljihohpdpeaaGreatDoorM11
import Derived.Test.YtigljihohpdpeaaGreatDoorM12
namespace Go.Proofs.YtigljihohpdpeaaGreatDoor
open Go.RowKit

def okT (l : Let) : Bool := ok0 l && decide (0 < l.term)
/-- What has makes of a letter, and whether it is right. -/
def Let.own (l : Let) : Let := if l.kind = 1 then l.o1 else if l.kind = 2 then l.o2 else if l.kind = 3 then l.o3 else if l.kind = 4 then l.o4 else if l.kind = 5 then l.o5 else if l.kind = 6 then l.o6
  else if l.kind = 7 then (if 0 < l.want.length then l.o7a else l.o7b) else if l.kind = 8 then (if 0 < l.ents.length then l.o8a else l.o5) else l.base
def Let.ok (l : Let) : Bool := if l.kind = 1 then okT l && l.last.right else if l.kind = 2 then ok0 l else if l.kind = 3 then okT l && (l.prev.right && (inR l.commit 0 1099511627776 && rowOk l)) else if l.kind = 4 then ok0 l && inR l.index 0 1099511627776
  else if l.kind = 5 then okT l && carriedOk l else if l.kind = 6 then ok0 l && (l.last.some_ && inR l.piece 0 48) else if l.kind = 7 then (if 0 < l.want.length then ok0 l && wantsOk l.want else ok0 l && (l.last.some_ && inR l.piece 0 47))
  else if l.kind = 8 then (if 0 < l.ents.length then ok0 l && (goodsOk l.ents && aheadsOk l.ents l.want) else ok0 l && carriedOk l) else false
theorem has_any (l : Let) (w : World) (hin : l.inW w) (hg : ErrT w) : Calls Tryz.prog 44 #[l.v] w (HasPost 4 l.own l.ok w) := by
  unfold Let.own Let.ok
  by_cases h1 : l.kind = 1
  · rw [if_pos h1, if_pos h1]; exact has_1 l w hin hg h1
  rw [if_neg h1, if_neg h1]
  by_cases h2 : l.kind = 2
  · rw [if_pos h2, if_pos h2]; exact has_2 l w hin hg h2
  rw [if_neg h2, if_neg h2]
  by_cases h3 : l.kind = 3
  · rw [if_pos h3, if_pos h3]; exact has_3 l w hin hg h3
  rw [if_neg h3, if_neg h3]
  by_cases h4 : l.kind = 4
  · rw [if_pos h4, if_pos h4]; exact has_4 l w hin hg h4
  rw [if_neg h4, if_neg h4]
  by_cases h5 : l.kind = 5
  · rw [if_pos h5, if_pos h5]; exact has_5 l w hin hg h5
  rw [if_neg h5, if_neg h5]
  by_cases h6 : l.kind = 6
  · rw [if_pos h6, if_pos h6]; exact has_6 l w hin hg h6
  rw [if_neg h6, if_neg h6]
  by_cases h7 : l.kind = 7
  · rw [if_pos h7, if_pos h7]
    by_cases hw : 0 < l.want.length
    · rw [if_pos hw, if_pos hw]; exact has_7a l w hin hg h7 hw
    · rw [if_neg hw, if_neg hw]; exact has_7b l w hin hg h7 (by omega)
  rw [if_neg h7, if_neg h7]
  by_cases h8 : l.kind = 8
  · rw [if_pos h8, if_pos h8]
    by_cases hw : 0 < l.ents.length
    · rw [if_pos hw, if_pos hw]; exact has_8a l w hin hg h8 hw
    · rw [if_neg hw, if_neg hw]; exact has_8b l w hin hg h8 (by omega)
  rw [if_neg h8, if_neg h8]
  exact has_X l w hin hg (by omega)
end Go.Proofs.YtigljihohpdpeaaGreatDoor
namespace Go.Proofs.YtigljihohpdpeaaGreatDoor
open Go.RowKit Go.Extern.Stop Go.Stop Go.Extern

def rightL (l : Let) : Bool := l.ok && plainEq l.own l
set_option maxRecDepth 100000 in
set_option maxHeartbeats 2000000 in
theorem check_any (l : Let) (w : World) (hin : l.inW w) (hg : ErrT w) : Calls Tryz.prog 28 #[l.v] w (ErrPost 5 (rightL l) w) := by
  have HH := Lib.hid (fun w' (h : Ext w w') => has_any l w' (hin.ext h) (hg.ext h))
  have HP1 := Lib.hid (fun w => plainly_any l.own w)
  have HP2 := Lib.hid (fun w => plainly_any l w)
  have HEQ := Lib.hid (fun w => eqPlain l.own l w)
  have hV : l.v = .agg l.arr := rfl
  unfold plainV at HP1 HP2 HEQ
  rw [hV]
  clear hin hg hV
  go_enter Tryz.func28, Tryz.ntmps28
  go_wp2_with (first | (refine wpList_load_let rfl _ rfl w.heap.size l rfl (heap_alloc_new w _) ?_) | (go_at_call 44; refine (HH.out _ ((Ext.refl w).alloc _)).mono ?_; rintro e w5 ⟨e5, rfl, hEr, hE5⟩; have g0 := hE5.blk (heap_alloc_new w _); have HER := Lib.hid hEr; have HE5 := Lib.hid hE5; have HG0 := Lib.hid g0; clear g0 hEr hE5) | (refine wpList_store_all rfl _ _ rfl rfl w5.heap.size l.own _ rfl rfl (heap_alloc_new w5 _) rfl ?_; intro w6 hg6 hF6; have HG6 := Lib.hid hg6; have HF6 := Lib.hid hF6; clear hg6 hF6))
  have hlt := heap_lt HG0.out
  have HE6 := Lib.hid (((Fr.ofExt (isB w5.heap.size) ((Ext.refl w5).alloc _)).trans HF6.out (fun _ _ h => h)).toExt (fun i hi => by unfold isB at hi; omega))
  have HG1 := Lib.hid (HE6.out.blk HG0.out)
  refine Stab.wp_region_lex Ext (Ext _) (fun _ => True) (by kernel_rfl) (by kernel_rfl) (fun _ _ h => h) (fun _ _ h k => Ext.trans h k) (fun _ _ _ _ => trivial) ((Ext.refl _).drew) trivial ?_
  simp only [Stab.zipL, Nat.reduceAdd]
  iterate 1 (refine Stab.wpX_val rfl rfl ?_; apply Exists.intro; refine ⟨fun wx hC _ => ?_, ?_⟩; (go_simp; (try simp (disch := omega) only [↓IntWalk.iteOmega, Stab.yieldsUpon_value, IntWalk.i64_in]); exact ⟨Ext.refl _, rfl⟩); simp only [Act.put, List.setIfInBounds_toArray, List.set_cons_zero, List.set_cons_succ])
  refine Stab.wpX_val rfl rfl ⟨l.own.v, fun wx hC _ => yields_load_let _ rfl w5.heap.size l.own rfl (hC.blk HG6.out), ?_⟩
  simp only [Act.put, List.setIfInBounds_toArray, List.set_cons_zero, List.set_cons_succ]
  iterate 1 (refine Stab.wpX_call1 rfl rfl (fun _ _ _ _ => trivial) ?_; apply Exists.intro; refine ⟨fun wx hC _ _ => ?_, ?_⟩; (go_simp; refine ⟨rfl, ?_⟩; refine (HP1.out _).mono ?_; rintro ev w9 ⟨rfl, hb9⟩; (first | (subst hb9; exact ⟨Ext.refl _, rfl, trivial⟩) | (subst hb9; exact ⟨Ext.refl _, rfl⟩) | exact ⟨hb9, rfl, trivial⟩ | exact ⟨hb9, rfl⟩)); simp only [Act.put, List.setIfInBounds_toArray, List.set_cons_zero, List.set_cons_succ])
  refine Stab.wpX_val rfl rfl ⟨l.v, fun wx hC _ => yields_load_let _ rfl w.heap.size l rfl (hC.blk HG1.out), ?_⟩
  simp only [Act.put, List.setIfInBounds_toArray, List.set_cons_zero, List.set_cons_succ]
  iterate 1 (refine Stab.wpX_call1 rfl rfl (fun _ _ _ _ => trivial) ?_; apply Exists.intro; refine ⟨fun wx hC _ _ => ?_, ?_⟩; (go_simp; refine ⟨rfl, ?_⟩; refine (HP2.out _).mono ?_; rintro ev w9 ⟨rfl, hb9⟩; (first | (subst hb9; exact ⟨Ext.refl _, rfl, trivial⟩) | (subst hb9; exact ⟨Ext.refl _, rfl⟩) | exact ⟨hb9, rfl, trivial⟩ | exact ⟨hb9, rfl⟩)); simp only [Act.put, List.setIfInBounds_toArray, List.set_cons_zero, List.set_cons_succ])
  iterate 1 (refine Stab.wpX_val rfl rfl ?_; apply Exists.intro; refine ⟨fun wx hC _ => ?_, ?_⟩; (have hq := HEQ.out; go_simp; (try simp (disch := omega) only [↓IntWalk.iteOmega, Stab.yieldsUpon_value, IntWalk.i64_in]); exact ⟨Ext.refl _, rfl⟩); simp only [Act.put, List.setIfInBounds_toArray, List.set_cons_zero, List.set_cons_succ])
  iterate 1 (refine Stab.wpX_call1 rfl rfl (fun _ _ _ _ => trivial) ?_; apply Exists.intro; refine ⟨fun wx hC _ _ => ?_, ?_⟩; (go_simp; refine ⟨rfl, ?_⟩; refine (holds_part _ _ _).mono ?_; rintro ev w9 ⟨rfl, hb9⟩; (first | (subst hb9; exact ⟨Ext.refl _, rfl, trivial⟩) | (subst hb9; exact ⟨Ext.refl _, rfl⟩) | exact ⟨hb9, rfl, trivial⟩ | exact ⟨hb9, rfl⟩)); simp only [Act.put, List.setIfInBounds_toArray, List.set_cons_zero, List.set_cons_succ])
  refine Stab.wpX_new (fun u W => ∃ b, u = .slice (some ⟨b, 0, none⟩) 2 2 ∧ W.heap[b]? = some (.cells #[e5, holdsV ⟨#[109, 111, 114, 101]⟩ (plainEq l.own l)] 69)) rfl rfl (by kernel_rfl) (fun u W W' ⟨b, h1, h2⟩ hle => ⟨b, h1, hle.blk h2⟩) (fun _ _ _ _ => trivial) ?_ ?_
  · intro wx hC _
    refine yields_build 2 _ rfl _ ?_ _ (build2 (e5) (holdsV ⟨#[109, 111, 114, 101]⟩ (plainEq l.own l)) wx HER.out.cells (holdsV_cells _ _))
    simp [Act.eval]
  rintro ul ⟨_, _, ⟨lb, rfl, _⟩, _⟩
  simp only [Act.put, List.setIfInBounds_toArray, List.set_cons_zero, List.set_cons_succ]
  refine Stab.wpX_call (fun u W => Err (4 + 1) W (rightL l) u) (fun _ _ => True) rfl rfl (fun _ _ _ h he => h.ext he) (fun _ _ _ _ _ => trivial) ?_ ?_
  · intro wx hC _ hF
    obtain ⟨lb', hl1, hl2⟩ := (hF 7 (by kernel_rfl)).2 rfl
    obtain rfl : lb = lb' := by simpa using hl1
    go_simp
    refine ⟨rfl, ?_⟩
    refine (join_errs 4 (some ⟨lb, 0, none⟩) 2 [e5, holdsV ⟨#[109, 111, 114, 101]⟩ (plainEq l.own l)] [l.ok, plainEq l.own l] (rightL l) wx (rd_heap hl2) (by simp) (by simp [rightL]) ⟨(HER.out.ext HE6.out).ext hC, (Err.holds _ _ _).le (by omega), trivial⟩).mono ?_
    rintro ev w9 ⟨v, rfl, hEr, hE9⟩
    exact ⟨hE9, hEr⟩
  rintro uj ⟨_, _, _, _⟩
  simp only [Act.put, List.setIfInBounds_toArray, List.set_cons_zero, List.set_cons_succ]
  iterate 1 (refine Stab.wpX_val rfl rfl ?_; apply Exists.intro; refine ⟨fun wx hC _ => ?_, ?_⟩; (go_simp; (try simp (disch := omega) only [↓IntWalk.iteOmega, Stab.yieldsUpon_value, IntWalk.i64_in]); exact ⟨Ext.refl _, rfl⟩); simp only [Act.put, List.setIfInBounds_toArray, List.set_cons_zero, List.set_cons_succ])
  refine Stab.wpX_end fun w8 hC8 _ hF8 => ?_
  have hEr := (hF8 8).2 rfl
  go_wp2_with fail
  go_ret
  exact ⟨_, rfl, hEr, (((Ext.refl w).alloc _).trans HE5.out).trans (HE6.out.trans hC8)⟩

theorem Er.comparableN2 (w : World) : ((Extern.ReflectliteType.method fun t => do Rtype.noPackHeld "Comparable" t; (fun a => Value.bool a.comparable) <$> typeInfo t) #[.agg #[.pointer (some ⟨1, 76, none⟩)]]).run Tryz.prog w = .ok (.bool true) w := by kernel_rfl
theorem Is_nilP (w : World) : Calls Tryz.prog 26 #[.nilIface, argV] w fun e w' => e = .returned (.bool false) ∧ w = w' := by
  have hn := fun w => run_eql_iface_nil_left (P := Tryz.prog) w 76 (.int .i64 2) Tryz.underlying69
  unfold argV
  go_enter Tryz.func26, Tryz.ntmps26
  go_wp2
  go_ret
  exact ⟨rfl, rfl⟩
set_option maxRecDepth 100000 in
theorem Is_bad (d : Nat) (v : Value) (w : World) (h : Bad d w v) : Calls Tryz.prog 26 #[v, argV] w fun e w' => e = .returned (.bool true) ∧ Ext w w' := by
  have hB := Lib.hid (is_bad d v w h)
  obtain ⟨T, x, rfl⟩ := Err.no (d := d) (w := w) (v := v) h
  clear h
  have h1 := Er.xTypeOf
  have h2 := Er.xComparable
  have h3 := Er.typeOfN
  have h4 := Er.comparableN2
  have h5 := Er.methodComparableR
  unfold argV at hB ⊢
  go_enter Tryz.func26, Tryz.ntmps26
  go_wp2_with (go_at_call 42; refine (hB.out).mono ?_; rintro e w1 ⟨rfl, hE1⟩)
  go_ret
  exact ⟨rfl, hE1⟩
theorem Is_err (d : Nat) (ok : Bool) (v : Value) (w : World) (h : Err d w ok v) : Calls Tryz.prog 26 #[v, argV] w fun e w' => e = .returned (.bool (!ok)) ∧ Ext w w' := by
  cases ok
  · exact Is_bad d v w h
  · obtain rfl : v = .nilIface := h
    exact (Is_nilP w).mono fun e w' ⟨h1, h2⟩ => ⟨h1, by subst h2; exact Ext.refl _⟩

set_option maxRecDepth 100000 in
theorem Right_any (l : Let) (w : World) (hin : l.inW w) (hg : ErrT w) : Calls Tryz.prog 11 #[l.v] w fun e w' => e = .returned (.bool (rightL l)) ∧ Ext w w' := by
  have HC := Lib.hid (fun w' (h : Ext w w') => check_any l w' (hin.ext h) (hg.ext h))
  have hV : l.v = .agg l.arr := rfl
  have HI := Lib.hid (fun v w' (h : Err 5 w' (rightL l) v) => Is_err 5 (rightL l) v w' h)
  unfold argV at HI
  rw [hV]
  clear hin hg hV
  go_enter Tryz.func11, Tryz.ntmps11
  go_wp2_with (first | (refine wpList_load_let rfl _ rfl w.heap.size l rfl (heap_alloc_new w _) ?_) | (go_at_call 28; refine (HC.out _ ((Ext.refl w).alloc _)).mono ?_; rintro e w5 ⟨e5, rfl, hEr, hE5⟩; have HER := Lib.hid hEr; have HE5 := Lib.hid hE5; clear hEr hE5) | (go_at_call 26; refine (HI.out _ _ HER.out).mono ?_; rintro e w6 ⟨rfl, hE6⟩))
  go_ret
  exact ⟨by simp, (((Ext.refl w).alloc _).trans HE5.out).trans hE6⟩
end Go.Proofs.YtigljihohpdpeaaGreatDoor
