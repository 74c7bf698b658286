/-
  check; Right.
  SameInts, SameLimbs in general.
  What SameX tells, in general: identities.
  What SameX tells, in general: entries.
  What SameX tells, in general: rows of entries.
  What SameX tells, in general: snaps.
-/
import Derived.Test.YtjnllilmimngoaaGreatDoorM11
import Derived.Test.YtjnllilmimngoaaGreatDoorM4
import Derived.Test.YtjnllilmimngoaaGreatDoorM6
namespace Go.Proofs.YtjnllilmimngoaaGreatDoor
open Go.RowKit Go.Extern.Stop Go.Stop Go.Extern

def rightL (l : Let) : Bool := l.ok && plainEq l.own l
set_option maxRecDepth 100000 in
set_option maxHeartbeats 2000000 in
theorem check_any (l : Let) (w : World) (hin : l.inW w) (hg : ErrT w) : Calls Tryz.prog 90 #[l.v] w (ErrPost 5 (rightL l) w) := by
  have HH := Lib.hid (fun w' (h : Ext w w') => has_any l w' (hin.ext h) (hg.ext h))
  have HP1 := Lib.hid (fun w => plainly_any l.own w)
  have HP2 := Lib.hid (fun w => plainly_any l w)
  have HEQ := Lib.hid (fun w => eqPlain l.own l w)
  have hV : l.v = .agg l.arr := rfl
  unfold plainV at HP1 HP2 HEQ
  rw [hV]
  clear hin hg hV
  go_enter Tryz.func90, Tryz.ntmps90
  go_wp2_with (first | (refine wpList_load_let rfl _ rfl w.heap.size l rfl (heap_alloc_new w _) ?_) | (go_at_call 130; refine (HH.out _ ((Ext.refl w).alloc _)).mono ?_; rintro e w5 ⟨e5, rfl, hEr, hE5⟩; have g0 := hE5.blk (heap_alloc_new w _); have HER := Lib.hid hEr; have HE5 := Lib.hid hE5; have HG0 := Lib.hid g0; clear g0 hEr hE5) | (refine wpList_store_all rfl _ _ rfl rfl w5.heap.size l.own _ rfl rfl (heap_alloc_new w5 _) rfl ?_; intro w6 hg6 hF6; have HG6 := Lib.hid hg6; have HF6 := Lib.hid hF6; clear hg6 hF6))
  have hlt := heap_lt HG0.out
  have HE6 := Lib.hid (((Fr.ofExt (isB w5.heap.size) ((Ext.refl w5).alloc _)).trans HF6.out (fun _ _ h => h)).toExt (fun i hi => by unfold isB at hi; omega))
  have HG1 := Lib.hid (HE6.out.blk HG0.out)
  refine Stab.wp_region_lex Ext (Ext _) (fun _ => True) (by kernel_rfl) (by kernel_rfl) (fun _ _ h => h) (fun _ _ h k => Ext.trans h k) (fun _ _ _ _ => trivial) ((Ext.refl _).drew) trivial ?_
  simp only [Stab.zipL, Nat.reduceAdd]
  iterate 1 (refine Stab.wpX_val rfl rfl ?_; apply Exists.intro; refine ⟨fun wx hC _ => ?_, ?_⟩; (go_simp; (try simp (disch := omega) only [↓IntWalk.iteOmega, Stab.yieldsUpon_value, IntWalk.i64_in]); exact ⟨Ext.refl _, rfl⟩); simp only [Act.put, List.setIfInBounds_toArray, List.set_cons_zero, List.set_cons_succ])
  refine Stab.wpX_val rfl rfl ⟨l.own.v, fun wx hC _ => yields_load_let _ rfl w5.heap.size l.own rfl (hC.blk HG6.out), ?_⟩
  simp only [Act.put, List.setIfInBounds_toArray, List.set_cons_zero, List.set_cons_succ]
  iterate 1 (refine Stab.wpX_call1 rfl rfl (fun _ _ _ _ => trivial) ?_; apply Exists.intro; refine ⟨fun wx hC _ _ => ?_, ?_⟩; (go_simp; refine ⟨rfl, ?_⟩; refine (HP1.out _).mono ?_; rintro ev w9 ⟨rfl, hb9⟩; (first | (subst hb9; exact ⟨Ext.refl _, rfl, trivial⟩) | (subst hb9; exact ⟨Ext.refl _, rfl⟩) | exact ⟨hb9, rfl, trivial⟩ | exact ⟨hb9, rfl⟩)); simp only [Act.put, List.setIfInBounds_toArray, List.set_cons_zero, List.set_cons_succ])
  refine Stab.wpX_val rfl rfl ⟨l.v, fun wx hC _ => yields_load_let _ rfl w.heap.size l rfl (hC.blk HG1.out), ?_⟩
  simp only [Act.put, List.setIfInBounds_toArray, List.set_cons_zero, List.set_cons_succ]
  iterate 1 (refine Stab.wpX_call1 rfl rfl (fun _ _ _ _ => trivial) ?_; apply Exists.intro; refine ⟨fun wx hC _ _ => ?_, ?_⟩; (go_simp; refine ⟨rfl, ?_⟩; refine (HP2.out _).mono ?_; rintro ev w9 ⟨rfl, hb9⟩; (first | (subst hb9; exact ⟨Ext.refl _, rfl, trivial⟩) | (subst hb9; exact ⟨Ext.refl _, rfl⟩) | exact ⟨hb9, rfl, trivial⟩ | exact ⟨hb9, rfl⟩)); simp only [Act.put, List.setIfInBounds_toArray, List.set_cons_zero, List.set_cons_succ])
  iterate 1 (refine Stab.wpX_val rfl rfl ?_; apply Exists.intro; refine ⟨fun wx hC _ => ?_, ?_⟩; (have hq := HEQ.out; go_simp; (try simp (disch := omega) only [↓IntWalk.iteOmega, Stab.yieldsUpon_value, IntWalk.i64_in]); exact ⟨Ext.refl _, rfl⟩); simp only [Act.put, List.setIfInBounds_toArray, List.set_cons_zero, List.set_cons_succ])
  iterate 1 (refine Stab.wpX_call1 rfl rfl (fun _ _ _ _ => trivial) ?_; apply Exists.intro; refine ⟨fun wx hC _ _ => ?_, ?_⟩; (go_simp; refine ⟨rfl, ?_⟩; refine (holds_part _ _ _).mono ?_; rintro ev w9 ⟨rfl, hb9⟩; (first | (subst hb9; exact ⟨Ext.refl _, rfl, trivial⟩) | (subst hb9; exact ⟨Ext.refl _, rfl⟩) | exact ⟨hb9, rfl, trivial⟩ | exact ⟨hb9, rfl⟩)); simp only [Act.put, List.setIfInBounds_toArray, List.set_cons_zero, List.set_cons_succ])
  refine Stab.wpX_new (fun u W => ∃ b, u = .slice (some ⟨b, 0, none⟩) 2 2 ∧ W.heap[b]? = some (.cells #[e5, holdsV ⟨#[109, 111, 114, 101]⟩ (plainEq l.own l)] 101)) rfl rfl (by kernel_rfl) (fun u W W' ⟨b, h1, h2⟩ hle => ⟨b, h1, hle.blk h2⟩) (fun _ _ _ _ => trivial) ?_ ?_
  · intro wx hC _
    refine yields_build 2 _ rfl _ ?_ _ (build2 (e5) (holdsV ⟨#[109, 111, 114, 101]⟩ (plainEq l.own l)) wx HER.out.cells (holdsV_cells _ _))
    simp [Act.eval]
  rintro ul ⟨_, _, ⟨lb, rfl, _⟩, _⟩
  simp only [Act.put, List.setIfInBounds_toArray, List.set_cons_zero, List.set_cons_succ]
  refine Stab.wpX_call (fun u W => Err (4 + 1) W (rightL l) u) (fun _ _ => True) rfl rfl (fun _ _ _ h he => h.ext he) (fun _ _ _ _ _ => trivial) ?_ ?_
  · intro wx hC _ hF
    obtain ⟨lb', hl1, hl2⟩ := (hF 7 (by kernel_rfl)).2 rfl
    obtain rfl : lb = lb' := by simpa using hl1
    go_simp
    refine ⟨rfl, ?_⟩
    refine (join_errs 4 (some ⟨lb, 0, none⟩) 2 [e5, holdsV ⟨#[109, 111, 114, 101]⟩ (plainEq l.own l)] [l.ok, plainEq l.own l] (rightL l) wx (rd_heap hl2) (by simp) (by simp [rightL]) ⟨(HER.out.ext HE6.out).ext hC, (Err.holds _ _ _).le (by omega), trivial⟩).mono ?_
    rintro ev w9 ⟨v, rfl, hEr, hE9⟩
    exact ⟨hE9, hEr⟩
  rintro uj ⟨_, _, _, _⟩
  simp only [Act.put, List.setIfInBounds_toArray, List.set_cons_zero, List.set_cons_succ]
  iterate 1 (refine Stab.wpX_val rfl rfl ?_; apply Exists.intro; refine ⟨fun wx hC _ => ?_, ?_⟩; (go_simp; (try simp (disch := omega) only [↓IntWalk.iteOmega, Stab.yieldsUpon_value, IntWalk.i64_in]); exact ⟨Ext.refl _, rfl⟩); simp only [Act.put, List.setIfInBounds_toArray, List.set_cons_zero, List.set_cons_succ])
  refine Stab.wpX_end fun w8 hC8 _ hF8 => ?_
  have hEr := (hF8 8).2 rfl
  go_wp2_with fail
  go_ret
  exact ⟨_, rfl, hEr, (((Ext.refl w).alloc _).trans HE5.out).trans (HE6.out.trans hC8)⟩

theorem Er.comparableN2 (w : World) : ((Extern.ReflectliteType.method fun t => do Rtype.noPackHeld "Comparable" t; (fun a => Value.bool a.comparable) <$> typeInfo t) #[.agg #[.pointer (some ⟨1, 147, none⟩)]]).run Tryz.prog w = .ok (.bool true) w := by kernel_rfl
theorem Is_nilP (w : World) : Calls Tryz.prog 50 #[.nilIface, argV] w fun e w' => e = .returned (.bool false) ∧ w = w' := by
  have hn := fun w => run_eql_iface_nil_left (P := Tryz.prog) w 147 (.int .i64 2) Tryz.underlying101
  unfold argV
  go_enter Tryz.func50, Tryz.ntmps50
  go_wp2
  go_ret
  exact ⟨rfl, rfl⟩
set_option maxRecDepth 100000 in
theorem Is_bad (d : Nat) (v : Value) (w : World) (h : Bad d w v) : Calls Tryz.prog 50 #[v, argV] w fun e w' => e = .returned (.bool true) ∧ Ext w w' := by
  have hB := Lib.hid (is_bad d v w h)
  obtain ⟨T, x, rfl⟩ := Err.no (d := d) (w := w) (v := v) h
  clear h
  have h1 := Er.xTypeOf
  have h2 := Er.xComparable
  have h3 := Er.typeOfN
  have h4 := Er.comparableN2
  have h5 := Er.methodComparableR
  unfold argV at hB ⊢
  go_enter Tryz.func50, Tryz.ntmps50
  go_wp2_with (go_at_call 94; refine (hB.out).mono ?_; rintro e w1 ⟨rfl, hE1⟩)
  go_ret
  exact ⟨rfl, hE1⟩
theorem Is_err (d : Nat) (ok : Bool) (v : Value) (w : World) (h : Err d w ok v) : Calls Tryz.prog 50 #[v, argV] w fun e w' => e = .returned (.bool (!ok)) ∧ Ext w w' := by
  cases ok
  · exact Is_bad d v w h
  · obtain rfl : v = .nilIface := h
    exact (Is_nilP w).mono fun e w' ⟨h1, h2⟩ => ⟨h1, by subst h2; exact Ext.refl _⟩

set_option maxRecDepth 100000 in
theorem Right_any (l : Let) (w : World) (hin : l.inW w) (hg : ErrT w) : Calls Tryz.prog 44 #[l.v] w fun e w' => e = .returned (.bool (rightL l)) ∧ Ext w w' := by
  have HC := Lib.hid (fun w' (h : Ext w w') => check_any l w' (hin.ext h) (hg.ext h))
  have hV : l.v = .agg l.arr := rfl
  have HI := Lib.hid (fun v w' (h : Err 5 w' (rightL l) v) => Is_err 5 (rightL l) v w' h)
  unfold argV at HI
  rw [hV]
  clear hin hg hV
  go_enter Tryz.func44, Tryz.ntmps44
  go_wp2_with (first | (refine wpList_load_let rfl _ rfl w.heap.size l rfl (heap_alloc_new w _) ?_) | (go_at_call 90; refine (HC.out _ ((Ext.refl w).alloc _)).mono ?_; rintro e w5 ⟨e5, rfl, hEr, hE5⟩; have HER := Lib.hid hEr; have HE5 := Lib.hid hE5; clear hEr hE5) | (go_at_call 50; refine (HI.out _ _ HER.out).mono ?_; rintro e w6 ⟨rfl, hE6⟩))
  go_ret
  exact ⟨by simp, (((Ext.refl w).alloc _).trans HE5.out).trans hE6⟩
end Go.Proofs.YtjnllilmimngoaaGreatDoor
namespace Go.Proofs.YtjnllilmimngoaaGreatDoor
open Go.RowKit

set_option maxHeartbeats 600000 in
theorem sameInts_any (A D : Option Addr) (c d : Nat) (xs ys : List Int) (w : World) (hA : Rd w A (xs.map (.int .i64))) (hD : Rd w D (ys.map (.int .i64))) (hx : xs.length ≤ maxLen) (_hy : ys.length ≤ maxLen) :
    Calls Tryz.prog 37 #[.slice A xs.length c, .slice D ys.length d] w fun e w' => e = .returned (.bool (decide (xs = ys))) ∧ Ext w w' := by
  unfold maxLen at hx _hy
  by_cases hl : xs.length = ys.length
  · have hne : ((xs.length : Int) != (ys.length : Int)) = false := by simp [hl]
    have HL := Lib.hid hl
    clear hl
    go_enter Tryz.func37, Tryz.ntmps37
    go_wp2
    go_loopw [5] (fun i wr => SameRel xs.length xs ys w i wr) (fun i _ => xs.length - (intOf i).toNat)
    case atStart => exact ⟨0, Nat.zero_le _, rfl, rfl, Ext.refl _⟩
    case round =>
      obtain ⟨k, hk, rfl, ht, hE⟩ := hrel
      have HT := Lib.hid ht
      clear ht
      by_cases hlt : k < xs.length
      · have hlt2 : k < ys.length := by have := HL.out; omega
        obtain ⟨ad, x, rfl, h1, hx1⟩ := (hA.ext hE).int hlt
        obtain ⟨ad2, y, rfl, h2, hy1⟩ := (hD.ext hE).int hlt2
        have HX := Lib.hid hx1
        have HY := Lib.hid hy1
        clear hx1 hy1
        by_cases heq : x = y
        · subst heq
          go_wp2
          go_quiet (fail)
          go_wp2
          exact ⟨⟨k + 1, by omega, by go_num, by rw [take_snoc' HX.out, take_snoc' HY.out, HT.out], hE.drewN _⟩, by simp [intOf]; omega⟩
        · have hb : (x != y) = true := by simpa using heq
          have HQ := Lib.hid heq
          clear heq
          go_wp2
          go_quiet (fail)
          go_wp2
          go_ret
          refine ⟨?_, hE.drewN _⟩
          have hn : ¬ xs = ys := fun h => HQ.out (by have h1 := HX.out; rw [h, HY.out] at h1; injection h1 with h1; exact h1.symm)
          simp [hn]
      · go_wp2
        go_ret
        refine ⟨?_, hE⟩
        have h1 := HT.out
        rw [List.take_of_length_le (by omega), List.take_of_length_le (by have := HL.out; omega)] at h1
        simp [h1]
  · have hne : ((xs.length : Int) != (ys.length : Int)) = true := by simp; omega
    have hn : ¬ xs = ys := fun h => hl (by rw [h])
    have HN := Lib.hid hn
    clear hn hl
    go_enter Tryz.func37, Tryz.ntmps37
    go_wp2
    go_ret
    exact ⟨by simp [HN.out], Ext.refl _⟩

set_option maxHeartbeats 600000 in
theorem sameLimbs_any (A D : Option Addr) (c d : Nat) (xs ys : List Int) (w : World) (hA : Rd w A (xs.map (.int .u32))) (hD : Rd w D (ys.map (.int .u32))) (hx : xs.length ≤ maxLen) (_hy : ys.length ≤ maxLen) :
    Calls Tryz.prog 97 #[.slice A xs.length c, .slice D ys.length d] w fun e w' => e = .returned (.bool (decide (xs = ys))) ∧ Ext w w' := by
  unfold maxLen at hx _hy
  by_cases hl : xs.length = ys.length
  · have hne : ((xs.length : Int) != (ys.length : Int)) = false := by simp [hl]
    have HL := Lib.hid hl
    clear hl
    go_enter Tryz.func97, Tryz.ntmps97
    go_wp2
    go_loopw [5] (fun i wr => SameRel xs.length xs ys w i wr) (fun i _ => xs.length - (intOf i).toNat)
    case atStart => exact ⟨0, Nat.zero_le _, rfl, rfl, Ext.refl _⟩
    case round =>
      obtain ⟨k, hk, rfl, ht, hE⟩ := hrel
      have HT := Lib.hid ht
      clear ht
      by_cases hlt : k < xs.length
      · have hlt2 : k < ys.length := by have := HL.out; omega
        obtain ⟨ad, x, rfl, h1, hx1⟩ := (hA.ext hE).int hlt
        obtain ⟨ad2, y, rfl, h2, hy1⟩ := (hD.ext hE).int hlt2
        have HX := Lib.hid hx1
        have HY := Lib.hid hy1
        clear hx1 hy1
        by_cases heq : x = y
        · subst heq
          go_wp2
          go_quiet (fail)
          go_wp2
          exact ⟨⟨k + 1, by omega, by go_num, by rw [take_snoc' HX.out, take_snoc' HY.out, HT.out], hE.drewN _⟩, by simp [intOf]; omega⟩
        · have hb : (x != y) = true := by simpa using heq
          have HQ := Lib.hid heq
          clear heq
          go_wp2
          go_quiet (fail)
          go_wp2
          go_ret
          refine ⟨?_, hE.drewN _⟩
          have hn : ¬ xs = ys := fun h => HQ.out (by have h1 := HX.out; rw [h, HY.out] at h1; injection h1 with h1; exact h1.symm)
          simp [hn]
      · go_wp2
        go_ret
        refine ⟨?_, hE⟩
        have h1 := HT.out
        rw [List.take_of_length_le (by omega), List.take_of_length_le (by have := HL.out; omega)] at h1
        simp [h1]
  · have hne : ((xs.length : Int) != (ys.length : Int)) = true := by simp; omega
    have hn : ¬ xs = ys := fun h => hl (by rw [h])
    have HN := Lib.hid hn
    clear hn hl
    go_enter Tryz.func97, Tryz.ntmps97
    go_wp2
    go_ret
    exact ⟨by simp [HN.out], Ext.refl _⟩

end Go.Proofs.YtjnllilmimngoaaGreatDoor
namespace Go.Proofs.YtjnllilmimngoaaGreatDoor
open Go.RowKit

instance : DecidableEq Id := fun a b => decidable_of_iff (a.i = b.i ∧ a.t = b.t ∧ a.k = b.k) (by cases a; cases b; simp)
def SameIdRel (n : Nat) (xs ys : List Id) (w : World) (i : Value) (wr : World) : Prop := ∃ k : Nat, k ≤ n ∧ i = .int .i64 k ∧ xs.take k = ys.take k ∧ Ext w wr
set_option maxRecDepth 100000 in
set_option maxHeartbeats 1000000 in
theorem sameIds_any (A D : Option Addr) (c d : Nat) (xs ys : List Id) (w : World) (hA : IdsIn w A xs) (hD : IdsIn w D ys) (hx : xs.length ≤ maxLen) (_hy : ys.length ≤ maxLen) :
    Calls Tryz.prog 54 #[.slice A xs.length c, .slice D ys.length d] w fun e w' => e = .returned (.bool (decide (xs = ys))) ∧ Ext w w' := by
  unfold maxLen at hx _hy
  by_cases hl : xs.length = ys.length
  · have hne : ((xs.length : Int) != (ys.length : Int)) = false := by simp [hl]
    have HL := Lib.hid hl
    clear hl
    go_enter Tryz.func54, Tryz.ntmps54
    go_wp2
    go_loopw [5] (fun i wr => SameIdRel xs.length xs ys w i wr) (fun i _ => xs.length - (intOf i).toNat)
    case atStart => exact ⟨0, Nat.zero_le _, rfl, rfl, Ext.refl _⟩
    case round =>
      obtain ⟨k, hk, rfl, ht, hE⟩ := hrel
      have HT := Lib.hid ht
      clear ht
      by_cases hlt : k < xs.length
      · have hlt2 : k < ys.length := by have := HL.out; omega
        obtain ⟨b, f, p, rfl, hp, c0, c1, c2⟩ := (hA.ext hE).at_ hlt
        obtain ⟨b2, f2, q, rfl, hq, d0, d1, d2⟩ := (hD.ext hE).at_ hlt2
        have HX := Lib.hid hp
        have HY := Lib.hid hq
        clear hp hq
        obtain ⟨i, t, m⟩ := p
        obtain ⟨i2, t2, m2⟩ := q
        by_cases heq : i = i2 ∧ t = t2 ∧ m = m2
        · obtain ⟨rfl, rfl, rfl⟩ := heq
          go_wp2
          go_quiet (fail)
          go_wp2
          exact ⟨⟨k + 1, by omega, by go_num, by rw [take_snoc' HX.out, take_snoc' HY.out, HT.out], hE.drewN _⟩, by simp [intOf]; omega⟩
        · have hn : ¬ xs = ys := fun h => heq (by have h1 := HX.out; rw [h, HY.out] at h1; injection h1 with h1; injection h1 with h1 h2 h3; exact ⟨h1.symm, h2.symm, h3.symm⟩)
          have HN := Lib.hid hn
          by_cases h1 : i = i2
          · subst h1
            by_cases h2 : t = t2
            · subst h2
              have h3 : ¬ m = m2 := fun h => heq ⟨rfl, rfl, h⟩
              clear heq hn
              go_wp2
              go_quiet (fail)
              go_wp2
              go_ret
              exact ⟨by simp [HN.out], hE.drewN _⟩
            · clear heq hn
              go_wp2
              go_quiet (fail)
              go_wp2
              go_ret
              exact ⟨by simp [HN.out], hE.drewN _⟩
          · clear heq hn
            go_wp2
            go_quiet (fail)
            go_wp2
            go_ret
            exact ⟨by simp [HN.out], hE.drewN _⟩
      · go_wp2
        go_ret
        refine ⟨?_, hE⟩
        have h1 := HT.out
        rw [List.take_of_length_le (by omega), List.take_of_length_le (by have := HL.out; omega)] at h1
        simp [h1]
  · have hne : ((xs.length : Int) != (ys.length : Int)) = true := by simp; omega
    have hn : ¬ xs = ys := fun h => hl (by rw [h])
    have HN := Lib.hid hn
    clear hn hl
    go_enter Tryz.func54, Tryz.ntmps54
    go_wp2
    go_ret
    exact ⟨by simp [HN.out], Ext.refl _⟩
end Go.Proofs.YtjnllilmimngoaaGreatDoor
namespace Go.Proofs.YtjnllilmimngoaaGreatDoor
open Go.RowKit

def Ent.cont (e : Ent) : Int × Int × Int × List Int := (e.i, e.t, e.k, e.bs)
theorem Ent.cont_eq (x y : Ent) : decide (x.cont = y.cont) = (decide (x.i = y.i) && decide (x.t = y.t) && decide (x.k = y.k) && decide (x.bs = y.bs)) := by
  unfold Ent.cont
  rw [Bool.eq_iff_iff]
  simp [and_assoc]
set_option maxRecDepth 100000 in
set_option maxHeartbeats 2000000 in
theorem sameEnt_any (x y : Ent) (w : World) (hx : Rd w x.bA (x.bs.map (.int .u8))) (hy : Rd w y.bA (y.bs.map (.int .u8))) (hz : x.bs.length ≤ maxLen) (hz2 : y.bs.length ≤ maxLen) :
    Calls Tryz.prog 96 #[x.v, y.v] w fun e w' => e = .returned (.bool (decide (x.cont = y.cont))) ∧ Ext w w' := by
  have HS := Lib.hid (fun w' (h : Ext w w') => sameBytes_any x.bA y.bA x.bc y.bc x.bs y.bs w' (hx.ext h) (hy.ext h) hz hz2)
  rw [Ent.cont_eq]
  unfold Ent.v
  clear hx hy hz hz2
  by_cases b1 : x.i = y.i
  case neg =>
    simp only [b1, decide_false, Bool.false_and]
    go_enter Tryz.func96, Tryz.ntmps96
    go_wp2_with fail
    go_ret
    exact ⟨rfl, ((Ext.refl _).alloc _).alloc _⟩
  by_cases b2 : x.t = y.t
  case neg =>
    simp only [b1, b2, decide_false, decide_true, Bool.false_and, Bool.true_and]
    go_enter Tryz.func96, Tryz.ntmps96
    go_wp2_with fail
    go_ret
    exact ⟨rfl, ((Ext.refl _).alloc _).alloc _⟩
  by_cases b3 : x.k = y.k
  case neg =>
    simp only [b1, b2, b3, decide_false, decide_true, Bool.false_and, Bool.true_and]
    go_enter Tryz.func96, Tryz.ntmps96
    go_wp2_with fail
    go_ret
    exact ⟨rfl, ((Ext.refl _).alloc _).alloc _⟩
  simp only [b1, b2, b3, decide_true, Bool.true_and]
  go_enter Tryz.func96, Tryz.ntmps96
  go_wp2_with fail
  refine (HS.out _ (((Ext.refl _).alloc _).alloc _)).mono ?_
  rintro ev w1 ⟨rfl, hE1⟩
  go_wp2_with fail
  go_ret
  exact ⟨rfl, (((Ext.refl _).alloc _).alloc _).trans hE1⟩
end Go.Proofs.YtjnllilmimngoaaGreatDoor
namespace Go.Proofs.YtjnllilmimngoaaGreatDoor
open Go.RowKit

def SameEntRel (n : Nat) (xs ys : List Ent) (w : World) (i : Value) (wr : World) : Prop := ∃ k : Nat, k ≤ n ∧ i = .int .i64 k ∧ (xs.map Ent.cont).take k = (ys.map Ent.cont).take k ∧ Ext w wr
set_option maxRecDepth 100000 in
set_option maxHeartbeats 2000000 in
theorem sameEnts_any (A D : Option Addr) (c d : Nat) (xs ys : List Ent) (w : World) (hA : EntsIn w A xs) (hD : EntsIn w D ys) (hx : xs.length ≤ maxLen) (_hy : ys.length ≤ maxLen) :
    Calls Tryz.prog 55 #[.slice A xs.length c, .slice D ys.length d] w fun e w' => e = .returned (.bool (decide (xs.map Ent.cont = ys.map Ent.cont))) ∧ Ext w w' := by
  unfold maxLen at hx _hy
  by_cases hl : xs.length = ys.length
  · have hne : ((xs.length : Int) != (ys.length : Int)) = false := by simp [hl]
    have HL := Lib.hid hl
    clear hl
    go_enter Tryz.func55, Tryz.ntmps55
    go_wp2
    go_loopw [5] (fun i wr => SameEntRel xs.length xs ys w i wr) (fun i _ => xs.length - (intOf i).toNat)
    case atStart => exact ⟨0, Nat.zero_le _, rfl, rfl, Ext.refl _⟩
    case round =>
      obtain ⟨k, hk, rfl, ht, hE⟩ := hrel
      have HT := Lib.hid ht
      clear ht
      by_cases hlt : k < xs.length
      · have hlt2 : k < ys.length := by have := HL.out; omega
        obtain ⟨b, f, x, rfl, hp, c0, c1, c2, c3, hix⟩ := (hA.ext hE).at_ hlt
        obtain ⟨b2, f2, y, rfl, hp2, d0, d1, d2, d3, hiy⟩ := (hD.ext hE).at_ hlt2
        have HX : Hid ((xs.map Ent.cont)[k]? = some x.cont) := Lib.hid (by rw [List.getElem?_map, hp]; rfl)
        have HY : Hid ((ys.map Ent.cont)[k]? = some y.cont) := Lib.hid (by rw [List.getElem?_map, hp2]; rfl)
        have HS := Lib.hid (fun w' (h : Ext wr w') => sameEnt_any x y w' (hix.1.ext h) (hiy.1.ext h) hix.2.2 hiy.2.2)
        unfold Ent.v at HS
        have C0 := Lib.hid c0
        have C1 := Lib.hid c1
        have C2 := Lib.hid c2
        have C3 := Lib.hid c3
        have D0 := Lib.hid d0
        have D1 := Lib.hid d1
        have D2 := Lib.hid d2
        have D3 := Lib.hid d3
        have HE := Lib.hid hE
        clear c0 c1 c2 c3 d0 d1 d2 d3 hp hp2 hix hiy hE
        by_cases heq : x.cont = y.cont
        · rw [show decide (x.cont = y.cont) = true from decide_eq_true heq] at HS
          have HQ := Lib.hid heq
          clear heq
          go_wp2_with fail
          refine Stab.wp_region_lex Ext (Ext _) (fun _ => True) (by kernel_rfl) (by kernel_rfl) (fun _ _ h => h) (fun _ _ h k => Ext.trans h k) (fun _ _ _ _ => trivial) ((Ext.refl _).drew) trivial ?_
          simp only [Stab.zipL, Nat.reduceAdd]
          repeat (first
            | (refine Stab.wpX_skip rfl ?_; simp only [Act.put, List.setIfInBounds_toArray, List.set_cons_zero, List.set_cons_succ])
            | (refine Stab.wpX_val rfl rfl ?_; apply Exists.intro; refine ⟨fun wx hC _ => ?_, ?_⟩; (have q0 := hC.cell C0.out; have q1 := hC.cell C1.out; have q2 := hC.cell C2.out; have q3 := hC.cell C3.out; have q4 := hC.cell D0.out; have q5 := hC.cell D1.out; have q6 := hC.cell D2.out; have q7 := hC.cell D3.out; go_simp; exact ⟨Ext.refl _, rfl⟩); simp only [Act.put, List.setIfInBounds_toArray, List.set_cons_zero, List.set_cons_succ])
            | (refine Stab.wpX_call1 rfl rfl (fun _ _ _ _ => trivial) ?_; apply Exists.intro; refine ⟨fun wx hC _ _ => ?_, ?_⟩; (go_simp; refine ⟨rfl, ?_⟩; refine (HS.out _ hC).mono ?_; rintro ev w9 ⟨rfl, hb9⟩; (first | (subst hb9; exact ⟨Ext.refl _, rfl, trivial⟩) | (subst hb9; exact ⟨Ext.refl _, rfl⟩) | exact ⟨hb9, rfl, trivial⟩ | exact ⟨hb9, rfl⟩)); simp only [Act.put, List.setIfInBounds_toArray, List.set_cons_zero, List.set_cons_succ]))
          refine Stab.wpX_end fun w8 hC8 _ _ => ?_
          have HE8 := Lib.hid (HE.out.trans hC8)
          clear hC8
          go_wp2_with fail
          go_roundw
          case rel => exact ⟨k + 1, by omega, by go_num, by rw [take_snoc' HX.out, take_snoc' HY.out, HT.out, HQ.out], HE8.out⟩
          case measure => simp [intOf]; omega
        · rw [show decide (x.cont = y.cont) = false from decide_eq_false heq] at HS
          have HN : Hid (¬ xs.map Ent.cont = ys.map Ent.cont) := Lib.hid (fun h => heq (by have h1 := HX.out; rw [h, HY.out] at h1; injection h1 with h1; exact h1.symm))
          clear heq
          go_wp2_with fail
          refine Stab.wp_region_lex Ext (Ext _) (fun _ => True) (by kernel_rfl) (by kernel_rfl) (fun _ _ h => h) (fun _ _ h k => Ext.trans h k) (fun _ _ _ _ => trivial) ((Ext.refl _).drew) trivial ?_
          simp only [Stab.zipL, Nat.reduceAdd]
          repeat (first
            | (refine Stab.wpX_skip rfl ?_; simp only [Act.put, List.setIfInBounds_toArray, List.set_cons_zero, List.set_cons_succ])
            | (refine Stab.wpX_val rfl rfl ?_; apply Exists.intro; refine ⟨fun wx hC _ => ?_, ?_⟩; (have q0 := hC.cell C0.out; have q1 := hC.cell C1.out; have q2 := hC.cell C2.out; have q3 := hC.cell C3.out; have q4 := hC.cell D0.out; have q5 := hC.cell D1.out; have q6 := hC.cell D2.out; have q7 := hC.cell D3.out; go_simp; exact ⟨Ext.refl _, rfl⟩); simp only [Act.put, List.setIfInBounds_toArray, List.set_cons_zero, List.set_cons_succ])
            | (refine Stab.wpX_call1 rfl rfl (fun _ _ _ _ => trivial) ?_; apply Exists.intro; refine ⟨fun wx hC _ _ => ?_, ?_⟩; (go_simp; refine ⟨rfl, ?_⟩; refine (HS.out _ hC).mono ?_; rintro ev w9 ⟨rfl, hb9⟩; (first | (subst hb9; exact ⟨Ext.refl _, rfl, trivial⟩) | (subst hb9; exact ⟨Ext.refl _, rfl⟩) | exact ⟨hb9, rfl, trivial⟩ | exact ⟨hb9, rfl⟩)); simp only [Act.put, List.setIfInBounds_toArray, List.set_cons_zero, List.set_cons_succ]))
          refine Stab.wpX_end fun w8 hC8 _ _ => ?_
          have HE8 := Lib.hid (HE.out.trans hC8)
          clear hC8
          go_wp2_with fail
          go_ret
          exact ⟨by rw [decide_eq_false HN.out]; rfl, HE8.out⟩
      · go_wp2
        go_ret
        refine ⟨?_, hE⟩
        have h1 := HT.out
        rw [List.take_of_length_le (by rw [List.length_map]; omega), List.take_of_length_le (by rw [List.length_map]; have := HL.out; omega)] at h1
        rw [decide_eq_true h1]; rfl
  · have hne : ((xs.length : Int) != (ys.length : Int)) = true := by simp; omega
    have hn : ¬ xs.map Ent.cont = ys.map Ent.cont := fun h => hl (by simpa using congrArg List.length h)
    have HN := Lib.hid hn
    clear hn hl
    go_enter Tryz.func55, Tryz.ntmps55
    go_wp2
    go_ret
    exact ⟨by rw [decide_eq_false HN.out]; rfl, Ext.refl _⟩
end Go.Proofs.YtjnllilmimngoaaGreatDoor
namespace Go.Proofs.YtjnllilmimngoaaGreatDoor
open Go.RowKit

def Let.snc (l : Let) : Id × List Int × Int × List Int := (l.slast, l.mems, l.size, l.sums)
theorem Let.snc_eq (l m : Let) : decide (l.snc = m.snc) = ((l.slast.i == m.slast.i && (l.slast.t == m.slast.t && l.slast.k == m.slast.k)) && (decide (l.mems = m.mems) && ((l.size == m.size) && decide (l.sums = m.sums)))) := by
  unfold Let.snc
  rw [Bool.eq_iff_iff]
  simp only [decide_eq_true_eq, Prod.mk.injEq, Bool.and_eq_true, beq_iff_eq]
  constructor
  · rintro ⟨h1, h2, h3, h4⟩
    rw [h1]
    exact ⟨⟨rfl, rfl, rfl⟩, h2, h3, h4⟩
  · rintro ⟨⟨h1, h2, h3⟩, h4, h5, h6⟩
    refine ⟨?_, h4, h5, h6⟩
    cases hl : l.slast
    cases hm : m.slast
    rw [hl, hm] at h1 h2 h3
    simp at h1 h2 h3
    rw [h1, h2, h3]
def snA (l : Let) : Array Value := #[.int .i64 l.slast.i, .int .i64 l.slast.t, .int .i64 l.slast.k, .slice l.mA l.mems.length l.mc, .int .i64 l.size, .slice l.uA l.sums.length l.uc]
set_option maxRecDepth 100000 in
set_option maxHeartbeats 2000000 in
theorem sameSnap_any (l m : Let) (w : World) (h1 : Rd w l.mA (l.mems.map (.int .i64))) (h2 : Rd w m.mA (m.mems.map (.int .i64))) (h3 : Rd w l.uA (l.sums.map (.int .u32))) (h4 : Rd w m.uA (m.sums.map (.int .u32))) (hm : l.mems.length ≤ maxLen) (hu : l.sums.length ≤ maxLen) (hm2 : m.mems.length ≤ maxLen) (hu2 : m.sums.length ≤ maxLen) :
    Calls Tryz.prog 56 #[.agg (snA l), .agg (snA m)] w fun e w' => e = .returned (.bool (decide (l.snc = m.snc))) ∧ Ext w w' := by
  have HM := Lib.hid (fun w' (h : Ext w w') => sameInts_any l.mA m.mA l.mc m.mc l.mems m.mems w' (h1.ext h) (h2.ext h) hm hm2)
  have HU := Lib.hid (fun w' (h : Ext w w') => sameLimbs_any l.uA m.uA l.uc m.uc l.sums m.sums w' (h3.ext h) (h4.ext h) hu hu2)
  have HB0 := Lib.hid (heap0 w (.cells (snA l) 32) (.cells (snA m) 32))
  have HB1 := Lib.hid (heap1 w (.cells (snA l) 32) (.cells (snA m) 32))
  have HE0 := Lib.hid (((Ext.refl w).alloc (.cells (snA l) 32)).alloc (.cells (snA m) 32))
  have heq := eqId l.slast.i l.slast.t l.slast.k m.slast.i m.slast.t m.slast.k
  rw [Let.snc_eq]
  clear h1 h2 h3 h4 hm hu hm2 hu2
  unfold snA at HB0 HB1 HE0 ⊢
  generalize (l.slast.i == m.slast.i && (l.slast.t == m.slast.t && l.slast.k == m.slast.k)) = q at heq ⊢
  cases q
  · simp only [Bool.false_and]
    go_enter Tryz.func56, Tryz.ntmps56
    go_wp2_with fail
    go_ret
    exact ⟨rfl, HE0.out⟩
  simp only [Bool.true_and]
  generalize decide (l.mems = m.mems) = q2 at HM ⊢
  cases q2
  · simp only [Bool.false_and]
    go_enter Tryz.func56, Tryz.ntmps56
    go_wp2_with fail
    refine (HM.out _ HE0.out).mono ?_
    rintro ev w1 ⟨rfl, hE1⟩
    go_wp2_with fail
    go_ret
    exact ⟨rfl, HE0.out.trans hE1⟩
  simp only [Bool.true_and]
  cases hz : (l.size == m.size)
  · simp only [Bool.false_and]
    go_enter Tryz.func56, Tryz.ntmps56
    go_wp2_with fail
    refine (HM.out _ HE0.out).mono ?_
    rintro ev w1 ⟨rfl, hE1⟩
    have g0 := hE1.blk HB0.out
    have g1 := hE1.blk HB1.out
    have a0 := cell_of_heap g0 4
    have a1 := cell_of_heap g0 5
    have b0 := cell_of_heap g1 4
    have b1 := cell_of_heap g1 5
    simp at a0 a1 b0 b1
    have HE1 := Lib.hid (HE0.out.trans hE1)
    clear g0 g1 hE1
    go_wp2_with fail
    go_ret
    exact ⟨rfl, HE1.out⟩
  · simp only [Bool.true_and]
    go_enter Tryz.func56, Tryz.ntmps56
    go_wp2_with fail
    refine (HM.out _ HE0.out).mono ?_
    rintro ev w1 ⟨rfl, hE1⟩
    have g0 := hE1.blk HB0.out
    have g1 := hE1.blk HB1.out
    have a0 := cell_of_heap g0 4
    have a1 := cell_of_heap g0 5
    have b0 := cell_of_heap g1 4
    have b1 := cell_of_heap g1 5
    simp at a0 a1 b0 b1
    have HE1 := Lib.hid (HE0.out.trans hE1)
    clear g0 g1 hE1
    go_wp2_with fail
    refine (HU.out _ HE1.out).mono ?_
    rintro ev w2 ⟨rfl, hE2⟩
    go_wp2_with fail
    go_ret
    exact ⟨rfl, HE1.out.trans hE2⟩
end Go.Proofs.YtjnllilmimngoaaGreatDoor
