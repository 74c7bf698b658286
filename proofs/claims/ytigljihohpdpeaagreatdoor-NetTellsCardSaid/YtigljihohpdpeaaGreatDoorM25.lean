/-
  SameInts, SameLimbs in general.
  What SameX tells, in general: identities.
  What SameX tells, in general: entries.
  What SameX tells, in general: rows of entries.
  What SameX tells, in general: snaps.
-/
import Derived.Test.YtigljihohpdpeaaGreatDoorM15
namespace Go.Proofs.YtigljihohpdpeaaGreatDoor
open Go.RowKit

set_option maxHeartbeats 600000 in
theorem sameInts_any (A D : Option Addr) (c d : Nat) (xs ys : List Int) (w : World) (hA : Rd w A (xs.map (.int .i64))) (hD : Rd w D (ys.map (.int .i64))) (hx : xs.length ≤ maxLen) (hy : ys.length ≤ maxLen) :
    Calls Tryz.prog 68 #[.slice A xs.length c, .slice D ys.length d] w fun e w' => e = .returned (.bool (decide (xs = ys))) ∧ Ext w w' := by
  unfold maxLen at hx hy
  by_cases hl : xs.length = ys.length
  · have hne : ((xs.length : Int) != (ys.length : Int)) = false := by simp [hl]
    have HL := Lib.hid hl
    clear hl
    go_enter Tryz.func68, Tryz.ntmps68
    go_wp2
    go_loopw [5] (fun i wr => SameRel xs.length xs ys w i wr) (fun i _ => xs.length - (intOf i).toNat)
    case atStart => exact ⟨0, Nat.zero_le _, rfl, rfl, Ext.refl _⟩
    case round =>
      obtain ⟨k, hk, rfl, ht, hE⟩ := hrel
      have HT := Lib.hid ht
      clear ht
      by_cases hlt : k < xs.length
      · have hlt2 : k < ys.length := by have := HL.out; omega
        obtain ⟨ad, x, rfl, h1, hx1⟩ := (hA.ext hE).int hlt
        obtain ⟨ad2, y, rfl, h2, hy1⟩ := (hD.ext hE).int hlt2
        have HX := Lib.hid hx1
        have HY := Lib.hid hy1
        clear hx1 hy1
        by_cases heq : x = y
        · subst heq
          go_wp2
          go_quiet (fail)
          go_wp2
          exact ⟨⟨k + 1, by omega, by go_num, by rw [take_snoc' HX.out, take_snoc' HY.out, HT.out], hE.drewN _⟩, by simp [intOf]; omega⟩
        · have hb : (x != y) = true := by simpa using heq
          have HQ := Lib.hid heq
          clear heq
          go_wp2
          go_quiet (fail)
          go_wp2
          go_ret
          refine ⟨?_, hE.drewN _⟩
          have hn : ¬ xs = ys := fun h => HQ.out (by have h1 := HX.out; rw [h, HY.out] at h1; injection h1 with h1; exact h1.symm)
          simp [hn]
      · go_wp2
        go_ret
        refine ⟨?_, hE⟩
        have h1 := HT.out
        rw [List.take_of_length_le (by omega), List.take_of_length_le (by have := HL.out; omega)] at h1
        simp [h1]
  · have hne : ((xs.length : Int) != (ys.length : Int)) = true := by simp; omega
    have hn : ¬ xs = ys := fun h => hl (by rw [h])
    have HN := Lib.hid hn
    clear hn hl
    go_enter Tryz.func68, Tryz.ntmps68
    go_wp2
    go_ret
    exact ⟨by simp [HN.out], Ext.refl _⟩

set_option maxHeartbeats 600000 in
theorem sameLimbs_any (A D : Option Addr) (c d : Nat) (xs ys : List Int) (w : World) (hA : Rd w A (xs.map (.int .u32))) (hD : Rd w D (ys.map (.int .u32))) (hx : xs.length ≤ maxLen) (hy : ys.length ≤ maxLen) :
    Calls Tryz.prog 69 #[.slice A xs.length c, .slice D ys.length d] w fun e w' => e = .returned (.bool (decide (xs = ys))) ∧ Ext w w' := by
  unfold maxLen at hx hy
  by_cases hl : xs.length = ys.length
  · have hne : ((xs.length : Int) != (ys.length : Int)) = false := by simp [hl]
    have HL := Lib.hid hl
    clear hl
    go_enter Tryz.func69, Tryz.ntmps69
    go_wp2
    go_loopw [5] (fun i wr => SameRel xs.length xs ys w i wr) (fun i _ => xs.length - (intOf i).toNat)
    case atStart => exact ⟨0, Nat.zero_le _, rfl, rfl, Ext.refl _⟩
    case round =>
      obtain ⟨k, hk, rfl, ht, hE⟩ := hrel
      have HT := Lib.hid ht
      clear ht
      by_cases hlt : k < xs.length
      · have hlt2 : k < ys.length := by have := HL.out; omega
        obtain ⟨ad, x, rfl, h1, hx1⟩ := (hA.ext hE).int hlt
        obtain ⟨ad2, y, rfl, h2, hy1⟩ := (hD.ext hE).int hlt2
        have HX := Lib.hid hx1
        have HY := Lib.hid hy1
        clear hx1 hy1
        by_cases heq : x = y
        · subst heq
          go_wp2
          go_quiet (fail)
          go_wp2
          exact ⟨⟨k + 1, by omega, by go_num, by rw [take_snoc' HX.out, take_snoc' HY.out, HT.out], hE.drewN _⟩, by simp [intOf]; omega⟩
        · have hb : (x != y) = true := by simpa using heq
          have HQ := Lib.hid heq
          clear heq
          go_wp2
          go_quiet (fail)
          go_wp2
          go_ret
          refine ⟨?_, hE.drewN _⟩
          have hn : ¬ xs = ys := fun h => HQ.out (by have h1 := HX.out; rw [h, HY.out] at h1; injection h1 with h1; exact h1.symm)
          simp [hn]
      · go_wp2
        go_ret
        refine ⟨?_, hE⟩
        have h1 := HT.out
        rw [List.take_of_length_le (by omega), List.take_of_length_le (by have := HL.out; omega)] at h1
        simp [h1]
  · have hne : ((xs.length : Int) != (ys.length : Int)) = true := by simp; omega
    have hn : ¬ xs = ys := fun h => hl (by rw [h])
    have HN := Lib.hid hn
    clear hn hl
    go_enter Tryz.func69, Tryz.ntmps69
    go_wp2
    go_ret
    exact ⟨by simp [HN.out], Ext.refl _⟩

end Go.Proofs.YtigljihohpdpeaaGreatDoor
namespace Go.Proofs.YtigljihohpdpeaaGreatDoor
open Go.RowKit

instance : DecidableEq Id := fun a b => decidable_of_iff (a.i = b.i ∧ a.t = b.t ∧ a.k = b.k) (by cases a; cases b; simp)
def SameIdRel (n : Nat) (xs ys : List Id) (w : World) (i : Value) (wr : World) : Prop := ∃ k : Nat, k ≤ n ∧ i = .int .i64 k ∧ xs.take k = ys.take k ∧ Ext w wr
set_option maxRecDepth 100000 in
set_option maxHeartbeats 1000000 in
theorem sameIds_any (A D : Option Addr) (c d : Nat) (xs ys : List Id) (w : World) (hA : IdsIn w A xs) (hD : IdsIn w D ys) (hx : xs.length ≤ maxLen) (hy : ys.length ≤ maxLen) :
    Calls Tryz.prog 48 #[.slice A xs.length c, .slice D ys.length d] w fun e w' => e = .returned (.bool (decide (xs = ys))) ∧ Ext w w' := by
  unfold maxLen at hx hy
  by_cases hl : xs.length = ys.length
  · have hne : ((xs.length : Int) != (ys.length : Int)) = false := by simp [hl]
    have HL := Lib.hid hl
    clear hl
    go_enter Tryz.func48, Tryz.ntmps48
    go_wp2
    go_loopw [5] (fun i wr => SameIdRel xs.length xs ys w i wr) (fun i _ => xs.length - (intOf i).toNat)
    case atStart => exact ⟨0, Nat.zero_le _, rfl, rfl, Ext.refl _⟩
    case round =>
      obtain ⟨k, hk, rfl, ht, hE⟩ := hrel
      have HT := Lib.hid ht
      clear ht
      by_cases hlt : k < xs.length
      · have hlt2 : k < ys.length := by have := HL.out; omega
        obtain ⟨b, f, p, rfl, hp, c0, c1, c2⟩ := (hA.ext hE).at_ hlt
        obtain ⟨b2, f2, q, rfl, hq, d0, d1, d2⟩ := (hD.ext hE).at_ hlt2
        have HX := Lib.hid hp
        have HY := Lib.hid hq
        clear hp hq
        obtain ⟨i, t, m⟩ := p
        obtain ⟨i2, t2, m2⟩ := q
        by_cases heq : i = i2 ∧ t = t2 ∧ m = m2
        · obtain ⟨rfl, rfl, rfl⟩ := heq
          go_wp2
          go_quiet (fail)
          go_wp2
          exact ⟨⟨k + 1, by omega, by go_num, by rw [take_snoc' HX.out, take_snoc' HY.out, HT.out], hE.drewN _⟩, by simp [intOf]; omega⟩
        · have hn : ¬ xs = ys := fun h => heq (by have h1 := HX.out; rw [h, HY.out] at h1; injection h1 with h1; injection h1 with h1 h2 h3; exact ⟨h1.symm, h2.symm, h3.symm⟩)
          have HN := Lib.hid hn
          by_cases h1 : i = i2
          · subst h1
            by_cases h2 : t = t2
            · subst h2
              have h3 : ¬ m = m2 := fun h => heq ⟨rfl, rfl, h⟩
              clear heq hn
              go_wp2
              go_quiet (fail)
              go_wp2
              go_ret
              exact ⟨by simp [HN.out], hE.drewN _⟩
            · clear heq hn
              go_wp2
              go_quiet (fail)
              go_wp2
              go_ret
              exact ⟨by simp [HN.out], hE.drewN _⟩
          · clear heq hn
            go_wp2
            go_quiet (fail)
            go_wp2
            go_ret
            exact ⟨by simp [HN.out], hE.drewN _⟩
      · go_wp2
        go_ret
        refine ⟨?_, hE⟩
        have h1 := HT.out
        rw [List.take_of_length_le (by omega), List.take_of_length_le (by have := HL.out; omega)] at h1
        simp [h1]
  · have hne : ((xs.length : Int) != (ys.length : Int)) = true := by simp; omega
    have hn : ¬ xs = ys := fun h => hl (by rw [h])
    have HN := Lib.hid hn
    clear hn hl
    go_enter Tryz.func48, Tryz.ntmps48
    go_wp2
    go_ret
    exact ⟨by simp [HN.out], Ext.refl _⟩
end Go.Proofs.YtigljihohpdpeaaGreatDoor
namespace Go.Proofs.YtigljihohpdpeaaGreatDoor
open Go.RowKit

def Ent.cont (e : Ent) : Int × Int × Int × List Int := (e.i, e.t, e.k, e.bs)
theorem Ent.cont_eq (x y : Ent) : decide (x.cont = y.cont) = (decide (x.i = y.i) && decide (x.t = y.t) && decide (x.k = y.k) && decide (x.bs = y.bs)) := by
  unfold Ent.cont
  rw [Bool.eq_iff_iff]
  simp [and_assoc]
set_option maxRecDepth 100000 in
set_option maxHeartbeats 2000000 in
theorem sameEnt_any (x y : Ent) (w : World) (hx : Rd w x.bA (x.bs.map (.int .u8))) (hy : Rd w y.bA (y.bs.map (.int .u8))) (hz : x.bs.length ≤ maxLen) (hz2 : y.bs.length ≤ maxLen) :
    Calls Tryz.prog 67 #[x.v, y.v] w fun e w' => e = .returned (.bool (decide (x.cont = y.cont))) ∧ Ext w w' := by
  have HS := Lib.hid (fun w' (h : Ext w w') => sameBytes_any x.bA y.bA x.bc y.bc x.bs y.bs w' (hx.ext h) (hy.ext h) hz hz2)
  rw [Ent.cont_eq]
  unfold Ent.v
  clear hx hy hz hz2
  by_cases b1 : x.i = y.i
  case neg =>
    simp only [b1, decide_false, Bool.false_and]
    go_enter Tryz.func67, Tryz.ntmps67
    go_wp2_with fail
    go_ret
    exact ⟨rfl, ((Ext.refl _).alloc _).alloc _⟩
  by_cases b2 : x.t = y.t
  case neg =>
    simp only [b1, b2, decide_false, decide_true, Bool.false_and, Bool.true_and]
    go_enter Tryz.func67, Tryz.ntmps67
    go_wp2_with fail
    go_ret
    exact ⟨rfl, ((Ext.refl _).alloc _).alloc _⟩
  by_cases b3 : x.k = y.k
  case neg =>
    simp only [b1, b2, b3, decide_false, decide_true, Bool.false_and, Bool.true_and]
    go_enter Tryz.func67, Tryz.ntmps67
    go_wp2_with fail
    go_ret
    exact ⟨rfl, ((Ext.refl _).alloc _).alloc _⟩
  simp only [b1, b2, b3, decide_true, Bool.true_and]
  go_enter Tryz.func67, Tryz.ntmps67
  go_wp2_with fail
  refine (HS.out _ (((Ext.refl _).alloc _).alloc _)).mono ?_
  rintro ev w1 ⟨rfl, hE1⟩
  go_wp2_with fail
  go_ret
  exact ⟨rfl, (((Ext.refl _).alloc _).alloc _).trans hE1⟩
end Go.Proofs.YtigljihohpdpeaaGreatDoor
namespace Go.Proofs.YtigljihohpdpeaaGreatDoor
open Go.RowKit

def SameEntRel (n : Nat) (xs ys : List Ent) (w : World) (i : Value) (wr : World) : Prop := ∃ k : Nat, k ≤ n ∧ i = .int .i64 k ∧ (xs.map Ent.cont).take k = (ys.map Ent.cont).take k ∧ Ext w wr
set_option maxRecDepth 100000 in
set_option maxHeartbeats 2000000 in
theorem sameEnts_any (A D : Option Addr) (c d : Nat) (xs ys : List Ent) (w : World) (hA : EntsIn w A xs) (hD : EntsIn w D ys) (hx : xs.length ≤ maxLen) (hy : ys.length ≤ maxLen) :
    Calls Tryz.prog 49 #[.slice A xs.length c, .slice D ys.length d] w fun e w' => e = .returned (.bool (decide (xs.map Ent.cont = ys.map Ent.cont))) ∧ Ext w w' := by
  unfold maxLen at hx hy
  by_cases hl : xs.length = ys.length
  · have hne : ((xs.length : Int) != (ys.length : Int)) = false := by simp [hl]
    have HL := Lib.hid hl
    clear hl
    go_enter Tryz.func49, Tryz.ntmps49
    go_wp2
    go_loopw [5] (fun i wr => SameEntRel xs.length xs ys w i wr) (fun i _ => xs.length - (intOf i).toNat)
    case atStart => exact ⟨0, Nat.zero_le _, rfl, rfl, Ext.refl _⟩
    case round =>
      obtain ⟨k, hk, rfl, ht, hE⟩ := hrel
      have HT := Lib.hid ht
      clear ht
      by_cases hlt : k < xs.length
      · have hlt2 : k < ys.length := by have := HL.out; omega
        obtain ⟨b, f, x, rfl, hp, c0, c1, c2, c3, hix⟩ := (hA.ext hE).at_ hlt
        obtain ⟨b2, f2, y, rfl, hp2, d0, d1, d2, d3, hiy⟩ := (hD.ext hE).at_ hlt2
        have HX : Hid ((xs.map Ent.cont)[k]? = some x.cont) := Lib.hid (by rw [List.getElem?_map, hp]; rfl)
        have HY : Hid ((ys.map Ent.cont)[k]? = some y.cont) := Lib.hid (by rw [List.getElem?_map, hp2]; rfl)
        have HS := Lib.hid (fun w' (h : Ext wr w') => sameEnt_any x y w' (hix.1.ext h) (hiy.1.ext h) hix.2.2 hiy.2.2)
        unfold Ent.v at HS
        have C0 := Lib.hid c0
        have C1 := Lib.hid c1
        have C2 := Lib.hid c2
        have C3 := Lib.hid c3
        have D0 := Lib.hid d0
        have D1 := Lib.hid d1
        have D2 := Lib.hid d2
        have D3 := Lib.hid d3
        have HE := Lib.hid hE
        clear c0 c1 c2 c3 d0 d1 d2 d3 hp hp2 hix hiy hE
        by_cases heq : x.cont = y.cont
        · rw [show decide (x.cont = y.cont) = true from decide_eq_true heq] at HS
          have HQ := Lib.hid heq
          clear heq
          go_wp2_with fail
          refine Stab.wp_region_lex Ext (Ext _) (fun _ => True) (by kernel_rfl) (by kernel_rfl) (fun _ _ h => h) (fun _ _ h k => Ext.trans h k) (fun _ _ _ _ => trivial) ((Ext.refl _).drew) trivial ?_
          simp only [Stab.zipL, Nat.reduceAdd]
          repeat (first
            | (refine Stab.wpX_skip rfl ?_; simp only [Act.put, List.setIfInBounds_toArray, List.set_cons_zero, List.set_cons_succ])
            | (refine Stab.wpX_val rfl rfl ?_; apply Exists.intro; refine ⟨fun wx hC _ => ?_, ?_⟩; (have q0 := hC.cell C0.out; have q1 := hC.cell C1.out; have q2 := hC.cell C2.out; have q3 := hC.cell C3.out; have q4 := hC.cell D0.out; have q5 := hC.cell D1.out; have q6 := hC.cell D2.out; have q7 := hC.cell D3.out; go_simp; exact ⟨Ext.refl _, rfl⟩); simp only [Act.put, List.setIfInBounds_toArray, List.set_cons_zero, List.set_cons_succ])
            | (refine Stab.wpX_call1 rfl rfl (fun _ _ _ _ => trivial) ?_; apply Exists.intro; refine ⟨fun wx hC _ _ => ?_, ?_⟩; (go_simp; refine ⟨rfl, ?_⟩; refine (HS.out _ hC).mono ?_; rintro ev w9 ⟨rfl, hb9⟩; (first | (subst hb9; exact ⟨Ext.refl _, rfl, trivial⟩) | (subst hb9; exact ⟨Ext.refl _, rfl⟩) | exact ⟨hb9, rfl, trivial⟩ | exact ⟨hb9, rfl⟩)); simp only [Act.put, List.setIfInBounds_toArray, List.set_cons_zero, List.set_cons_succ]))
          refine Stab.wpX_end fun w8 hC8 _ _ => ?_
          have HE8 := Lib.hid (HE.out.trans hC8)
          clear hC8
          go_wp2_with fail
          go_roundw
          case rel => exact ⟨k + 1, by omega, by go_num, by rw [take_snoc' HX.out, take_snoc' HY.out, HT.out, HQ.out], HE8.out⟩
          case measure => simp [intOf]; omega
        · rw [show decide (x.cont = y.cont) = false from decide_eq_false heq] at HS
          have HN : Hid (¬ xs.map Ent.cont = ys.map Ent.cont) := Lib.hid (fun h => heq (by have h1 := HX.out; rw [h, HY.out] at h1; injection h1 with h1; exact h1.symm))
          clear heq
          go_wp2_with fail
          refine Stab.wp_region_lex Ext (Ext _) (fun _ => True) (by kernel_rfl) (by kernel_rfl) (fun _ _ h => h) (fun _ _ h k => Ext.trans h k) (fun _ _ _ _ => trivial) ((Ext.refl _).drew) trivial ?_
          simp only [Stab.zipL, Nat.reduceAdd]
          repeat (first
            | (refine Stab.wpX_skip rfl ?_; simp only [Act.put, List.setIfInBounds_toArray, List.set_cons_zero, List.set_cons_succ])
            | (refine Stab.wpX_val rfl rfl ?_; apply Exists.intro; refine ⟨fun wx hC _ => ?_, ?_⟩; (have q0 := hC.cell C0.out; have q1 := hC.cell C1.out; have q2 := hC.cell C2.out; have q3 := hC.cell C3.out; have q4 := hC.cell D0.out; have q5 := hC.cell D1.out; have q6 := hC.cell D2.out; have q7 := hC.cell D3.out; go_simp; exact ⟨Ext.refl _, rfl⟩); simp only [Act.put, List.setIfInBounds_toArray, List.set_cons_zero, List.set_cons_succ])
            | (refine Stab.wpX_call1 rfl rfl (fun _ _ _ _ => trivial) ?_; apply Exists.intro; refine ⟨fun wx hC _ _ => ?_, ?_⟩; (go_simp; refine ⟨rfl, ?_⟩; refine (HS.out _ hC).mono ?_; rintro ev w9 ⟨rfl, hb9⟩; (first | (subst hb9; exact ⟨Ext.refl _, rfl, trivial⟩) | (subst hb9; exact ⟨Ext.refl _, rfl⟩) | exact ⟨hb9, rfl, trivial⟩ | exact ⟨hb9, rfl⟩)); simp only [Act.put, List.setIfInBounds_toArray, List.set_cons_zero, List.set_cons_succ]))
          refine Stab.wpX_end fun w8 hC8 _ _ => ?_
          have HE8 := Lib.hid (HE.out.trans hC8)
          clear hC8
          go_wp2_with fail
          go_ret
          exact ⟨by rw [decide_eq_false HN.out]; rfl, HE8.out⟩
      · go_wp2
        go_ret
        refine ⟨?_, hE⟩
        have h1 := HT.out
        rw [List.take_of_length_le (by rw [List.length_map]; omega), List.take_of_length_le (by rw [List.length_map]; have := HL.out; omega)] at h1
        rw [decide_eq_true h1]; rfl
  · have hne : ((xs.length : Int) != (ys.length : Int)) = true := by simp; omega
    have hn : ¬ xs.map Ent.cont = ys.map Ent.cont := fun h => hl (by simpa using congrArg List.length h)
    have HN := Lib.hid hn
    clear hn hl
    go_enter Tryz.func49, Tryz.ntmps49
    go_wp2
    go_ret
    exact ⟨by rw [decide_eq_false HN.out]; rfl, Ext.refl _⟩
end Go.Proofs.YtigljihohpdpeaaGreatDoor
namespace Go.Proofs.YtigljihohpdpeaaGreatDoor
open Go.RowKit

def Let.snc (l : Let) : Id × List Int × Int × List Int := (l.slast, l.mems, l.size, l.sums)
theorem Let.snc_eq (l m : Let) : decide (l.snc = m.snc) = ((l.slast.i == m.slast.i && (l.slast.t == m.slast.t && l.slast.k == m.slast.k)) && (decide (l.mems = m.mems) && ((l.size == m.size) && decide (l.sums = m.sums)))) := by
  unfold Let.snc
  rw [Bool.eq_iff_iff]
  simp only [decide_eq_true_eq, Prod.mk.injEq, Bool.and_eq_true, beq_iff_eq]
  constructor
  · rintro ⟨h1, h2, h3, h4⟩
    rw [h1]
    exact ⟨⟨rfl, rfl, rfl⟩, h2, h3, h4⟩
  · rintro ⟨⟨h1, h2, h3⟩, h4, h5, h6⟩
    refine ⟨?_, h4, h5, h6⟩
    cases hl : l.slast
    cases hm : m.slast
    rw [hl, hm] at h1 h2 h3
    simp at h1 h2 h3
    rw [h1, h2, h3]
def snA (l : Let) : Array Value := #[.int .i64 l.slast.i, .int .i64 l.slast.t, .int .i64 l.slast.k, .slice l.mA l.mems.length l.mc, .int .i64 l.size, .slice l.uA l.sums.length l.uc]
set_option maxRecDepth 100000 in
set_option maxHeartbeats 2000000 in
theorem sameSnap_any (l m : Let) (w : World) (h1 : Rd w l.mA (l.mems.map (.int .i64))) (h2 : Rd w m.mA (m.mems.map (.int .i64))) (h3 : Rd w l.uA (l.sums.map (.int .u32))) (h4 : Rd w m.uA (m.sums.map (.int .u32))) (hm : l.mems.length ≤ maxLen) (hu : l.sums.length ≤ maxLen) (hm2 : m.mems.length ≤ maxLen) (hu2 : m.sums.length ≤ maxLen) :
    Calls Tryz.prog 50 #[.agg (snA l), .agg (snA m)] w fun e w' => e = .returned (.bool (decide (l.snc = m.snc))) ∧ Ext w w' := by
  have HM := Lib.hid (fun w' (h : Ext w w') => sameInts_any l.mA m.mA l.mc m.mc l.mems m.mems w' (h1.ext h) (h2.ext h) hm hm2)
  have HU := Lib.hid (fun w' (h : Ext w w') => sameLimbs_any l.uA m.uA l.uc m.uc l.sums m.sums w' (h3.ext h) (h4.ext h) hu hu2)
  have HB0 := Lib.hid (heap0 w (.cells (snA l) 41) (.cells (snA m) 41))
  have HB1 := Lib.hid (heap1 w (.cells (snA l) 41) (.cells (snA m) 41))
  have HE0 := Lib.hid (((Ext.refl w).alloc (.cells (snA l) 41)).alloc (.cells (snA m) 41))
  have heq := eqId l.slast.i l.slast.t l.slast.k m.slast.i m.slast.t m.slast.k
  rw [Let.snc_eq]
  clear h1 h2 h3 h4 hm hu hm2 hu2
  unfold snA at HB0 HB1 HE0 ⊢
  generalize (l.slast.i == m.slast.i && (l.slast.t == m.slast.t && l.slast.k == m.slast.k)) = q at heq ⊢
  cases q
  · simp only [Bool.false_and]
    go_enter Tryz.func50, Tryz.ntmps50
    go_wp2_with fail
    go_ret
    exact ⟨rfl, HE0.out⟩
  simp only [Bool.true_and]
  generalize decide (l.mems = m.mems) = q2 at HM ⊢
  cases q2
  · simp only [Bool.false_and]
    go_enter Tryz.func50, Tryz.ntmps50
    go_wp2_with fail
    refine (HM.out _ HE0.out).mono ?_
    rintro ev w1 ⟨rfl, hE1⟩
    go_wp2_with fail
    go_ret
    exact ⟨rfl, HE0.out.trans hE1⟩
  simp only [Bool.true_and]
  cases hz : (l.size == m.size)
  · simp only [Bool.false_and]
    go_enter Tryz.func50, Tryz.ntmps50
    go_wp2_with fail
    refine (HM.out _ HE0.out).mono ?_
    rintro ev w1 ⟨rfl, hE1⟩
    have g0 := hE1.blk HB0.out
    have g1 := hE1.blk HB1.out
    have a0 := cell_of_heap g0 4
    have a1 := cell_of_heap g0 5
    have b0 := cell_of_heap g1 4
    have b1 := cell_of_heap g1 5
    simp at a0 a1 b0 b1
    have HE1 := Lib.hid (HE0.out.trans hE1)
    clear g0 g1 hE1
    go_wp2_with fail
    go_ret
    exact ⟨rfl, HE1.out⟩
  · simp only [Bool.true_and]
    go_enter Tryz.func50, Tryz.ntmps50
    go_wp2_with fail
    refine (HM.out _ HE0.out).mono ?_
    rintro ev w1 ⟨rfl, hE1⟩
    have g0 := hE1.blk HB0.out
    have g1 := hE1.blk HB1.out
    have a0 := cell_of_heap g0 4
    have a1 := cell_of_heap g0 5
    have b0 := cell_of_heap g1 4
    have b1 := cell_of_heap g1 5
    simp at a0 a1 b0 b1
    have HE1 := Lib.hid (HE0.out.trans hE1)
    clear g0 g1 hE1
    go_wp2_with fail
    refine (HU.out _ HE1.out).mono ?_
    rintro ev w2 ⟨rfl, hE2⟩
    go_wp2_with fail
    go_ret
    exact ⟨rfl, HE1.out.trans hE2⟩
end Go.Proofs.YtigljihohpdpeaaGreatDoor
