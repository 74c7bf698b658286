/-
  The document's rows of entries and identities: Last, Follows, wants, goods, aheads.
-/
import Derived.Test.YtjnllilmimngoaaGreatDoorM22
namespace Go.Proofs.YtjnllilmimngoaaGreatDoor
open Go.RowKit

theorem lastId_take {p : Id} {es : List Ent} {k : Nat} {e : Ent} (h : es[k]? = some e) : lastId p (es.take (k + 1)) = e.id := by
  obtain ⟨hk, he⟩ := List.getElem?_eq_some_iff.1 h
  unfold lastId
  have hl : (es.take (k + 1)).length = k + 1 := by rw [List.length_take]; omega
  rw [dif_pos (by omega)]
  congr 1
  rw [List.getElem_take]
  simp only [hl, Nat.add_sub_cancel]
  exact he
def idA (p : Id) : Array Value := #[.int .i64 p.i, .int .i64 p.t, .int .i64 p.k]
theorem idA_set (a : Id) (x y z : Int) : (((idA a).setIfInBounds 0 (.int .i64 x)).setIfInBounds 1 (.int .i64 y)).setIfInBounds 2 (.int .i64 z) = idA ⟨x, y, z⟩ := by simp [idA]
theorem heap_set3 {w : World} {b : Nat} {a : Id} (h : w.heap[b]? = some (.cells (idA a) 26)) (x y z : Int) :
    (((w.setCell ⟨b, 0, none⟩ (.int .i64 x)).setCell ⟨b, 1, none⟩ (.int .i64 y)).setCell ⟨b, 2, none⟩ (.int .i64 z)).heap[b]? = some (.cells (idA ⟨x, y, z⟩) 26) := by
  rw [heap_set (heap_set (heap_set h)), idA_set]
def RlRel (es : List Ent) (p : Id) (w : World) (i : Value) (wr : World) : Prop :=
  ∃ k : Nat, k ≤ es.length ∧ i = .int .i64 k ∧ wr.heap[w.heap.size]? = some (.cells (idA (lastId p (es.take k))) 26) ∧ wr.heap[w.heap.size + 1]? = some (.cells (idA ⟨0, 0, 0⟩) 26) ∧ Ext w wr
set_option maxRecDepth 100000 in
set_option maxHeartbeats 1000000 in
theorem rlast_any (p : Id) (A : Option Addr) (c : Nat) (es : List Ent) (w : World) (hA : EntsIn w A es) (hl : es.length ≤ maxLen) :
    Calls Tryz.prog 143 #[p.v, .slice A es.length c] w fun e w' => e = .returned (lastId p es).v ∧ Ext w w' := by
  unfold maxLen at hl
  have HOF := Lib.hid (fun i t k x w => rof_any i t k x w)
  have HB0 := Lib.hid (heap0 w (.cells (idA p) 26) (.cells (idA ⟨0, 0, 0⟩) 26))
  have HB1 := Lib.hid (heap1 w (.cells (idA p) 26) (.cells (idA ⟨0, 0, 0⟩) 26))
  have HE0 := Lib.hid (((Ext.refl w).alloc (.cells (idA p) 26)).alloc (.cells (idA ⟨0, 0, 0⟩) 26))
  unfold idV at HOF
  unfold Id.v idV
  go_enter Tryz.func143, Tryz.ntmps143
  go_wp2_with fail
  go_loopw [5] (fun i wr => RlRel es p w i wr) (fun i _ => es.length - (intOf i).toNat)
  case atStart => exact ⟨0, Nat.zero_le _, rfl, HB0.out, HB1.out, HE0.out⟩
  case round =>
    obtain ⟨k, hk, rfl, hb0, hb1, hE⟩ := hrel
    have KB0 := Lib.hid hb0
    have KB1 := Lib.hid hb1
    have hz1 := heap_lt hb1
    clear hb0 hb1
    by_cases hlt : k < es.length
    · obtain ⟨b, f, e, rfl, he, c0, c1, c2, c3, _⟩ := (hA.ext hE).at_ hlt
      have HT := Lib.hid (lastId_take (p := p) he)
      have hbl : b < wr.heap.size := World.block_lt_of_cell? wr _ c0
      have HE := Lib.hid hE
      clear he hE
      go_wp2_with fail
      refine (HOF.out _ _ _ _ _).mono ?_
      rintro ev w1 ⟨rfl, hE1⟩
      have g0 := hE1.blk KB0.out
      have g1 := hE1.blk KB1.out
      have G0 := Lib.hid (heap_set3 g0 e.i e.t e.k)
      have r0 := cell_of_heap g0
      have f0 := frozen_of_heap g0
      have G1 := Lib.hid g1
      have HE1 := Lib.hid (HE.out.trans hE1)
      have q0 : (idA (lastId p (es.take k)))[0]? = some (.int .i64 (lastId p (es.take k)).i) := rfl
      have q1 : (idA (lastId p (es.take k)))[1]? = some (.int .i64 (lastId p (es.take k)).t) := rfl
      have q2 : (idA (lastId p (es.take k)))[2]? = some (.int .i64 (lastId p (es.take k)).k) := rfl
      clear g0 g1 hE1
      go_wp2_with fail
      go_roundw
      case rel => exact ⟨k + 1, by omega, by go_num, by rw [HT.out]; exact G0.out, by
          rw [Below.heap_setCell _ _ _ _ (by simp), Below.heap_setCell _ _ _ _ (by simp), Below.heap_setCell _ _ _ _ (by simp)]; exact G1.out, ((HE1.out.set (by simp) _).set (by simp) _).set (by simp) _⟩
      case measure => simp [intOf]; omega
    · obtain rfl : k = es.length := by omega
      have hb0 := KB0.out
      rw [List.take_length] at hb0
      have r0 := cell_of_heap hb0
      have r1 := cell_of_heap KB1.out
      have f1 := frozen_of_heap KB1.out
      have q0 : (idA (lastId p es))[0]? = some (.int .i64 (lastId p es).i) := rfl
      have q1 : (idA (lastId p es))[1]? = some (.int .i64 (lastId p es).t) := rfl
      have q2 : (idA (lastId p es))[2]? = some (.int .i64 (lastId p es).k) := rfl
      have s0 : (idA ⟨0, 0, 0⟩)[0]? = some (.int .i64 0) := rfl
      have s1 : (idA ⟨0, 0, 0⟩)[1]? = some (.int .i64 0) := rfl
      have s2 : (idA ⟨0, 0, 0⟩)[2]? = some (.int .i64 0) := rfl
      clear hb0
      go_wp2_with fail
      exact bodyPost_ret (v := .agg #[.int .i64 (lastId p es).i, .int .i64 (lastId p es).t, .int .i64 (lastId p es).k]) (by simp [results, Tryz.results143, go_sem, r1, s0, s1, s2]) rfl ⟨rfl, ((hE.set (by simp) _).set (by simp) _).set (by simp) _⟩

def RfRel (es : List Ent) (p : Id) (w : World) (i : Value) (wr : World) : Prop :=
  ∃ (k : Nat) (a : Id), k ≤ es.length ∧ i = .int .i64 k ∧ wr.heap[w.heap.size]? = some (.cells (idA a) 26) ∧ rowE a k (es.drop k) = rowE p 0 es ∧ Ext w wr
theorem followsN_none {p : Id} {es : List Ent} (h : rowE p 0 es = none) : followsN p es = 0 := by unfold followsN; rw [h]
theorem followsN_some {p : Id} {es : List Ent} {k : Nat} {n : Int} (h : rowE p 0 es = some (k, n)) : followsN p es = n := by unfold followsN; rw [h]
set_option maxRecDepth 100000 in
set_option maxHeartbeats 2000000 in
theorem rfollows_any (p : Id) (A : Option Addr) (c : Nat) (es : List Ent) (w : World) (hA : EntsIn w A es) (hl : es.length ≤ maxLen) :
    Calls Tryz.prog 142 #[p.v, .slice A es.length c] w fun e w' => e = .returned (.int .i64 (followsN p es)) ∧ Ext w w' := by
  unfold maxLen at hl
  have HOF := Lib.hid (fun i t k x w => rof_any i t k x w)
  have HB0 := Lib.hid (heap_alloc_new w (.cells (idA p) 26))
  unfold idV at HOF
  unfold Id.v idV
  go_enter Tryz.func142, Tryz.ntmps142
  go_wp2_with fail
  go_loopw [5] (fun i wr => RfRel es p w i wr) (fun i _ => es.length - (intOf i).toNat)
  case atStart => exact ⟨0, p, Nat.zero_le _, rfl, HB0.out, rfl, (Ext.refl w).alloc _⟩
  case round =>
    obtain ⟨k, a, hk, rfl, hb0, hr, hE⟩ := hrel
    have KB0 := Lib.hid hb0
    have HR := Lib.hid hr
    clear hb0 hr
    by_cases hlt : k < es.length
    · obtain ⟨b, f, e, rfl, he, c0, c1, c2, c3, hin⟩ := (hA.ext hE).at_ hlt
      have HE := Lib.hid hE
      have HGD := Lib.hid (fun w' (h : Ext wr w') => rgood_any e.i e.t e.k e.bA e.bc e.bs w' (hin.1.ext h) hin.2.1 hin.2.2)
      have HS := Lib.hid (fun h => rowE_step (a := a) he h)
      have HP := Lib.hid (fun h => rowE_stop (a := a) he h)
      clear he hE hin
      cases hg : e.good with
      | false =>
        have hg' : goodE e.i e.t e.k e.bs = false := hg
        have hv : Hid (followsN p es = 4) := Lib.hid (by
          have hm : meetsN a e = 4 := by simp [meetsN, hg]
          rw [followsN_some (HR.out.symm.trans (HP.out (by rw [hm]; decide)))]; exact hm)
        simp only [hg'] at HGD
        clear hg hg'
        go_wp2_with fail
        refine (HGD.out _ (Ext.refl _)).mono ?_
        rintro ev w1 ⟨rfl, hE1⟩
        go_wp2_with fail
        go_ret
        exact ⟨by rw [hv.out]; rfl, HE.out.trans hE1⟩
      | true =>
        have hg' : goodE e.i e.t e.k e.bs = true := hg
        have hgi := good_i hg
        have hw1 : IntKind.i64.wrap (e.i - 1) = e.i - 1 := IntWalk.i64_in _ (by omega)
        simp only [hg'] at HGD
        clear hg'
        go_wp2_with fail
        refine (HGD.out _ (Ext.refl _)).mono ?_
        rintro ev w1 ⟨rfl, hE1⟩
        have c0 := hE1.cell c0
        have c1 := hE1.cell c1
        have c2 := hE1.cell c2
        have c3 := hE1.cell c3
        have g0 := hE1.blk KB0.out
        have G0 := Lib.hid g0
        have r0 := cell_of_heap g0
        have q0 : (idA a)[0]? = some (.int .i64 a.i) := rfl
        have q1 : (idA a)[1]? = some (.int .i64 a.t) := rfl
        have q2 : (idA a)[2]? = some (.int .i64 a.k) := rfl
        have HE1 := Lib.hid (HE.out.trans hE1)
        clear g0 hE1
        by_cases h1 : e.i - 1 = a.i
        · have d1 : (e.i - 1 != a.i) = false := by simpa using h1
          by_cases h2 : a.t ≤ e.t
          · have d2 : decide (e.t < a.t) = false := by simp; omega
            have hm : meetsN a e = 0 := by simp [meetsN, hg, h1, h2]
            have HS2 := Lib.hid (HS.out hm)
            clear hm hg h1
            go_wp2_with fail
            go_quiet (fail)
            go_wp2_with fail
            refine (HOF.out _ _ _ _ _).mono ?_
            rintro ev w2 ⟨rfl, hE2⟩
            have g0 := hE2.blk (show (w1.drewN _).heap[w.heap.size]? = _ from G0.out)
            have G2 := Lib.hid (heap_set3 g0 e.i e.t e.k)
            have r0 := cell_of_heap g0
            have f0 := frozen_of_heap g0
            have HE2 := Lib.hid ((HE1.out.drewN _).trans hE2)
            clear g0 hE2
            go_wp2_with fail
            go_roundw
            case rel => exact ⟨k + 1, e.id, by omega, by go_num, G2.out, by rw [← HS2.out]; exact HR.out, ((HE2.out.set (by simp) _).set (by simp) _).set (by simp) _⟩
            case measure => simp [intOf]; omega
          · have d2 : decide (e.t < a.t) = true := by simp; omega
            have hv : Hid (followsN p es = 12) := Lib.hid (by
              have hm : meetsN a e = 12 := by simp [meetsN, hg, h2]
              rw [followsN_some (HR.out.symm.trans (HP.out (by rw [hm]; decide)))]; exact hm)
            clear hg h1
            go_wp2_with fail
            go_quiet (fail)
            go_wp2_with fail
            go_ret
            exact ⟨by rw [hv.out]; rfl, HE1.out.drewN _⟩
        · have d1 : (e.i - 1 != a.i) = true := by simpa using h1
          have hv : Hid (followsN p es = 12) := Lib.hid (by
            have hm : meetsN a e = 12 := by simp [meetsN, hg, h1]
            rw [followsN_some (HR.out.symm.trans (HP.out (by rw [hm]; decide)))]; exact hm)
          clear hg h1
          go_wp2_with fail
          go_quiet (fail)
          go_wp2_with fail
          go_ret
          exact ⟨by rw [hv.out]; rfl, HE1.out.drewN _⟩
    · obtain rfl : k = es.length := by omega
      have hv : Hid (followsN p es = 0) := Lib.hid (followsN_none (HR.out.symm.trans rowE_end))
      go_wp2_with fail
      go_ret
      exact ⟨by rw [hv.out]; rfl, hE⟩

def RgRel (es : List Ent) (w : World) (i : Value) (wr : World) : Prop := ∃ k : Nat, k ≤ es.length ∧ i = .int .i64 k ∧ (es.drop k).all Ent.good = es.all Ent.good ∧ Ext w wr
set_option maxRecDepth 100000 in
set_option maxHeartbeats 1000000 in
theorem rgoods_any (A : Option Addr) (c : Nat) (es : List Ent) (w : World) (hA : EntsIn w A es) (hl : es.length ≤ maxLen) :
    Calls Tryz.prog 110 #[.slice A es.length c] w fun e w' => e = .returned (.bool (goodsOk es)) ∧ Ext w w' := by
  unfold maxLen at hl
  go_enter Tryz.func110, Tryz.ntmps110
  go_wp2_with fail
  go_loopw [3] (fun i wr => RgRel es w i wr) (fun i _ => es.length - (intOf i).toNat)
  case atStart => exact ⟨0, Nat.zero_le _, rfl, rfl, Ext.refl _⟩
  case round =>
    obtain ⟨k, hk, rfl, hr, hE⟩ := hrel
    have HR := Lib.hid hr
    clear hr
    by_cases hlt : k < es.length
    · obtain ⟨b, f, e, rfl, he, c0, c1, c2, c3, hin⟩ := (hA.ext hE).at_ hlt
      have HE := Lib.hid hE
      have HGD := Lib.hid (fun w' (h : Ext wr w') => rgood_any e.i e.t e.k e.bA e.bc e.bs w' (hin.1.ext h) hin.2.1 hin.2.2)
      have HS := Lib.hid (show (es.drop k).all Ent.good = (e.good && (es.drop (k + 1)).all Ent.good) by rw [drop_at he]; rfl)
      clear he hE hin
      cases hg : e.good with
      | false =>
        have hg' : goodE e.i e.t e.k e.bs = false := hg
        have hv : Hid (goodsOk es = false) := Lib.hid (by unfold goodsOk; rw [← HR.out, HS.out, hg]; simp)
        simp only [hg'] at HGD
        clear hg hg'
        go_wp2_with fail
        refine (HGD.out _ (Ext.refl _)).mono ?_
        rintro ev w1 ⟨rfl, hE1⟩
        go_wp2_with fail
        go_ret
        exact ⟨by rw [hv.out]; rfl, HE.out.trans hE1⟩
      | true =>
        have hg' : goodE e.i e.t e.k e.bs = true := hg
        have HS2 : Hid ((es.drop k).all Ent.good = (es.drop (k + 1)).all Ent.good) := Lib.hid (by rw [HS.out, hg]; rfl)
        simp only [hg'] at HGD
        clear hg hg'
        go_wp2_with fail
        refine (HGD.out _ (Ext.refl _)).mono ?_
        rintro ev w1 ⟨rfl, hE1⟩
        go_wp2_with fail
        go_roundw
        case rel => exact ⟨k + 1, by omega, by go_num, by rw [← HS2.out]; exact HR.out, HE.out.trans hE1⟩
        case measure => simp [intOf]; omega
    · obtain rfl : k = es.length := by omega
      have hv : Hid (goodsOk es = inR es.length 1 8) := Lib.hid (by unfold goodsOk; rw [← HR.out, List.drop_length]; simp)
      go_wp2_with (go_at_call 103; refine (rwithin_any _ _ _ _).mono ?_; rintro e w' ⟨rfl, rfl⟩)
      go_ret
      exact ⟨by rw [hv.out]; rfl, hE⟩

def prevI (ps : List Id) (k : Nat) : Int := if k = 0 then 0 else (ps.getD (k - 1) ⟨0, 0, 0⟩).i
theorem some_pos {p : Id} (h : p.some_ = true) : 0 < p.i := by
  unfold Id.some_ at h
  rw [someI_eq] at h
  simp only [Bool.and_eq_true, inR_iff] at h
  omega
def RwRel (ps : List Id) (w : World) (i : Value) (wr : World) : Prop := ∃ k : Nat, k ≤ ps.length ∧ i = .int .i64 k ∧ risingW (prevI ps k) (ps.drop k) = risingW 0 ps ∧ Ext w wr
set_option maxRecDepth 100000 in
set_option maxHeartbeats 2000000 in
theorem rwants_any (A : Option Addr) (c : Nat) (ps : List Id) (w : World) (hA : IdsIn w A ps) (hl : ps.length ≤ 140737488355328) :
    Calls Tryz.prog 109 #[.slice A ps.length c] w fun e w' => e = .returned (.bool (wantsOk ps)) ∧ Ext w w' := by
  go_enter Tryz.func109, Tryz.ntmps109
  go_wp2_with fail
  go_loopw [3] (fun i wr => RwRel ps w i wr) (fun i _ => ps.length - (intOf i).toNat)
  case atStart => exact ⟨0, Nat.zero_le _, rfl, rfl, Ext.refl _⟩
  case round =>
    obtain ⟨k, hk, rfl, hr, hE⟩ := hrel
    have HR := Lib.hid hr
    clear hr
    by_cases hlt : k < ps.length
    · obtain ⟨b, f, p, rfl, hp, c0, c1, c2⟩ := (hA.ext hE).at_ hlt
      have HE := Lib.hid hE
      have HS := Lib.hid (rising_step (a := prevI ps k) hp)
      have HN : Hid (prevI ps (k + 1) = p.i) := Lib.hid (by unfold prevI; rw [if_neg (by omega), Nat.add_sub_cancel, getD_of hp])
      have HSO := Lib.hid (fun w => rsomeones_any p.i p.t p.k w)
      unfold idV at HSO
      cases hs : someI p.i p.t p.k with
      | false =>
        have hv : Hid (wantsOk ps = false) := Lib.hid (by unfold wantsOk; rw [← HR.out, HS.out]; simp [Id.some_, hs])
        simp only [hs] at HSO
        have D0 := Lib.hid c0
        have D1 := Lib.hid c1
        have D2 := Lib.hid c2
        clear c0 c1 c2 hp hE hs
        go_wp2_with fail
        refine Stab.wp_region_lex Ext (Ext _) (fun _ => True) (by kernel_rfl) (by kernel_rfl) (fun _ _ h => h) (fun _ _ h k => Ext.trans h k) (fun _ _ _ _ => trivial) ((Ext.refl _).drew) trivial ?_
        simp only [Stab.zipL, Nat.reduceAdd]
        repeat (first
          | (refine Stab.wpX_skip rfl ?_; simp only [Act.put, List.setIfInBounds_toArray, List.set_cons_zero, List.set_cons_succ])
          | (refine Stab.wpX_val rfl rfl ?_; apply Exists.intro; refine ⟨fun wx hC _ => ?_, ?_⟩; (have q0 := hC.cell D0.out; have q1 := hC.cell D1.out; have q2 := hC.cell D2.out; go_simp; exact ⟨Ext.refl _, rfl⟩); simp only [Act.put, List.setIfInBounds_toArray, List.set_cons_zero, List.set_cons_succ])
          | (refine Stab.wpX_call1 rfl rfl (fun _ _ _ _ => trivial) ?_; apply Exists.intro; refine ⟨fun wx hC _ _ => ?_, ?_⟩; (go_simp; refine ⟨rfl, ?_⟩; refine (HSO.out _).mono ?_; rintro ev w9 ⟨rfl, hb9⟩; (first | (subst hb9; exact ⟨Ext.refl _, rfl, trivial⟩) | (subst hb9; exact ⟨Ext.refl _, rfl⟩) | exact ⟨hb9, rfl, trivial⟩ | exact ⟨hb9, rfl⟩)); simp only [Act.put, List.setIfInBounds_toArray, List.set_cons_zero, List.set_cons_succ]))
        refine Stab.wpX_end fun w8 hC8 _ _ => ?_
        have HE8 := Lib.hid (HE.out.trans hC8)
        clear hC8
        go_wp2_with fail
        go_ret
        exact ⟨by rw [hv.out]; rfl, HE8.out⟩
      | true =>
        have hsp : p.some_ = true := hs
        have hpos := some_pos hsp
        simp only [hs] at HSO
        rcases k with _ | q
        · have HS2 : Hid (risingW (prevI ps 0) (ps.drop 0) = risingW p.i (ps.drop 1)) := Lib.hid (by rw [HS.out, hsp]; simp [prevI, hpos])
          simp only [Nat.zero_mul, Nat.add_zero] at c0 c1 c2
          have D0 := Lib.hid c0
          have D1 := Lib.hid c1
          have D2 := Lib.hid c2
          clear c0 c1 c2 hp hE hs hsp hpos
          go_wp2_with fail
          refine Stab.wp_region_lex Ext (Ext _) (fun _ => True) (by kernel_rfl) (by kernel_rfl) (fun _ _ h => h) (fun _ _ h k => Ext.trans h k) (fun _ _ _ _ => trivial) ((Ext.refl _).drew) trivial ?_
          simp only [Stab.zipL, Nat.reduceAdd]
          repeat (first
            | (refine Stab.wpX_skip rfl ?_; simp only [Act.put, List.setIfInBounds_toArray, List.set_cons_zero, List.set_cons_succ])
            | (refine Stab.wpX_val rfl rfl ?_; apply Exists.intro; refine ⟨fun wx hC _ => ?_, ?_⟩; (have q0 := hC.cell D0.out; have q1 := hC.cell D1.out; have q2 := hC.cell D2.out; go_simp; exact ⟨Ext.refl _, rfl⟩); simp only [Act.put, List.setIfInBounds_toArray, List.set_cons_zero, List.set_cons_succ])
            | (refine Stab.wpX_call1 rfl rfl (fun _ _ _ _ => trivial) ?_; apply Exists.intro; refine ⟨fun wx hC _ _ => ?_, ?_⟩; (go_simp; refine ⟨rfl, ?_⟩; refine (HSO.out _).mono ?_; rintro ev w9 ⟨rfl, hb9⟩; (first | (subst hb9; exact ⟨Ext.refl _, rfl, trivial⟩) | (subst hb9; exact ⟨Ext.refl _, rfl⟩) | exact ⟨hb9, rfl, trivial⟩ | exact ⟨hb9, rfl⟩)); simp only [Act.put, List.setIfInBounds_toArray, List.set_cons_zero, List.set_cons_succ]))
          refine Stab.wpX_end fun w8 hC8 _ _ => ?_
          have HE8 := Lib.hid (HE.out.trans hC8)
          clear hC8
          go_wp2_with fail
          go_roundw
          case rel => exact ⟨1, by omega, by go_num, by rw [HN.out, ← HS2.out]; exact HR.out, HE8.out⟩
          case measure => simp [intOf]; omega
        · obtain ⟨b2, f2, p2, h2, hp2, e0, e1, e2⟩ := (hA.ext hE).at_ (k := q) (by omega)
          injection h2 with h2
          injection h2 with h2 h3
          subst h2 h3
          have E0 := Lib.hid e0
          have D0 := Lib.hid c0
          have D1 := Lib.hid c1
          have D2 := Lib.hid c2
          have hpr : prevI ps (q + 1) = p2.i := by unfold prevI; rw [if_neg (by omega), Nat.add_sub_cancel, getD_of hp2]
          have dq : decide ((0 : Int) < ((q + 1 : Nat) : Int)) = true := decide_eq_true (by omega)
          have hql : q < ps.length := by omega
          have hq1 : IntKind.i64.wrap (q : Int) = (q : Int) := IntWalk.i64_in _ (by omega)
          by_cases hle : p.i ≤ p2.i
          · have d1 : decide (p.i ≤ p2.i) = true := decide_eq_true hle
            have hv : Hid (wantsOk ps = false) := Lib.hid (by
              unfold wantsOk; rw [← HR.out, HS.out, hpr]
              have : decide (p2.i < p.i) = false := decide_eq_false (by omega)
              simp [this])
            clear c0 c1 c2 hp hp2 e0 e1 e2 hE hs hsp hpos hpr hle
            go_wp2_with fail
            refine Stab.wp_region_lex Ext (Ext _) (fun _ => True) (by kernel_rfl) (by kernel_rfl) (fun _ _ h => h) (fun _ _ h k => Ext.trans h k) (fun _ _ _ _ => trivial) ((Ext.refl _).drew) trivial ?_
            simp only [Stab.zipL, Nat.reduceAdd]
            repeat (first
              | (refine Stab.wpX_skip rfl ?_; simp only [Act.put, List.setIfInBounds_toArray, List.set_cons_zero, List.set_cons_succ])
              | (refine Stab.wpX_val rfl rfl ?_; apply Exists.intro; refine ⟨fun wx hC _ => ?_, ?_⟩; (have q0 := hC.cell D0.out; have q1 := hC.cell D1.out; have q2 := hC.cell D2.out; have q3 := hC.cell E0.out; go_simp; exact ⟨Ext.refl _, rfl⟩); simp only [Act.put, List.setIfInBounds_toArray, List.set_cons_zero, List.set_cons_succ])
              | (refine Stab.wpX_call1 rfl rfl (fun _ _ _ _ => trivial) ?_; apply Exists.intro; refine ⟨fun wx hC _ _ => ?_, ?_⟩; (go_simp; refine ⟨rfl, ?_⟩; refine (HSO.out _).mono ?_; rintro ev w9 ⟨rfl, hb9⟩; (first | (subst hb9; exact ⟨Ext.refl _, rfl, trivial⟩) | (subst hb9; exact ⟨Ext.refl _, rfl⟩) | exact ⟨hb9, rfl, trivial⟩ | exact ⟨hb9, rfl⟩)); simp only [Act.put, List.setIfInBounds_toArray, List.set_cons_zero, List.set_cons_succ]))
            refine Stab.wpX_end fun w8 hC8 _ _ => ?_
            have HE8 := Lib.hid (HE.out.trans hC8)
            clear hC8
            go_wp2_with fail
            go_ret
            exact ⟨by rw [hv.out]; rfl, HE8.out⟩
          · have d1 : decide (p.i ≤ p2.i) = false := decide_eq_false hle
            have HS2 : Hid (risingW (prevI ps (q + 1)) (ps.drop (q + 1)) = risingW p.i (ps.drop (q + 1 + 1))) := Lib.hid (by
              rw [HS.out, hsp, hpr]
              have : decide (p2.i < p.i) = true := decide_eq_true (by omega)
              simp [this])
            clear c0 c1 c2 hp hp2 e0 e1 e2 hE hs hsp hpos hpr hle
            go_wp2_with fail
            refine Stab.wp_region_lex Ext (Ext _) (fun _ => True) (by kernel_rfl) (by kernel_rfl) (fun _ _ h => h) (fun _ _ h k => Ext.trans h k) (fun _ _ _ _ => trivial) ((Ext.refl _).drew) trivial ?_
            simp only [Stab.zipL, Nat.reduceAdd]
            repeat (first
              | (refine Stab.wpX_skip rfl ?_; simp only [Act.put, List.setIfInBounds_toArray, List.set_cons_zero, List.set_cons_succ])
              | (refine Stab.wpX_val rfl rfl ?_; apply Exists.intro; refine ⟨fun wx hC _ => ?_, ?_⟩; (have q0 := hC.cell D0.out; have q1 := hC.cell D1.out; have q2 := hC.cell D2.out; have q3 := hC.cell E0.out; go_simp; exact ⟨Ext.refl _, rfl⟩); simp only [Act.put, List.setIfInBounds_toArray, List.set_cons_zero, List.set_cons_succ])
              | (refine Stab.wpX_call1 rfl rfl (fun _ _ _ _ => trivial) ?_; apply Exists.intro; refine ⟨fun wx hC _ _ => ?_, ?_⟩; (go_simp; refine ⟨rfl, ?_⟩; refine (HSO.out _).mono ?_; rintro ev w9 ⟨rfl, hb9⟩; (first | (subst hb9; exact ⟨Ext.refl _, rfl, trivial⟩) | (subst hb9; exact ⟨Ext.refl _, rfl⟩) | exact ⟨hb9, rfl, trivial⟩ | exact ⟨hb9, rfl⟩)); simp only [Act.put, List.setIfInBounds_toArray, List.set_cons_zero, List.set_cons_succ]))
            refine Stab.wpX_end fun w8 hC8 _ _ => ?_
            have HE8 := Lib.hid (HE.out.trans hC8)
            clear hC8
            go_wp2_with fail
            go_roundw
            case rel => exact ⟨q + 1 + 1, by omega, by go_num, by rw [HN.out, ← HS2.out]; exact HR.out, HE8.out⟩
            case measure => simp [intOf]; omega
    · obtain rfl : k = ps.length := by omega
      have hv : Hid (wantsOk ps = inR ps.length 1 8) := Lib.hid (by unfold wantsOk; rw [← HR.out, List.drop_length]; rfl)
      go_wp2_with (go_at_call 103; refine (rwithin_any _ _ _ _).mono ?_; rintro e w' ⟨rfl, rfl⟩)
      go_ret
      exact ⟨by rw [hv.out]; rfl, hE⟩

def RaRel (es : List Ent) (ps : List Id) (w : World) (i : Value) (wr : World) : Prop := ∃ k : Nat, k ≤ es.length ∧ i = .int .i64 k ∧ aheadsL (es.drop k) (ps.drop k) = aheadsL es ps ∧ Ext w wr
set_option maxRecDepth 100000 in
set_option maxHeartbeats 4000000 in
theorem raheads_any (A : Option Addr) (c : Nat) (es : List Ent) (D : Option Addr) (d : Nat) (ps : List Id) (w : World) (hA : EntsIn w A es) (hD : IdsIn w D ps) (hl : es.length ≤ 140737488355328) (_hl2 : ps.length ≤ 140737488355328) :
    Calls Tryz.prog 111 #[.slice A es.length c, .slice D ps.length d] w fun e w' => e = .returned (.bool (aheadsOk es ps)) ∧ Ext w w' := by
  by_cases hn : ps.length = es.length
  · have dn : ((ps.length : Int) == (es.length : Int)) = true := by rw [beq_iff_eq]; omega
    have HN := Lib.hid hn
    have hv0 : Hid (aheadsOk es ps = aheadsL es ps) := Lib.hid (by simp [aheadsOk, hn])
    clear hn
    go_enter Tryz.func111, Tryz.ntmps111
    go_wp2_with fail
    go_loopw [5] (fun i wr => RaRel es ps w i wr) (fun i _ => es.length - (intOf i).toNat)
    case atStart => exact ⟨0, Nat.zero_le _, rfl, rfl, Ext.refl _⟩
    case round =>
      obtain ⟨k, hk, rfl, hr, hE⟩ := hrel
      have HR := Lib.hid hr
      clear hr
      by_cases hlt : k < es.length
      · have hlt2 : k < ps.length := by have := HN.out; omega
        obtain ⟨b, f, e, rfl, he, c0, c1, c2, c3, hin⟩ := (hA.ext hE).at_ hlt
        obtain ⟨b2, f2, p, rfl, hp, d0, d1, d2⟩ := (hD.ext hE).at_ hlt2
        have HE := Lib.hid hE
        have HD := Lib.hid (show aheadsL (es.drop k) (ps.drop k) = (aheadAt e p && aheadsL (es.drop (k + 1)) (ps.drop (k + 1))) by rw [drop_at he, drop_at hp, aheadsL])
        have HRI := Lib.hid (fun w => rident_any p.i p.t p.k w)
        unfold idV at HRI
        have C0 := Lib.hid c0
        have C1 := Lib.hid c1
        have D0 := Lib.hid d0
        have D1 := Lib.hid d1
        have D2 := Lib.hid d2
        clear hE hin he hp c0 c1 c2 c3 d0 d1 d2
        go_wp2_with fail
        cases h1 : rightI p.i p.t p.k with
        | false =>
          have hv : Hid (aheadsOk es ps = false) := Lib.hid (by rw [hv0.out, ← HR.out, HD.out]; simp [aheadAt, Id.right, h1])
          simp only [h1] at HRI
          clear h1
          refine Stab.wp_region_lex Ext (Ext _) (fun _ => True) (by kernel_rfl) (by kernel_rfl) (fun _ _ h => h) (fun _ _ h k => Ext.trans h k) (fun _ _ _ _ => trivial) ((Ext.refl _).drew) trivial ?_
          simp only [Stab.zipL, Nat.reduceAdd]
          repeat (first
            | (refine Stab.wpX_skip rfl ?_; simp only [Act.put, List.setIfInBounds_toArray, List.set_cons_zero, List.set_cons_succ])
            | (refine Stab.wpX_val rfl rfl ?_; apply Exists.intro; refine ⟨fun wx hC _ => ?_, ?_⟩; (have q0 := hC.cell C0.out; have q1 := hC.cell C1.out; have q2 := hC.cell D0.out; have q3 := hC.cell D1.out; have q4 := hC.cell D2.out; go_simp; exact ⟨Ext.refl _, rfl⟩); simp only [Act.put, List.setIfInBounds_toArray, List.set_cons_zero, List.set_cons_succ])
            | (refine Stab.wpX_call1 rfl rfl (fun _ _ _ _ => trivial) ?_; apply Exists.intro; refine ⟨fun wx hC _ _ => ?_, ?_⟩; (go_simp; refine ⟨rfl, ?_⟩; refine (HRI.out _).mono ?_; rintro ev w9 ⟨rfl, hb9⟩; (first | (subst hb9; exact ⟨Ext.refl _, rfl, trivial⟩) | (subst hb9; exact ⟨Ext.refl _, rfl⟩) | exact ⟨hb9, rfl, trivial⟩ | exact ⟨hb9, rfl⟩)); simp only [Act.put, List.setIfInBounds_toArray, List.set_cons_zero, List.set_cons_succ]))
          refine Stab.wpX_end fun w8 hC8 _ _ => ?_
          have HC8 := Lib.hid (HE.out.trans hC8)
          clear hC8
          go_wp2_with fail
          go_ret
          exact ⟨by rw [hv.out]; rfl, HC8.out⟩
        | true =>
          cases h2 : (p.i != IntKind.i64.wrap (e.i - 1)) with
          | true =>
            have hv : Hid (aheadsOk es ps = false) := Lib.hid (by rw [hv0.out, ← HR.out, HD.out]; simp only [aheadAt, h2]; simp)
            simp only [h1] at HRI
            clear h1
            refine Stab.wp_region_lex Ext (Ext _) (fun _ => True) (by kernel_rfl) (by kernel_rfl) (fun _ _ h => h) (fun _ _ h k => Ext.trans h k) (fun _ _ _ _ => trivial) ((Ext.refl _).drew) trivial ?_
            simp only [Stab.zipL, Nat.reduceAdd]
            repeat (first
              | (refine Stab.wpX_skip rfl ?_; simp only [Act.put, List.setIfInBounds_toArray, List.set_cons_zero, List.set_cons_succ])
              | (refine Stab.wpX_val rfl rfl ?_; apply Exists.intro; refine ⟨fun wx hC _ => ?_, ?_⟩; (have q0 := hC.cell C0.out; have q1 := hC.cell C1.out; have q2 := hC.cell D0.out; have q3 := hC.cell D1.out; have q4 := hC.cell D2.out; go_simp; exact ⟨Ext.refl _, rfl⟩); simp only [Act.put, List.setIfInBounds_toArray, List.set_cons_zero, List.set_cons_succ])
              | (refine Stab.wpX_call1 rfl rfl (fun _ _ _ _ => trivial) ?_; apply Exists.intro; refine ⟨fun wx hC _ _ => ?_, ?_⟩; (go_simp; refine ⟨rfl, ?_⟩; refine (HRI.out _).mono ?_; rintro ev w9 ⟨rfl, hb9⟩; (first | (subst hb9; exact ⟨Ext.refl _, rfl, trivial⟩) | (subst hb9; exact ⟨Ext.refl _, rfl⟩) | exact ⟨hb9, rfl, trivial⟩ | exact ⟨hb9, rfl⟩)); simp only [Act.put, List.setIfInBounds_toArray, List.set_cons_zero, List.set_cons_succ]))
            refine Stab.wpX_end fun w8 hC8 _ _ => ?_
            have HC8 := Lib.hid (HE.out.trans hC8)
            clear hC8
            go_wp2_with fail
            go_ret
            exact ⟨by rw [hv.out]; rfl, HC8.out⟩
          | false =>
            cases h3 : decide (e.t < p.t) with
            | true =>
              have hv : Hid (aheadsOk es ps = false) := Lib.hid (by rw [hv0.out, ← HR.out, HD.out]; simp only [aheadAt, h3]; simp)
              simp only [h1] at HRI
              clear h1
              refine Stab.wp_region_lex Ext (Ext _) (fun _ => True) (by kernel_rfl) (by kernel_rfl) (fun _ _ h => h) (fun _ _ h k => Ext.trans h k) (fun _ _ _ _ => trivial) ((Ext.refl _).drew) trivial ?_
              simp only [Stab.zipL, Nat.reduceAdd]
              repeat (first
                | (refine Stab.wpX_skip rfl ?_; simp only [Act.put, List.setIfInBounds_toArray, List.set_cons_zero, List.set_cons_succ])
                | (refine Stab.wpX_val rfl rfl ?_; apply Exists.intro; refine ⟨fun wx hC _ => ?_, ?_⟩; (have q0 := hC.cell C0.out; have q1 := hC.cell C1.out; have q2 := hC.cell D0.out; have q3 := hC.cell D1.out; have q4 := hC.cell D2.out; go_simp; exact ⟨Ext.refl _, rfl⟩); simp only [Act.put, List.setIfInBounds_toArray, List.set_cons_zero, List.set_cons_succ])
                | (refine Stab.wpX_call1 rfl rfl (fun _ _ _ _ => trivial) ?_; apply Exists.intro; refine ⟨fun wx hC _ _ => ?_, ?_⟩; (go_simp; refine ⟨rfl, ?_⟩; refine (HRI.out _).mono ?_; rintro ev w9 ⟨rfl, hb9⟩; (first | (subst hb9; exact ⟨Ext.refl _, rfl, trivial⟩) | (subst hb9; exact ⟨Ext.refl _, rfl⟩) | exact ⟨hb9, rfl, trivial⟩ | exact ⟨hb9, rfl⟩)); simp only [Act.put, List.setIfInBounds_toArray, List.set_cons_zero, List.set_cons_succ]))
              refine Stab.wpX_end fun w8 hC8 _ _ => ?_
              have HC8 := Lib.hid (HE.out.trans hC8)
              clear hC8
              go_wp2_with fail
              go_ret
              exact ⟨by rw [hv.out]; rfl, HC8.out⟩
            | false =>
              have hv : Hid (aheadsL (es.drop k) (ps.drop k) = aheadsL (es.drop (k + 1)) (ps.drop (k + 1))) := Lib.hid (by rw [HD.out]; simp only [aheadAt, Id.right, h1, h2, h3]; simp)
              simp only [h1] at HRI
              clear h1
              refine Stab.wp_region_lex Ext (Ext _) (fun _ => True) (by kernel_rfl) (by kernel_rfl) (fun _ _ h => h) (fun _ _ h k => Ext.trans h k) (fun _ _ _ _ => trivial) ((Ext.refl _).drew) trivial ?_
              simp only [Stab.zipL, Nat.reduceAdd]
              repeat (first
                | (refine Stab.wpX_skip rfl ?_; simp only [Act.put, List.setIfInBounds_toArray, List.set_cons_zero, List.set_cons_succ])
                | (refine Stab.wpX_val rfl rfl ?_; apply Exists.intro; refine ⟨fun wx hC _ => ?_, ?_⟩; (have q0 := hC.cell C0.out; have q1 := hC.cell C1.out; have q2 := hC.cell D0.out; have q3 := hC.cell D1.out; have q4 := hC.cell D2.out; go_simp; exact ⟨Ext.refl _, rfl⟩); simp only [Act.put, List.setIfInBounds_toArray, List.set_cons_zero, List.set_cons_succ])
                | (refine Stab.wpX_call1 rfl rfl (fun _ _ _ _ => trivial) ?_; apply Exists.intro; refine ⟨fun wx hC _ _ => ?_, ?_⟩; (go_simp; refine ⟨rfl, ?_⟩; refine (HRI.out _).mono ?_; rintro ev w9 ⟨rfl, hb9⟩; (first | (subst hb9; exact ⟨Ext.refl _, rfl, trivial⟩) | (subst hb9; exact ⟨Ext.refl _, rfl⟩) | exact ⟨hb9, rfl, trivial⟩ | exact ⟨hb9, rfl⟩)); simp only [Act.put, List.setIfInBounds_toArray, List.set_cons_zero, List.set_cons_succ]))
              refine Stab.wpX_end fun w8 hC8 _ _ => ?_
              have HC8 := Lib.hid (HE.out.trans hC8)
              clear hC8
              go_wp2_with fail
              go_roundw
              case rel => exact ⟨k + 1, by omega, by go_num, by rw [← hv.out]; exact HR.out, HC8.out⟩
              case measure => simp [intOf]; omega
      · obtain rfl : k = es.length := by omega
        have hv : Hid (aheadsOk es ps = true) := Lib.hid (by rw [hv0.out, ← HR.out, List.drop_length]; cases List.drop es.length ps <;> rfl)
        go_wp2_with fail
        go_ret
        exact ⟨by rw [hv.out]; rfl, hE⟩
  · have dn : ((ps.length : Int) == (es.length : Int)) = false := by rw [beq_eq_false_iff_ne]; omega
    have hv : Hid (aheadsOk es ps = false) := Lib.hid (by simp [aheadsOk, hn])
    clear hn
    go_enter Tryz.func111, Tryz.ntmps111
    go_wp2_with fail
    go_loopw [5] (fun i wr => i = .int .i64 0 ∧ Ext w wr) (fun i _ => 0)
    case atStart => exact ⟨rfl, Ext.refl _⟩
    case round =>
      obtain ⟨rfl, hE⟩ := hrel
      go_wp2_with fail
      all_goals
        go_ret
        exact ⟨by rw [hv.out]; rfl, hE⟩
end Go.Proofs.YtjnllilmimngoaaGreatDoor
