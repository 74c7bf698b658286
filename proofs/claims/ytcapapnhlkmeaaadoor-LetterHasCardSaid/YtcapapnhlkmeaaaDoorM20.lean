/-
  told, Follows.
  wants, goods, aheads.
  goods.
-/
import Derived.Test.YtcapapnhlkmeaaaDoorM19
namespace Go.Proofs.YtcapapnhlkmeaaaDoor
open Go.RowKit

theorem told_nil (w : World) : Calls Tryd.prog 15 #[.nilIface] w fun e w' => e = .returned (.int .i64 0) ∧ Ext w w' := by
  go_enter Tryd.func15, Tryd.ntmps15
  go_wp2_with (go_at_call 16; refine (As_nil _ _).mono ?_; rintro e w' ⟨rfl, rfl⟩)
  go_ret
  exact ⟨rfl, (Ext.refl w).alloc _⟩
set_option maxRecDepth 100000 in
theorem told_4 (j : Nat) (w : World) (hg : ErrT w) : Calls Tryd.prog 15 #[brokenV j 4] w fun e w' => e = .returned (.int .i64 4) ∧ Ext w w' := by
  have HA := Lib.hid (fun tb old => As_broken4 j tb old)
  have HG := Lib.hid (hg.ext ((Ext.refl w).alloc (.cells #[.int .i64 0] 57)))
  clear hg
  unfold brokenV at HA ⊢
  go_enter Tryd.func15, Tryd.ntmps15
  go_wp2_with (go_at_call 16; refine (HA.out _ _ _ HG.out (cell_of_heap (heap_alloc_new w _) 0) (frozen_of_heap (heap_alloc_new w _) 0)).mono ?_; rintro e w1 ⟨rfl, hc, hF⟩; have HFF := Lib.hid hF; clear hF)
  go_ret
  exact ⟨rfl, ((Fr.ofExt (isB w.heap.size) ((Ext.refl w).alloc _)).trans HFF.out (fun _ _ h => h)).toExt (fun i hi => by unfold isB at hi; omega)⟩

theorem meetsN_cases (a : Id) (e : Ent) : meetsN a e = 0 ∨ meetsN a e = 4 ∨ meetsN a e = 12 := by
  unfold meetsN
  by_cases h1 : e.good = false
  · rw [if_pos h1]; simp
  · rw [if_neg h1]
    by_cases h2 : e.i - 1 = a.i ∧ a.t ≤ e.t
    · rw [if_pos h2]; simp
    · rw [if_neg h2]; simp
def followsN (a : Id) (es : List Ent) : Int := match rowE a 0 es with
  | none => 0
  | some (_, n) => n
theorem rowE_cases (a : Id) (j : Nat) (es : List Ent) : rowE a j es = none ∨ (∃ k, rowE a j es = some (k, 4)) ∨ ∃ k, rowE a j es = some (k, 12) := by
  induction es generalizing a j with
  | nil => exact .inl rfl
  | cons e es ih =>
    unfold rowE
    rcases meetsN_cases a e with h | h | h
    · rw [if_pos h]; exact ih _ _
    · rw [h]; exact .inr (.inl ⟨j, rfl⟩)
    · rw [h]; exact .inr (.inr ⟨j, rfl⟩)

set_option maxRecDepth 100000 in
set_option maxHeartbeats 1000000 in
theorem follows_any (p : Id) (A : Option Addr) (c : Nat) (es : List Ent) (w : World) (hA : EntsIn w A es) (hl : es.length ≤ maxLen) (hg : ErrT w) :
    Calls Tryd.prog 7 #[p.v, .slice A es.length c] w fun ev w' => ev = .returned (.int .i64 (followsN p es)) ∧ Ext w w' := by
  have HROW := Lib.hid (fun cb w' (h1 : Ext w w') (h2 : w.heap.size ≤ cb) => erow_any w cb p A c es w' h1 h2 hA hl)
  have HG := Lib.hid hg
  have HE2 := Lib.hid (((Ext.refl w).alloc (.cells #[.int .i64 p.i, .int .i64 p.t, .int .i64 p.k] 25)).alloc (.cells #[.int .i64 p.i, .int .i64 p.t, .int .i64 p.k] 55))
  have HB2 := Lib.hid (heap1 w (.cells #[.int .i64 p.i, .int .i64 p.t, .int .i64 p.k] 25) (.cells #[.int .i64 p.i, .int .i64 p.t, .int .i64 p.k] 55))
  clear hA hl hg
  rcases rowE_cases p 0 es with h | ⟨k, h⟩ | ⟨k, h⟩
  · have RV : Hid (rowV (rowE p 0 es) = .nilIface) := Lib.hid (by rw [h]; rfl)
    have hv : Hid (followsN p es = 0) := Lib.hid (by simp [followsN, h])
    clear h
    rw [hv.out]
    have HI := Lib.hid (fun w => Is_nilE 12 w)
    unfold numE at HI
    unfold Id.v idV
    go_enter Tryd.func7, Tryd.ntmps7
    go_wp2_with fail
    refine (HROW.out _ _ HE2.out (by simp) HB2.out).mono ?_
    rintro ev w1 ⟨rfl, hE1⟩
    rw [RV.out]
    have HE1 := Lib.hid hE1
    clear hE1
    go_wp2_with (first | (go_at_call 12; refine (HI.out _).mono ?_; rintro e w' ⟨rfl, rfl⟩) | (go_at_call 15; refine (told_nil _).mono ?_; rintro e w2 ⟨rfl, hE2⟩))
    go_ret
    exact ⟨rfl, HE1.out.trans hE2⟩
  · have RV : Hid (rowV (rowE p 0 es) = brokenV k 4) := Lib.hid (by rw [h]; rfl)
    have hv : Hid (followsN p es = 4) := Lib.hid (by simp [followsN, h])
    clear h
    rw [hv.out]
    have HI := Lib.hid (fun w => Is_broken4 k w)
    have HTD := Lib.hid (fun w => told_4 k w)
    unfold numE brokenV at HI
    unfold brokenV at HTD
    unfold Id.v idV
    go_enter Tryd.func7, Tryd.ntmps7
    go_wp2_with fail
    refine (HROW.out _ _ HE2.out (by simp) HB2.out).mono ?_
    rintro ev w1 ⟨rfl, hE1⟩
    rw [RV.out]
    unfold brokenV
    have HE1 := Lib.hid hE1
    clear hE1
    go_wp2_with fail
    refine (HI.out _).mono ?_
    rintro e w2 ⟨rfl, hE2⟩
    have HE22 := Lib.hid (HE1.out.trans hE2)
    clear hE2
    go_wp2_with fail
    refine (HTD.out _ (HG.out.ext HE22.out)).mono ?_
    rintro e w3 ⟨rfl, hE3⟩
    go_wp2
    go_ret
    exact ⟨rfl, HE22.out.trans hE3⟩
  · have RV : Hid (rowV (rowE p 0 es) = brokenV k 12) := Lib.hid (by rw [h]; rfl)
    have hv : Hid (followsN p es = 12) := Lib.hid (by simp [followsN, h])
    clear h
    rw [hv.out]
    have HI := Lib.hid (fun w => Is_broken12 k w)
    unfold numE brokenV at HI
    unfold Id.v idV
    go_enter Tryd.func7, Tryd.ntmps7
    go_wp2_with fail
    refine (HROW.out _ _ HE2.out (by simp) HB2.out).mono ?_
    rintro ev w1 ⟨rfl, hE1⟩
    rw [RV.out]
    unfold brokenV
    have HE1 := Lib.hid hE1
    clear hE1
    go_wp2_with fail
    refine (HI.out _).mono ?_
    rintro e w2 ⟨rfl, hE2⟩
    have HE22 := Lib.hid (HE1.out.trans hE2)
    clear hE2
    go_wp2
    go_ret
    exact ⟨rfl, HE22.out⟩
end Go.Proofs.YtcapapnhlkmeaaaDoor
namespace Go.Proofs.YtcapapnhlkmeaaaDoor
open Go.RowKit

def Err (d : Nat) (w : World) (ok : Bool) (v : Value) : Prop := if ok = true then v = .nilIface else Bad d w v
def ErrPost (d : Nat) (ok : Bool) (w : World) (e : Ending) (w' : World) : Prop := ∃ v, e = .returned v ∧ Err d w' ok v ∧ Ext w w'
theorem Err.holds (s : ByteArray) (ok : Bool) (w : World) : Err 0 w ok (holdsV s ok) := by
  cases ok
  · exact ⟨s, rfl⟩
  · exact rfl
theorem Err.nil {d : Nat} {w : World} {ok : Bool} (h : ok = true) : Err d w ok .nilIface := by subst h; rfl
theorem Err.part {d : Nat} {w : World} {ok : Bool} (s : ByteArray) (h : ok = false) : Err d w ok (partV s) := by
  subst h
  show Bad d w _
  exact Bad.le (d := 0) ⟨s, rfl⟩ (Nat.zero_le _)
theorem Err.le {d k : Nat} {w : World} {ok : Bool} {v : Value} (h : Err d w ok v) (hk : d ≤ k) : Err k w ok v := by
  cases ok
  · exact Bad.le (d := d) h hk
  · exact h
theorem Err.ext {d : Nat} {w w' : World} {ok : Bool} {v : Value} (h : Err d w ok v) (he : Ext w w') : Err d w' ok v := by
  cases ok
  · exact Bad.ext (d := d) h he
  · exact h

def risingW (a : Int) : List Id → Bool
  | [] => true
  | p :: ps => p.some_ && (decide (a < p.i) && risingW p.i ps)
def wantsOk (ps : List Id) : Bool := risingW 0 ps && inR ps.length 1 8
theorem rising_step {a : Int} {k : Nat} {ps : List Id} {p : Id} (h : ps[k]? = some p) : risingW a (ps.drop k) = (p.some_ && (decide (a < p.i) && risingW p.i (ps.drop (k + 1)))) := by
  rw [drop_at h, risingW]
def WantRel (ps : List Id) (w0 : World) (at_ i : Value) (wr : World) : Prop :=
  ∃ (k : Nat) (a : Int), k ≤ ps.length ∧ i = .int .i64 k ∧ at_ = .int .i64 a ∧ risingW a (ps.drop k) = risingW 0 ps ∧ Ext w0 wr

set_option maxRecDepth 100000 in
set_option maxHeartbeats 1000000 in
theorem wants_any (A : Option Addr) (c : Nat) (ps : List Id) (w : World) (hA : IdsIn w A ps) (hl : ps.length ≤ maxLen) :
    Calls Tryd.prog 46 #[.slice A ps.length c] w (ErrPost 0 (wantsOk ps) w) := by
  unfold maxLen at hl
  go_enter Tryd.func46, Tryd.ntmps46
  go_wp2
  go_loopw [3, 8] (fun a i wr => WantRel ps w a i wr) (fun _ i _ => ps.length - (intOf i).toNat)
  case atStart => exact ⟨0, 0, Nat.zero_le _, rfl, rfl, rfl, Ext.refl _⟩
  case round =>
    obtain ⟨k, a, hk, rfl, rfl, hr, hE⟩ := hrel
    have HR := Lib.hid hr
    clear hr
    by_cases hlt : k < ps.length
    · obtain ⟨b, f, p, rfl, hp, c0, c1, c2⟩ := (hA.ext hE).at_ hlt
      have hbl : b < wr.heap.size := World.block_lt_of_cell? wr _ c0
      have HE := Lib.hid hE
      have HS := Lib.hid (rising_step (a := a) hp)
      clear hE hp
      have HSO := Lib.hid (fun w => someones_any p.i p.t p.k w)
      unfold idV at HSO
      cases hs : someI p.i p.t p.k with
      | false =>
        have hv : Hid (wantsOk ps = false) := Lib.hid (by unfold wantsOk; rw [← HR.out, HS.out]; simp [Id.some_, hs])
        go_wp2_with (first | (go_at_call 45; refine (HSO.out _).mono ?_; rintro e w1 ⟨rfl, hE1⟩; have HE1 := Lib.hid hE1; clear hE1) | (go_at_call 24; refine (holds_part _ _ _).mono ?_; rintro e w' ⟨rfl, rfl⟩))
        go_ret
        exact ⟨_, rfl, .part _ hv.out, (HE.out.alloc _).trans HE1.out⟩
      | true =>
        by_cases hp : a < p.i
        · have dp : decide (p.i ≤ a) = false := by simp; omega
          have hv : Hid (risingW a (ps.drop k) = risingW p.i (ps.drop (k + 1))) := Lib.hid (by rw [HS.out]; simp [Id.some_, hs, hp])
          go_wp2_with (go_at_call 45; refine (HSO.out _).mono ?_; rintro e w1 ⟨rfl, hE1⟩; have g0 := hE1.blk (heap_alloc_new wr _); have r0 := cell_of_heap g0 0; simp at r0; have HE1 := Lib.hid hE1; clear hE1 g0)
          go_roundw
          case rel => exact ⟨k + 1, p.i, by omega, by go_num, rfl, by rw [← hv.out]; exact HR.out, (HE.out.alloc _).trans HE1.out⟩
          case measure => simp [intOf]; omega
        · have dp : decide (p.i ≤ a) = true := by simp; omega
          have hv : Hid (wantsOk ps = false) := Lib.hid (by unfold wantsOk; rw [← HR.out, HS.out]; simp [hp])
          go_wp2_with (first | (go_at_call 45; refine (HSO.out _).mono ?_; rintro e w1 ⟨rfl, hE1⟩; have g0 := hE1.blk (heap_alloc_new wr _); have r0 := cell_of_heap g0 0; simp at r0; have HE1 := Lib.hid hE1; clear hE1 g0) | (go_at_call 24; refine (holds_part _ _ _).mono ?_; rintro e w' ⟨rfl, rfl⟩))
          go_ret
          exact ⟨_, rfl, .part _ hv.out, (HE.out.alloc _).trans HE1.out⟩
    · obtain rfl : k = ps.length := by omega
      have hv : Hid (wantsOk ps = inR ps.length 1 8) := Lib.hid (by
        have h := HR.out
        rw [List.drop_length] at h
        unfold wantsOk
        rw [← h]; rfl)
      go_wp2_with (first | (go_at_call 41; refine (within_any _ _ _ _).mono ?_; rintro e w' ⟨rfl, rfl⟩) | (go_at_call 24; refine (holds_part _ _ _).mono ?_; rintro e w' ⟨rfl, rfl⟩))
      go_ret
      exact ⟨_, rfl, by rw [hv.out]; exact Err.holds _ _ _, hE⟩
end Go.Proofs.YtcapapnhlkmeaaaDoor
namespace Go.Proofs.YtcapapnhlkmeaaaDoor
open Go.RowKit

theorem notGood_any (e : Ent) (w : World) (hin : e.inW w) : Calls Tryd.prog 57 #[.agg #[.int .i64 e.i, .int .i64 e.t, .int .i64 e.k, .slice e.bA e.bs.length e.bc]] w fun ev w' => ev = .returned (.bool (!e.good)) ∧ Ext w w' := by
  obtain ⟨hD, hb, hl⟩ := hin
  have HG := Lib.hid (fun w' (h : Ext w w') => good_any e.i e.t e.k e.bA e.bc e.bs w' (hD.ext h) hb hl)
  clear hb
  unfold Ent.good
  go_enter Tryd.func57, Tryd.ntmps57
  go_wp2_with (go_at_call 49; refine (HG.out _ ((Ext.refl w).alloc _)).mono ?_; rintro ev w1 ⟨rfl, hE1⟩)
  go_ret
  exact ⟨rfl, ((Ext.refl w).alloc _).trans hE1⟩

def idxBad : Nat → List Ent → Int
  | _, [] => -1
  | j, e :: es => if e.good = true then idxBad (j + 1) es else j
theorem idxBad_lt (j : Nat) (es : List Ent) : decide (0 ≤ idxBad j es) = !(es.all Ent.good) := by
  induction es generalizing j with
  | nil => rfl
  | cons e es ih =>
    unfold idxBad
    by_cases h : e.good = true
    · rw [if_pos h, ih]; simp [h]
    · rw [if_neg h]; simp [h]
def IdxRel (es : List Ent) (w0 : World) (i : Value) (wr : World) : Prop := ∃ k : Nat, k ≤ es.length ∧ i = .int .i64 k ∧ idxBad k (es.drop k) = idxBad 0 es ∧ Ext w0 wr
set_option maxRecDepth 100000 in
set_option maxHeartbeats 1000000 in
theorem index_any (A : Option Addr) (c : Nat) (es : List Ent) (w : World) (hA : EntsIn w A es) (hl : es.length ≤ maxLen) :
    Calls Tryd.prog 60 #[.slice A es.length c, .func (.func 57) #[] #[]] w fun ev w' => ev = .returned (.int .i64 (idxBad 0 es)) ∧ Ext w w' := by
  unfold maxLen at hl
  go_enter Tryd.func60, Tryd.ntmps60
  go_wp2
  go_loopw [8] (fun i wr => IdxRel es w i wr) (fun i _ => es.length - (intOf i).toNat)
  case atStart => exact ⟨0, Nat.zero_le _, rfl, rfl, Ext.refl _⟩
  case round =>
    obtain ⟨k, hk, rfl, hr, hE⟩ := hrel
    have HR := Lib.hid hr
    clear hr
    by_cases hlt : k < es.length
    · obtain ⟨b, f, e, rfl, he, c0, c1, c2, c3, hin⟩ := (hA.ext hE).at_ hlt
      have hbl : b < wr.heap.size := World.block_lt_of_cell? wr _ c0
      have HE := Lib.hid hE
      have HN := Lib.hid (notGood_any e wr hin)
      have HD := Lib.hid (drop_at he)
      clear hE hin he
      cases hg : e.good with
      | true =>
        have hv : Hid (idxBad k (es.drop k) = idxBad (k + 1) (es.drop (k + 1))) := Lib.hid (by rw [HD.out, idxBad, if_pos hg])
        rw [hg] at HN
        clear hg
        go_wp2_with (go_at_call 57; refine (HN.out).mono ?_; rintro ev w1 ⟨rfl, hE1⟩)
        go_roundw
        case rel => exact ⟨k + 1, by omega, by go_num, by rw [← hv.out]; exact HR.out, HE.out.trans hE1⟩
        case measure => simp [intOf]; omega
      | false =>
        have hv : Hid (idxBad 0 es = k) := Lib.hid (by rw [← HR.out, HD.out, idxBad, if_neg (by simp [hg])])
        rw [hg] at HN
        clear hg
        go_wp2_with (go_at_call 57; refine (HN.out).mono ?_; rintro ev w1 ⟨rfl, hE1⟩)
        go_ret
        exact ⟨by rw [hv.out]; rfl, HE.out.trans hE1⟩
    · obtain rfl : k = es.length := by omega
      have hv : Hid (idxBad 0 es = -1) := Lib.hid (by rw [← HR.out, List.drop_length]; rfl)
      go_wp2
      go_ret
      exact ⟨by rw [hv.out]; rfl, hE⟩
set_option maxRecDepth 100000 in
theorem contains_any (A : Option Addr) (c : Nat) (es : List Ent) (w : World) (hA : EntsIn w A es) (hl : es.length ≤ maxLen) :
    Calls Tryd.prog 56 #[.slice A es.length c, .func (.func 57) #[] #[]] w fun ev w' => ev = .returned (.bool (!(es.all Ent.good))) ∧ Ext w w' := by
  have HI := Lib.hid (index_any A c es w hA hl)
  have hv := Lib.hid (idxBad_lt 0 es)
  go_enter Tryd.func56, Tryd.ntmps56
  go_wp2_with (go_at_call 60; refine (HI.out).mono ?_; rintro ev w1 ⟨rfl, hE1⟩)
  go_ret
  exact ⟨by rw [← hv.out]; rfl, hE1⟩
def goodsOk (es : List Ent) : Bool := inR es.length 1 8 && es.all Ent.good
set_option maxRecDepth 100000 in
theorem goods_any (A : Option Addr) (c : Nat) (es : List Ent) (w : World) (hA : EntsIn w A es) (hl : es.length ≤ maxLen) :
    Calls Tryd.prog 47 #[.slice A es.length c] w (ErrPost 0 (goodsOk es) w) := by
  have HC := Lib.hid (contains_any A c es w hA hl)
  unfold maxLen at hl
  cases h1 : inR es.length 1 8 with
  | false =>
    have hv : Hid (goodsOk es = false) := Lib.hid (by simp [goodsOk, h1])
    rw [hv.out]
    go_enter Tryd.func47, Tryd.ntmps47
    go_wp2_with (first | (go_at_call 41; refine (within_any _ _ _ _).mono ?_; rintro e w' ⟨rfl, rfl⟩) | (go_at_call 24; refine (holds_part _ _ _).mono ?_; rintro e w' ⟨rfl, rfl⟩))
    go_ret
    exact ⟨_, rfl, Err.part _ rfl, Ext.refl _⟩
  | true =>
    have hv : Hid (goodsOk es = !(!(es.all Ent.good))) := Lib.hid (by simp [goodsOk, h1])
    rw [hv.out]
    go_enter Tryd.func47, Tryd.ntmps47
    go_wp2_with (first | (go_at_call 41; refine (within_any _ _ _ _).mono ?_; rintro e w' ⟨rfl, rfl⟩) | (go_at_call 56; refine (HC.out).mono ?_; rintro ev w1 ⟨rfl, hE1⟩) | (go_at_call 24; refine (holds_part _ _ _).mono ?_; rintro e w' ⟨rfl, rfl⟩))
    go_ret
    exact ⟨_, rfl, by first | exact Err.holds _ _ _ | (simp; exact Err.holds _ _ _), hE1⟩
end Go.Proofs.YtcapapnhlkmeaaaDoor
