/-
  errors.As at the entries' errors: the walk.
  told, Follows.
  wants, goods, aheads.
  goods.
  aheads.
-/
import Derived.Test.YtjnllilmimngoaaGreatDoorM4
namespace Go.Proofs.YtjnllilmimngoaaGreatDoor
open Go.RowKit Go.Extern.Stop Go.Stop Go.Extern

def AsPost (tb : Nat) (n : Int) (w : World) (e : Ending) (w' : World) : Prop := e = .returned (.bool true) ∧ w'.cell? ⟨tb, 0, none⟩ = some (.int .i64 n) ∧ Fr (isB tb) w w'

set_option maxRecDepth 100000 in
set_option maxHeartbeats 2000000 in
theorem as_broken4 (j tb ab : Nat) (old : Value) (w : World) (ha : w.cell? ⟨ab, 0, none⟩ = some (.pointer (some ⟨tb, 0, none⟩))) (ht : w.cell? ⟨tb, 0, none⟩ = some old) (hf : w.frozen? ⟨tb, 0, none⟩ = false) :
    Calls Tryz.prog 137 #[brokenV j 4, .iface 261 (.pointer (some ⟨tb, 0, none⟩)), .agg #[.pointer (some ⟨1, 261, none⟩), .pointer (some ⟨ab, 0, none⟩), .int .u64 150], .iface 216 (.agg #[.pointer (some ⟨1, 255, none⟩)])] w (AsPost tb 4 w) := by
  have x1 := Er.xTypeOf
  have x2 := Er.xAssignable
  have x3 := Er.xElemV
  have x4 := Er.xValueOf
  have x5 := Er.xSet
  have f1 := Er.typeOfB
  have f2 := Er.typeOfE
  have f3 := Er.methodAssignableR
  have f4 := Er.assignableB
  have f5 := Er.assignableE
  have f6 := Er.noAsB
  have f7 := Er.hasUnwrapB
  have f8 := Er.methodUnwrapB
  have f9 := Er.valueOfE 4
  have hta : tb < w.heap.size := World.block_lt_of_cell? w _ ht
  have haa : ab < w.heap.size := World.block_lt_of_cell? w _ ha
  have HA := Lib.hid ha
  have HT := Lib.hid ht
  have HF := Lib.hid hf
  clear ha ht hf
  unfold brokenV
  go_enter Tryz.func137, Tryz.ntmps137
  go_wp2
  refine wp_loop_rounds 2 ?_
  rw [rounds_succ]
  go_wp2_with (go_at_call 223; refine (unwrapB _ _ _ rfl).mono ?_; rintro e w1 ⟨rfl, hE1⟩)
  have g0 := hE1.blk (heap_alloc_new w _)
  have r0 := cell_of_heap g0 0
  have r1 := cell_of_heap g0 1
  have r2 := cell_of_heap g0 2
  simp at r0 r1 r2
  have hE2 : Ext w w1 := ((Ext.refl w).alloc _).trans hE1
  have el := Er.elemVPE ⟨ab, 0, none⟩ ⟨tb, 0, none⟩ w1 (hE2.cell HA.out)
  have st := Er.setE ⟨tb, 0, none⟩ ⟨w1.heap.size, 0, none⟩ 4 old (w1.alloc (.cells #[.int .i64 4] 255)) (by simp) (((Ext.refl _).alloc _).cell (hE2.cell HT.out)) (((Ext.refl _).alloc _).frozen (Nat.lt_of_lt_of_le hta hE2.sz) (hE2.frozen hta HF.out))
  have HE2 := Lib.hid hE2
  clear g0 hE1 hE2
  rw [rounds_succ]
  go_wp2
  go_ret
  refine ⟨rfl, ?_, ((Fr.ofExt (isB tb) HE2.out).alloc _).set (p := ⟨tb, 0, none⟩) (.inl rfl) _⟩
  rw [cellSet, ((Ext.refl _).alloc _).cell (HE2.out.cell HT.out)]
  rfl

def ErrT (w : World) : Prop := w.cell? ⟨0, 0, none⟩ = some (.iface 216 (.agg #[.pointer (some ⟨1, 101, none⟩)]))
theorem ErrT.ext {w w' : World} (h : ErrT w) (he : Ext w w') : ErrT w' := he.cell h
set_option maxRecDepth 100000 in
set_option maxHeartbeats 4000000 in
theorem As_broken4 (j tb : Nat) (old : Value) (w : World) (hg : ErrT w) (ht : w.cell? ⟨tb, 0, none⟩ = some old) (hf : w.frozen? ⟨tb, 0, none⟩ = false) :
    Calls Tryz.prog 91 #[brokenV j 4, .iface 261 (.pointer (some ⟨tb, 0, none⟩))] w (AsPost tb 4 w) := by
  have x1 := Er.xValueOf
  have x2 := Er.xType
  have x3 := Er.xKind
  have x4 := Er.xIsNil
  have x5 := Er.xElem
  have x6 := Er.xImplements
  have f1 := Er.valueOfPE ⟨tb, 0, none⟩
  have f2 := Er.typePE
  have f3 := Er.methodKindR
  have f4 := Er.kindPE
  have f5 := Er.methodElemR
  have f6 := Er.elemPE
  have f7 := Er.kindE
  have f8 := Er.methodImplementsR
  have f9 := Er.implementsE
  have hta : tb < w.heap.size := World.block_lt_of_cell? w _ ht
  have h0 : 0 < w.heap.size := World.block_lt_of_cell? w _ hg
  have n8 := Er.isNilPE ⟨w.heap.size, 0, none⟩ ⟨tb, 0, none⟩ ((w.alloc (.cells #[.pointer (some ⟨tb, 0, none⟩)] 261)).alloc (.cells #[.pointer (some ⟨1, 261, none⟩), .pointer (some ⟨w.heap.size, 0, none⟩), .int .u64 150] 208)) (by simp)
  have hg2 := (((Ext.refl w).alloc (.cells #[.pointer (some ⟨tb, 0, none⟩)] 261)).alloc (.cells #[.pointer (some ⟨1, 261, none⟩), .pointer (some ⟨w.heap.size, 0, none⟩), .int .u64 150] 208)).cell hg
  have hEW := ((Ext.refl w).alloc (.cells #[.pointer (some ⟨tb, 0, none⟩)] 261)).alloc (.cells #[.pointer (some ⟨1, 261, none⟩), .pointer (some ⟨w.heap.size, 0, none⟩), .int .u64 150] 208)
  have ht2 := Lib.hid (hEW.cell ht)
  have hf2 := Lib.hid (hEW.frozen hta hf)
  have HEW := Lib.hid hEW
  clear hg ht hf hEW
  have HA := Lib.hid (fun ab => as_broken4 j tb ab old)
  unfold brokenV at HA ⊢
  go_enter Tryz.func91, Tryz.ntmps91
  go_wp2_with (go_at_call 137; refine (HA.out _ _ (by simp) ht2.out hf2.out).mono ?_; rintro e w1 ⟨rfl, hc, hF⟩; have HC := Lib.hid hc; have HFF := Lib.hid hF; clear hc hF)
  go_ret
  exact ⟨rfl, HC.out, (Fr.ofExt (isB tb) HEW.out).trans HFF.out (fun _ _ h => h)⟩
end Go.Proofs.YtjnllilmimngoaaGreatDoor
namespace Go.Proofs.YtjnllilmimngoaaGreatDoor
open Go.RowKit

theorem told_nil (w : World) : Calls Tryz.prog 170 #[.nilIface] w fun e w' => e = .returned (.int .i64 0) ∧ Ext w w' := by
  go_enter Tryz.func170, Tryz.ntmps170
  go_wp2_with (go_at_call 91; refine (As_nil _ _).mono ?_; rintro e w' ⟨rfl, rfl⟩)
  go_ret
  exact ⟨rfl, (Ext.refl w).alloc _⟩
set_option maxRecDepth 100000 in
theorem told_4 (j : Nat) (w : World) (hg : ErrT w) : Calls Tryz.prog 170 #[brokenV j 4] w fun e w' => e = .returned (.int .i64 4) ∧ Ext w w' := by
  have HA := Lib.hid (fun tb old => As_broken4 j tb old)
  have HG := Lib.hid (hg.ext ((Ext.refl w).alloc (.cells #[.int .i64 0] 255)))
  clear hg
  unfold brokenV at HA ⊢
  go_enter Tryz.func170, Tryz.ntmps170
  go_wp2_with (go_at_call 91; refine (HA.out _ _ _ HG.out (cell_of_heap (heap_alloc_new w _) 0) (frozen_of_heap (heap_alloc_new w _) 0)).mono ?_; rintro e w1 ⟨rfl, hc, hF⟩; have HFF := Lib.hid hF; clear hF)
  go_ret
  exact ⟨rfl, ((Fr.ofExt (isB w.heap.size) ((Ext.refl w).alloc _)).trans HFF.out (fun _ _ h => h)).toExt (fun i hi => by unfold isB at hi; omega)⟩

theorem meetsN_cases (a : Id) (e : Ent) : meetsN a e = 0 ∨ meetsN a e = 4 ∨ meetsN a e = 12 := by
  unfold meetsN
  by_cases h1 : e.good = false
  · rw [if_pos h1]; simp
  · rw [if_neg h1]
    by_cases h2 : e.i - 1 = a.i ∧ a.t ≤ e.t
    · rw [if_pos h2]; simp
    · rw [if_neg h2]; simp
def followsN (a : Id) (es : List Ent) : Int := match rowE a 0 es with
  | none => 0
  | some (_, n) => n
theorem rowE_cases (a : Id) (j : Nat) (es : List Ent) : rowE a j es = none ∨ (∃ k, rowE a j es = some (k, 4)) ∨ ∃ k, rowE a j es = some (k, 12) := by
  induction es generalizing a j with
  | nil => exact .inl rfl
  | cons e es ih =>
    unfold rowE
    rcases meetsN_cases a e with h | h | h
    · rw [if_pos h]; exact ih _ _
    · rw [h]; exact .inr (.inl ⟨j, rfl⟩)
    · rw [h]; exact .inr (.inr ⟨j, rfl⟩)

set_option maxRecDepth 100000 in
set_option maxHeartbeats 1000000 in
theorem follows_any (p : Id) (A : Option Addr) (c : Nat) (es : List Ent) (w : World) (hA : EntsIn w A es) (hl : es.length ≤ maxLen) (hg : ErrT w) :
    Calls Tryz.prog 156 #[p.v, .slice A es.length c] w fun ev w' => ev = .returned (.int .i64 (followsN p es)) ∧ Ext w w' := by
  have HROW := Lib.hid (fun cb w' (h1 : Ext w w') (h2 : w.heap.size ≤ cb) => erow_any w cb p A c es w' h1 h2 hA hl)
  have HG := Lib.hid hg
  have HE2 := Lib.hid (((Ext.refl w).alloc (.cells #[.int .i64 p.i, .int .i64 p.t, .int .i64 p.k] 26)).alloc (.cells #[.int .i64 p.i, .int .i64 p.t, .int .i64 p.k] 254))
  have HB2 := Lib.hid (heap1 w (.cells #[.int .i64 p.i, .int .i64 p.t, .int .i64 p.k] 26) (.cells #[.int .i64 p.i, .int .i64 p.t, .int .i64 p.k] 254))
  clear hA hl hg
  rcases rowE_cases p 0 es with h | ⟨k, h⟩ | ⟨k, h⟩
  · have RV : Hid (rowV (rowE p 0 es) = .nilIface) := Lib.hid (by rw [h]; rfl)
    have hv : Hid (followsN p es = 0) := Lib.hid (by simp [followsN, h])
    clear h
    rw [hv.out]
    have HI := Lib.hid (fun w => Is_nilE 12 w)
    unfold numE at HI
    unfold Id.v idV
    go_enter Tryz.func156, Tryz.ntmps156
    go_wp2_with fail
    refine (HROW.out _ _ HE2.out (by simp) HB2.out).mono ?_
    rintro ev w1 ⟨rfl, hE1⟩
    rw [RV.out]
    have HE1 := Lib.hid hE1
    clear hE1
    go_wp2_with (first | (go_at_call 50; refine (HI.out _).mono ?_; rintro e w' ⟨rfl, rfl⟩) | (go_at_call 170; refine (told_nil _).mono ?_; rintro e w2 ⟨rfl, hE2⟩))
    go_ret
    exact ⟨rfl, HE1.out.trans hE2⟩
  · have RV : Hid (rowV (rowE p 0 es) = brokenV k 4) := Lib.hid (by rw [h]; rfl)
    have hv : Hid (followsN p es = 4) := Lib.hid (by simp [followsN, h])
    clear h
    rw [hv.out]
    have HI := Lib.hid (fun w => Is_broken4 k w)
    have HTD := Lib.hid (fun w => told_4 k w)
    unfold numE brokenV at HI
    unfold brokenV at HTD
    unfold Id.v idV
    go_enter Tryz.func156, Tryz.ntmps156
    go_wp2_with fail
    refine (HROW.out _ _ HE2.out (by simp) HB2.out).mono ?_
    rintro ev w1 ⟨rfl, hE1⟩
    rw [RV.out]
    unfold brokenV
    have HE1 := Lib.hid hE1
    clear hE1
    go_wp2_with fail
    refine (HI.out _).mono ?_
    rintro e w2 ⟨rfl, hE2⟩
    have HE22 := Lib.hid (HE1.out.trans hE2)
    clear hE2
    go_wp2_with fail
    refine (HTD.out _ (HG.out.ext HE22.out)).mono ?_
    rintro e w3 ⟨rfl, hE3⟩
    go_wp2
    go_ret
    exact ⟨rfl, HE22.out.trans hE3⟩
  · have RV : Hid (rowV (rowE p 0 es) = brokenV k 12) := Lib.hid (by rw [h]; rfl)
    have hv : Hid (followsN p es = 12) := Lib.hid (by simp [followsN, h])
    clear h
    rw [hv.out]
    have HI := Lib.hid (fun w => Is_broken12 k w)
    unfold numE brokenV at HI
    unfold Id.v idV
    go_enter Tryz.func156, Tryz.ntmps156
    go_wp2_with fail
    refine (HROW.out _ _ HE2.out (by simp) HB2.out).mono ?_
    rintro ev w1 ⟨rfl, hE1⟩
    rw [RV.out]
    unfold brokenV
    have HE1 := Lib.hid hE1
    clear hE1
    go_wp2_with fail
    refine (HI.out _).mono ?_
    rintro e w2 ⟨rfl, hE2⟩
    have HE22 := Lib.hid (HE1.out.trans hE2)
    clear hE2
    go_wp2
    go_ret
    exact ⟨rfl, HE22.out⟩
end Go.Proofs.YtjnllilmimngoaaGreatDoor
namespace Go.Proofs.YtjnllilmimngoaaGreatDoor
open Go.RowKit

def Err (d : Nat) (w : World) (ok : Bool) (v : Value) : Prop := if ok = true then v = .nilIface else Bad d w v
def ErrPost (d : Nat) (ok : Bool) (w : World) (e : Ending) (w' : World) : Prop := ∃ v, e = .returned v ∧ Err d w' ok v ∧ Ext w w'
theorem Err.holds (s : ByteArray) (ok : Bool) (w : World) : Err 0 w ok (holdsV s ok) := by
  cases ok
  · exact ⟨s, rfl⟩
  · exact rfl
theorem Err.nil {d : Nat} {w : World} {ok : Bool} (h : ok = true) : Err d w ok .nilIface := by subst h; rfl
theorem Err.part {d : Nat} {w : World} {ok : Bool} (s : ByteArray) (h : ok = false) : Err d w ok (partV s) := by
  subst h
  show Bad d w _
  exact Bad.le (d := 0) ⟨s, rfl⟩ (Nat.zero_le _)
theorem Err.le {d k : Nat} {w : World} {ok : Bool} {v : Value} (h : Err d w ok v) (hk : d ≤ k) : Err k w ok v := by
  cases ok
  · exact Bad.le (d := d) h hk
  · exact h
theorem Err.ext {d : Nat} {w w' : World} {ok : Bool} {v : Value} (h : Err d w ok v) (he : Ext w w') : Err d w' ok v := by
  cases ok
  · exact Bad.ext (d := d) h he
  · exact h

def risingW (a : Int) : List Id → Bool
  | [] => true
  | p :: ps => p.some_ && (decide (a < p.i) && risingW p.i ps)
def wantsOk (ps : List Id) : Bool := risingW 0 ps && inR ps.length 1 8
theorem rising_step {a : Int} {k : Nat} {ps : List Id} {p : Id} (h : ps[k]? = some p) : risingW a (ps.drop k) = (p.some_ && (decide (a < p.i) && risingW p.i (ps.drop (k + 1)))) := by
  rw [drop_at h, risingW]
def WantRel (ps : List Id) (w0 : World) (at_ i : Value) (wr : World) : Prop :=
  ∃ (k : Nat) (a : Int), k ≤ ps.length ∧ i = .int .i64 k ∧ at_ = .int .i64 a ∧ risingW a (ps.drop k) = risingW 0 ps ∧ Ext w0 wr

set_option maxRecDepth 100000 in
set_option maxHeartbeats 1000000 in
theorem wants_any (A : Option Addr) (c : Nat) (ps : List Id) (w : World) (hA : IdsIn w A ps) (hl : ps.length ≤ maxLen) :
    Calls Tryz.prog 160 #[.slice A ps.length c] w (ErrPost 0 (wantsOk ps) w) := by
  unfold maxLen at hl
  go_enter Tryz.func160, Tryz.ntmps160
  go_wp2
  go_loopw [3, 8] (fun a i wr => WantRel ps w a i wr) (fun _ i _ => ps.length - (intOf i).toNat)
  case atStart => exact ⟨0, 0, Nat.zero_le _, rfl, rfl, rfl, Ext.refl _⟩
  case round =>
    obtain ⟨k, a, hk, rfl, rfl, hr, hE⟩ := hrel
    have HR := Lib.hid hr
    clear hr
    by_cases hlt : k < ps.length
    · obtain ⟨b, f, p, rfl, hp, c0, c1, c2⟩ := (hA.ext hE).at_ hlt
      have hbl : b < wr.heap.size := World.block_lt_of_cell? wr _ c0
      have HE := Lib.hid hE
      have HS := Lib.hid (rising_step (a := a) hp)
      clear hE hp
      have HSO := Lib.hid (fun w => someones_any p.i p.t p.k w)
      unfold idV at HSO
      cases hs : someI p.i p.t p.k with
      | false =>
        have hv : Hid (wantsOk ps = false) := Lib.hid (by unfold wantsOk; rw [← HR.out, HS.out]; simp [Id.some_, hs])
        go_wp2_with (first | (go_at_call 159; refine (HSO.out _).mono ?_; rintro e w1 ⟨rfl, hE1⟩; have HE1 := Lib.hid hE1; clear hE1) | (go_at_call 132; refine (holds_part _ _ _).mono ?_; rintro e w' ⟨rfl, rfl⟩))
        go_ret
        exact ⟨_, rfl, .part _ hv.out, (HE.out.alloc _).trans HE1.out⟩
      | true =>
        by_cases hp : a < p.i
        · have dp : decide (p.i ≤ a) = false := by simp; omega
          have hv : Hid (risingW a (ps.drop k) = risingW p.i (ps.drop (k + 1))) := Lib.hid (by rw [HS.out]; simp [Id.some_, hs, hp])
          go_wp2_with (go_at_call 159; refine (HSO.out _).mono ?_; rintro e w1 ⟨rfl, hE1⟩; have g0 := hE1.blk (heap_alloc_new wr _); have r0 := cell_of_heap g0 0; simp at r0; have HE1 := Lib.hid hE1; clear hE1 g0)
          go_roundw
          case rel => exact ⟨k + 1, p.i, by omega, by go_num, rfl, by rw [← hv.out]; exact HR.out, (HE.out.alloc _).trans HE1.out⟩
          case measure => simp [intOf]; omega
        · have dp : decide (p.i ≤ a) = true := by simp; omega
          have hv : Hid (wantsOk ps = false) := Lib.hid (by unfold wantsOk; rw [← HR.out, HS.out]; simp [hp])
          go_wp2_with (first | (go_at_call 159; refine (HSO.out _).mono ?_; rintro e w1 ⟨rfl, hE1⟩; have g0 := hE1.blk (heap_alloc_new wr _); have r0 := cell_of_heap g0 0; simp at r0; have HE1 := Lib.hid hE1; clear hE1 g0) | (go_at_call 132; refine (holds_part _ _ _).mono ?_; rintro e w' ⟨rfl, rfl⟩))
          go_ret
          exact ⟨_, rfl, .part _ hv.out, (HE.out.alloc _).trans HE1.out⟩
    · obtain rfl : k = ps.length := by omega
      have hv : Hid (wantsOk ps = inR ps.length 1 8) := Lib.hid (by
        have h := HR.out
        rw [List.drop_length] at h
        unfold wantsOk
        rw [← h]; rfl)
      go_wp2_with (first | (go_at_call 154; refine (within_any _ _ _ _).mono ?_; rintro e w' ⟨rfl, rfl⟩) | (go_at_call 132; refine (holds_part _ _ _).mono ?_; rintro e w' ⟨rfl, rfl⟩))
      go_ret
      exact ⟨_, rfl, by rw [hv.out]; exact Err.holds _ _ _, hE⟩
end Go.Proofs.YtjnllilmimngoaaGreatDoor
namespace Go.Proofs.YtjnllilmimngoaaGreatDoor
open Go.RowKit

theorem notGood_any (e : Ent) (w : World) (hin : e.inW w) : Calls Tryz.prog 174 #[.agg #[.int .i64 e.i, .int .i64 e.t, .int .i64 e.k, .slice e.bA e.bs.length e.bc]] w fun ev w' => ev = .returned (.bool (!e.good)) ∧ Ext w w' := by
  obtain ⟨hD, hb, hl⟩ := hin
  have HG := Lib.hid (fun w' (h : Ext w w') => good_any e.i e.t e.k e.bA e.bc e.bs w' (hD.ext h) hb hl)
  clear hb
  unfold Ent.good
  go_enter Tryz.func174, Tryz.ntmps174
  go_wp2_with (go_at_call 175; refine (HG.out _ ((Ext.refl w).alloc _)).mono ?_; rintro ev w1 ⟨rfl, hE1⟩)
  go_ret
  exact ⟨rfl, ((Ext.refl w).alloc _).trans hE1⟩

def idxBad : Nat → List Ent → Int
  | _, [] => -1
  | j, e :: es => if e.good = true then idxBad (j + 1) es else j
theorem idxBad_lt (j : Nat) (es : List Ent) : decide (0 ≤ idxBad j es) = !(es.all Ent.good) := by
  induction es generalizing j with
  | nil => rfl
  | cons e es ih =>
    unfold idxBad
    by_cases h : e.good = true
    · rw [if_pos h, ih]; simp [h]
    · rw [if_neg h]; simp [h]
def IdxRel (es : List Ent) (w0 : World) (i : Value) (wr : World) : Prop := ∃ k : Nat, k ≤ es.length ∧ i = .int .i64 k ∧ idxBad k (es.drop k) = idxBad 0 es ∧ Ext w0 wr
set_option maxRecDepth 100000 in
set_option maxHeartbeats 1000000 in
theorem index_any (A : Option Addr) (c : Nat) (es : List Ent) (w : World) (hA : EntsIn w A es) (hl : es.length ≤ maxLen) :
    Calls Tryz.prog 178 #[.slice A es.length c, .func (.func 174) #[] #[]] w fun ev w' => ev = .returned (.int .i64 (idxBad 0 es)) ∧ Ext w w' := by
  unfold maxLen at hl
  go_enter Tryz.func178, Tryz.ntmps178
  go_wp2
  go_loopw [8] (fun i wr => IdxRel es w i wr) (fun i _ => es.length - (intOf i).toNat)
  case atStart => exact ⟨0, Nat.zero_le _, rfl, rfl, Ext.refl _⟩
  case round =>
    obtain ⟨k, hk, rfl, hr, hE⟩ := hrel
    have HR := Lib.hid hr
    clear hr
    by_cases hlt : k < es.length
    · obtain ⟨b, f, e, rfl, he, c0, c1, c2, c3, hin⟩ := (hA.ext hE).at_ hlt
      have hbl : b < wr.heap.size := World.block_lt_of_cell? wr _ c0
      have HE := Lib.hid hE
      have HN := Lib.hid (notGood_any e wr hin)
      have HD := Lib.hid (drop_at he)
      clear hE hin he
      cases hg : e.good with
      | true =>
        have hv : Hid (idxBad k (es.drop k) = idxBad (k + 1) (es.drop (k + 1))) := Lib.hid (by rw [HD.out, idxBad, if_pos hg])
        rw [hg] at HN
        clear hg
        go_wp2_with (go_at_call 174; refine (HN.out).mono ?_; rintro ev w1 ⟨rfl, hE1⟩)
        go_roundw
        case rel => exact ⟨k + 1, by omega, by go_num, by rw [← hv.out]; exact HR.out, HE.out.trans hE1⟩
        case measure => simp [intOf]; omega
      | false =>
        have hv : Hid (idxBad 0 es = k) := Lib.hid (by rw [← HR.out, HD.out, idxBad, if_neg (by simp [hg])])
        rw [hg] at HN
        clear hg
        go_wp2_with (go_at_call 174; refine (HN.out).mono ?_; rintro ev w1 ⟨rfl, hE1⟩)
        go_ret
        exact ⟨by rw [hv.out]; rfl, HE.out.trans hE1⟩
    · obtain rfl : k = es.length := by omega
      have hv : Hid (idxBad 0 es = -1) := Lib.hid (by rw [← HR.out, List.drop_length]; rfl)
      go_wp2
      go_ret
      exact ⟨by rw [hv.out]; rfl, hE⟩
set_option maxRecDepth 100000 in
theorem contains_any (A : Option Addr) (c : Nat) (es : List Ent) (w : World) (hA : EntsIn w A es) (hl : es.length ≤ maxLen) :
    Calls Tryz.prog 173 #[.slice A es.length c, .func (.func 174) #[] #[]] w fun ev w' => ev = .returned (.bool (!(es.all Ent.good))) ∧ Ext w w' := by
  have HI := Lib.hid (index_any A c es w hA hl)
  have hv := Lib.hid (idxBad_lt 0 es)
  go_enter Tryz.func173, Tryz.ntmps173
  go_wp2_with (go_at_call 178; refine (HI.out).mono ?_; rintro ev w1 ⟨rfl, hE1⟩)
  go_ret
  exact ⟨by rw [← hv.out]; rfl, hE1⟩
def goodsOk (es : List Ent) : Bool := inR es.length 1 8 && es.all Ent.good
set_option maxRecDepth 100000 in
theorem goods_any (A : Option Addr) (c : Nat) (es : List Ent) (w : World) (hA : EntsIn w A es) (hl : es.length ≤ maxLen) :
    Calls Tryz.prog 161 #[.slice A es.length c] w (ErrPost 0 (goodsOk es) w) := by
  have HC := Lib.hid (contains_any A c es w hA hl)
  unfold maxLen at hl
  cases h1 : inR es.length 1 8 with
  | false =>
    have hv : Hid (goodsOk es = false) := Lib.hid (by simp [goodsOk, h1])
    rw [hv.out]
    go_enter Tryz.func161, Tryz.ntmps161
    go_wp2_with (first | (go_at_call 154; refine (within_any _ _ _ _).mono ?_; rintro e w' ⟨rfl, rfl⟩) | (go_at_call 132; refine (holds_part _ _ _).mono ?_; rintro e w' ⟨rfl, rfl⟩))
    go_ret
    exact ⟨_, rfl, Err.part _ rfl, Ext.refl _⟩
  | true =>
    have hv : Hid (goodsOk es = !(!(es.all Ent.good))) := Lib.hid (by simp [goodsOk, h1])
    rw [hv.out]
    go_enter Tryz.func161, Tryz.ntmps161
    go_wp2_with (first | (go_at_call 154; refine (within_any _ _ _ _).mono ?_; rintro e w' ⟨rfl, rfl⟩) | (go_at_call 173; refine (HC.out).mono ?_; rintro ev w1 ⟨rfl, hE1⟩) | (go_at_call 132; refine (holds_part _ _ _).mono ?_; rintro e w' ⟨rfl, rfl⟩))
    go_ret
    exact ⟨_, rfl, by first | exact Err.holds _ _ _ | (simp; exact Err.holds _ _ _), hE1⟩
end Go.Proofs.YtjnllilmimngoaaGreatDoor
namespace Go.Proofs.YtjnllilmimngoaaGreatDoor
open Go.RowKit

def aheadAt (e : Ent) (p : Id) : Bool := p.right && (!(p.i != IntKind.i64.wrap (e.i - 1)) && !(decide (e.t < p.t)))
def aheadsL : List Ent → List Id → Bool
  | e :: es, p :: ps => aheadAt e p && aheadsL es ps
  | _, _ => true
def aheadsOk (es : List Ent) (ps : List Id) : Bool := decide (ps.length = es.length) && aheadsL es ps
def AheadRel (es : List Ent) (ps : List Id) (w0 : World) (i : Value) (wr : World) : Prop := ∃ k : Nat, k ≤ es.length ∧ i = .int .i64 k ∧ aheadsL (es.drop k) (ps.drop k) = aheadsL es ps ∧ Ext w0 wr

set_option maxRecDepth 100000 in
set_option maxHeartbeats 4000000 in
theorem aheads_any (A : Option Addr) (c : Nat) (es : List Ent) (D : Option Addr) (d : Nat) (ps : List Id) (w : World) (hA : EntsIn w A es) (hD : IdsIn w D ps) (hl : es.length ≤ maxLen) (_hl2 : ps.length ≤ maxLen) :
    Calls Tryz.prog 162 #[.slice A es.length c, .slice D ps.length d] w (ErrPost 0 (aheadsOk es ps) w) := by
  unfold maxLen at hl _hl2
  by_cases hn : ps.length = es.length
  · have dn : ((ps.length : Int) != (es.length : Int)) = false := by simp; omega
    have HN := Lib.hid hn
    have hv0 : Hid (aheadsOk es ps = aheadsL es ps) := Lib.hid (by simp [aheadsOk, hn])
    clear hn
    go_enter Tryz.func162, Tryz.ntmps162
    go_wp2_with fail
    go_loopw [15] (fun i wr => AheadRel es ps w i wr) (fun i _ => es.length - (intOf i).toNat)
    case atStart => exact ⟨0, Nat.zero_le _, rfl, rfl, Ext.refl _⟩
    case round =>
      obtain ⟨k, hk, rfl, hr, hE⟩ := hrel
      have HR := Lib.hid hr
      clear hr
      by_cases hlt : k < es.length
      · have hlt2 : k < ps.length := by have := HN.out; omega
        obtain ⟨b, f, e, rfl, he, c0, c1, c2, c3, hin⟩ := (hA.ext hE).at_ hlt
        obtain ⟨b2, f2, p, rfl, hp, d0, d1, d2⟩ := (hD.ext hE).at_ hlt2
        have hbl : b < wr.heap.size := World.block_lt_of_cell? wr _ c0
        have hbl2 : b2 < wr.heap.size := World.block_lt_of_cell? wr _ d0
        have HE := Lib.hid hE
        have HD := Lib.hid (show aheadsL (es.drop k) (ps.drop k) = (aheadAt e p && aheadsL (es.drop (k + 1)) (ps.drop (k + 1))) by rw [drop_at he, drop_at hp, aheadsL])
        have HRI := Lib.hid (fun w => rightId_any p.i p.t p.k w)
        unfold idV at HRI
        clear hE hin he hp
        go_wp2_with fail
        have EB := Lib.hid (heap_alloc_new wr (.cells #[.int .i64 e.i, .int .i64 e.t, .int .i64 e.k, .slice e.bA e.bs.length e.bc] 121))
        have D0 := Lib.hid (((Ext.refl wr).alloc (.cells #[.int .i64 e.i, .int .i64 e.t, .int .i64 e.k, .slice e.bA e.bs.length e.bc] 121)).cell d0)
        have D1 := Lib.hid (((Ext.refl wr).alloc (.cells #[.int .i64 e.i, .int .i64 e.t, .int .i64 e.k, .slice e.bA e.bs.length e.bc] 121)).cell d1)
        have D2 := Lib.hid (((Ext.refl wr).alloc (.cells #[.int .i64 e.i, .int .i64 e.t, .int .i64 e.k, .slice e.bA e.bs.length e.bc] 121)).cell d2)
        clear c0 c1 c2 c3 d0 d1 d2
        cases h1 : rightI p.i p.t p.k with
        | false =>
          have hv : Hid (aheadsOk es ps = false) := Lib.hid (by rw [hv0.out, ← HR.out, HD.out]; simp [aheadAt, Id.right, h1])
          simp only [h1] at HRI
          clear h1
          refine Stab.wp_region_lex Ext (Ext _) (fun _ => True) (by kernel_rfl) (by kernel_rfl) (fun _ _ h => h) (fun _ _ h k => Ext.trans h k) (fun _ _ _ _ => trivial) ((Ext.refl _).drew) trivial ?_
          simp only [Stab.zipL, Nat.reduceAdd]
          repeat (first
            | (refine Stab.wpX_skip rfl ?_; simp only [Act.put, List.setIfInBounds_toArray, List.set_cons_zero, List.set_cons_succ])
            | (refine Stab.wpX_val rfl rfl ?_; apply Exists.intro; refine ⟨fun wx hC _ => ?_, ?_⟩; (have g1 := hC.blk EB.out; have r0 := cell_of_heap g1 0; have r1 := cell_of_heap g1 1; have q0 := hC.cell D0.out; have q1 := hC.cell D1.out; have q2 := hC.cell D2.out; simp at r0 r1; clear g1; go_simp; exact ⟨Ext.refl _, rfl⟩); simp only [Act.put, List.setIfInBounds_toArray, List.set_cons_zero, List.set_cons_succ])
            | (refine Stab.wpX_call1 rfl rfl (fun _ _ _ _ => trivial) ?_; apply Exists.intro; refine ⟨fun wx hC _ _ => ?_, ?_⟩; (go_simp; refine ⟨rfl, ?_⟩; refine (HRI.out _).mono ?_; rintro ev w9 ⟨rfl, hb9⟩; (first | exact ⟨hb9, rfl, trivial⟩ | exact ⟨hb9, rfl⟩)); simp only [Act.put, List.setIfInBounds_toArray, List.set_cons_zero, List.set_cons_succ]))
          refine Stab.wpX_end fun w8 hC8 _ _ => ?_
          have HC8 := Lib.hid (HE.out.trans (((Ext.refl _).alloc _).trans hC8))
          clear hC8
          go_wp2_with (go_at_call 132; refine (holds_part _ _ _).mono ?_; rintro e w' ⟨rfl, rfl⟩)
          go_ret
          exact ⟨_, rfl, .part _ hv.out, HC8.out⟩
        | true =>
          cases h2 : (p.i != IntKind.i64.wrap (e.i - 1)) with
          | true =>
            have hv : Hid (aheadsOk es ps = false) := Lib.hid (by rw [hv0.out, ← HR.out, HD.out]; simp only [aheadAt, h2]; simp)
            simp only [h1] at HRI
            clear h1
            refine Stab.wp_region_lex Ext (Ext _) (fun _ => True) (by kernel_rfl) (by kernel_rfl) (fun _ _ h => h) (fun _ _ h k => Ext.trans h k) (fun _ _ _ _ => trivial) ((Ext.refl _).drew) trivial ?_
            simp only [Stab.zipL, Nat.reduceAdd]
            repeat (first
              | (refine Stab.wpX_skip rfl ?_; simp only [Act.put, List.setIfInBounds_toArray, List.set_cons_zero, List.set_cons_succ])
              | (refine Stab.wpX_val rfl rfl ?_; apply Exists.intro; refine ⟨fun wx hC _ => ?_, ?_⟩; (have g1 := hC.blk EB.out; have r0 := cell_of_heap g1 0; have r1 := cell_of_heap g1 1; have q0 := hC.cell D0.out; have q1 := hC.cell D1.out; have q2 := hC.cell D2.out; simp at r0 r1; clear g1; go_simp; exact ⟨Ext.refl _, rfl⟩); simp only [Act.put, List.setIfInBounds_toArray, List.set_cons_zero, List.set_cons_succ])
              | (refine Stab.wpX_call1 rfl rfl (fun _ _ _ _ => trivial) ?_; apply Exists.intro; refine ⟨fun wx hC _ _ => ?_, ?_⟩; (go_simp; refine ⟨rfl, ?_⟩; refine (HRI.out _).mono ?_; rintro ev w9 ⟨rfl, hb9⟩; (first | exact ⟨hb9, rfl, trivial⟩ | exact ⟨hb9, rfl⟩)); simp only [Act.put, List.setIfInBounds_toArray, List.set_cons_zero, List.set_cons_succ]))
            refine Stab.wpX_end fun w8 hC8 _ _ => ?_
            have HC8 := Lib.hid (HE.out.trans (((Ext.refl _).alloc _).trans hC8))
            clear hC8
            go_wp2_with (go_at_call 132; refine (holds_part _ _ _).mono ?_; rintro e w' ⟨rfl, rfl⟩)
            go_ret
            exact ⟨_, rfl, .part _ hv.out, HC8.out⟩
          | false =>
            cases h3 : decide (e.t < p.t) with
            | true =>
              have hv : Hid (aheadsOk es ps = false) := Lib.hid (by rw [hv0.out, ← HR.out, HD.out]; simp only [aheadAt, h3]; simp)
              simp only [h1] at HRI
              clear h1
              refine Stab.wp_region_lex Ext (Ext _) (fun _ => True) (by kernel_rfl) (by kernel_rfl) (fun _ _ h => h) (fun _ _ h k => Ext.trans h k) (fun _ _ _ _ => trivial) ((Ext.refl _).drew) trivial ?_
              simp only [Stab.zipL, Nat.reduceAdd]
              repeat (first
                | (refine Stab.wpX_skip rfl ?_; simp only [Act.put, List.setIfInBounds_toArray, List.set_cons_zero, List.set_cons_succ])
                | (refine Stab.wpX_val rfl rfl ?_; apply Exists.intro; refine ⟨fun wx hC _ => ?_, ?_⟩; (have g1 := hC.blk EB.out; have r0 := cell_of_heap g1 0; have r1 := cell_of_heap g1 1; have q0 := hC.cell D0.out; have q1 := hC.cell D1.out; have q2 := hC.cell D2.out; simp at r0 r1; clear g1; go_simp; exact ⟨Ext.refl _, rfl⟩); simp only [Act.put, List.setIfInBounds_toArray, List.set_cons_zero, List.set_cons_succ])
                | (refine Stab.wpX_call1 rfl rfl (fun _ _ _ _ => trivial) ?_; apply Exists.intro; refine ⟨fun wx hC _ _ => ?_, ?_⟩; (go_simp; refine ⟨rfl, ?_⟩; refine (HRI.out _).mono ?_; rintro ev w9 ⟨rfl, hb9⟩; (first | exact ⟨hb9, rfl, trivial⟩ | exact ⟨hb9, rfl⟩)); simp only [Act.put, List.setIfInBounds_toArray, List.set_cons_zero, List.set_cons_succ]))
              refine Stab.wpX_end fun w8 hC8 _ _ => ?_
              have HC8 := Lib.hid (HE.out.trans (((Ext.refl _).alloc _).trans hC8))
              clear hC8
              go_wp2_with (go_at_call 132; refine (holds_part _ _ _).mono ?_; rintro e w' ⟨rfl, rfl⟩)
              go_ret
              exact ⟨_, rfl, .part _ hv.out, HC8.out⟩
            | false =>
              have hv : Hid (aheadsL (es.drop k) (ps.drop k) = aheadsL (es.drop (k + 1)) (ps.drop (k + 1))) := Lib.hid (by rw [HD.out]; simp only [aheadAt, Id.right, h1, h2, h3]; simp)
              simp only [h1] at HRI
              clear h1
              refine Stab.wp_region_lex Ext (Ext _) (fun _ => True) (by kernel_rfl) (by kernel_rfl) (fun _ _ h => h) (fun _ _ h k => Ext.trans h k) (fun _ _ _ _ => trivial) ((Ext.refl _).drew) trivial ?_
              simp only [Stab.zipL, Nat.reduceAdd]
              repeat (first
                | (refine Stab.wpX_skip rfl ?_; simp only [Act.put, List.setIfInBounds_toArray, List.set_cons_zero, List.set_cons_succ])
                | (refine Stab.wpX_val rfl rfl ?_; apply Exists.intro; refine ⟨fun wx hC _ => ?_, ?_⟩; (have g1 := hC.blk EB.out; have r0 := cell_of_heap g1 0; have r1 := cell_of_heap g1 1; have q0 := hC.cell D0.out; have q1 := hC.cell D1.out; have q2 := hC.cell D2.out; simp at r0 r1; clear g1; go_simp; exact ⟨Ext.refl _, rfl⟩); simp only [Act.put, List.setIfInBounds_toArray, List.set_cons_zero, List.set_cons_succ])
                | (refine Stab.wpX_call1 rfl rfl (fun _ _ _ _ => trivial) ?_; apply Exists.intro; refine ⟨fun wx hC _ _ => ?_, ?_⟩; (go_simp; refine ⟨rfl, ?_⟩; refine (HRI.out _).mono ?_; rintro ev w9 ⟨rfl, hb9⟩; (first | exact ⟨hb9, rfl, trivial⟩ | exact ⟨hb9, rfl⟩)); simp only [Act.put, List.setIfInBounds_toArray, List.set_cons_zero, List.set_cons_succ]))
              refine Stab.wpX_end fun w8 hC8 _ _ => ?_
              have HC8 := Lib.hid (HE.out.trans (((Ext.refl _).alloc _).trans hC8))
              clear hC8
              go_wp2_with fail
              go_roundw
              case rel => exact ⟨k + 1, by omega, by go_num, by rw [← hv.out]; exact HR.out, HC8.out⟩
              case measure => simp [intOf]; omega
      · obtain rfl : k = es.length := by omega
        have hv : Hid (aheadsOk es ps = true) := Lib.hid (by rw [hv0.out, ← HR.out, List.drop_length]; cases List.drop es.length ps <;> rfl)
        go_wp2_with fail
        go_ret
        exact ⟨_, rfl, .nil hv.out, hE⟩
  · have dn : ((ps.length : Int) != (es.length : Int)) = true := by simp; omega
    have hv : Hid (aheadsOk es ps = false) := Lib.hid (by simp [aheadsOk, hn])
    clear hn
    go_enter Tryz.func162, Tryz.ntmps162
    go_wp2_with (go_at_call 132; refine (holds_part _ _ _).mono ?_; rintro e w' ⟨rfl, rfl⟩)
    go_ret
    exact ⟨_, rfl, .part _ hv.out, Ext.refl _⟩
end Go.Proofs.YtjnllilmimngoaaGreatDoor
