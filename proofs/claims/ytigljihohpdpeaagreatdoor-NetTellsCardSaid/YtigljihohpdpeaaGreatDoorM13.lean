/-
  wants, goods, aheads.
  goods.
  aheads.
-/
import Derived.Test.YtigljihohpdpeaaGreatDoorM12
namespace Go.Proofs.YtigljihohpdpeaaGreatDoor
open Go.RowKit

def Err (d : Nat) (w : World) (ok : Bool) (v : Value) : Prop := if ok = true then v = .nilIface else Bad d w v
def ErrPost (d : Nat) (ok : Bool) (w : World) (e : Ending) (w' : World) : Prop := ∃ v, e = .returned v ∧ Err d w' ok v ∧ Ext w w'
theorem Err.holds (s : ByteArray) (ok : Bool) (w : World) : Err 0 w ok (holdsV s ok) := by
  cases ok
  · exact ⟨s, rfl⟩
  · exact rfl
theorem Err.nil {d : Nat} {w : World} {ok : Bool} (h : ok = true) : Err d w ok .nilIface := by subst h; rfl
theorem Err.part {d : Nat} {w : World} {ok : Bool} (s : ByteArray) (h : ok = false) : Err d w ok (partV s) := by
  subst h
  show Bad d w _
  exact Bad.le (d := 0) ⟨s, rfl⟩ (Nat.zero_le _)
theorem Err.le {d k : Nat} {w : World} {ok : Bool} {v : Value} (h : Err d w ok v) (hk : d ≤ k) : Err k w ok v := by
  cases ok
  · exact Bad.le (d := d) h hk
  · exact h
theorem Err.ext {d : Nat} {w w' : World} {ok : Bool} {v : Value} (h : Err d w ok v) (he : Ext w w') : Err d w' ok v := by
  cases ok
  · exact Bad.ext (d := d) h he
  · exact h

def risingW (a : Int) : List Id → Bool
  | [] => true
  | p :: ps => p.some_ && (decide (a < p.i) && risingW p.i ps)
def wantsOk (ps : List Id) : Bool := risingW 0 ps && inR ps.length 1 8
theorem rising_step {a : Int} {k : Nat} {ps : List Id} {p : Id} (h : ps[k]? = some p) : risingW a (ps.drop k) = (p.some_ && (decide (a < p.i) && risingW p.i (ps.drop (k + 1)))) := by
  rw [drop_at h, risingW]
def WantRel (ps : List Id) (w0 : World) (at_ i : Value) (wr : World) : Prop :=
  ∃ (k : Nat) (a : Int), k ≤ ps.length ∧ i = .int .i64 k ∧ at_ = .int .i64 a ∧ risingW a (ps.drop k) = risingW 0 ps ∧ Ext w0 wr

set_option maxRecDepth 100000 in
set_option maxHeartbeats 1000000 in
theorem wants_any (A : Option Addr) (c : Nat) (ps : List Id) (w : World) (hA : IdsIn w A ps) (hl : ps.length ≤ maxLen) :
    Calls Tryz.prog 64 #[.slice A ps.length c] w (ErrPost 0 (wantsOk ps) w) := by
  unfold maxLen at hl
  go_enter Tryz.func64, Tryz.ntmps64
  go_wp2
  go_loopw [3, 8] (fun a i wr => WantRel ps w a i wr) (fun _ i _ => ps.length - (intOf i).toNat)
  case atStart => exact ⟨0, 0, Nat.zero_le _, rfl, rfl, rfl, Ext.refl _⟩
  case round =>
    obtain ⟨k, a, hk, rfl, rfl, hr, hE⟩ := hrel
    have HR := Lib.hid hr
    clear hr
    by_cases hlt : k < ps.length
    · obtain ⟨b, f, p, rfl, hp, c0, c1, c2⟩ := (hA.ext hE).at_ hlt
      have hbl : b < wr.heap.size := World.block_lt_of_cell? wr _ c0
      have HE := Lib.hid hE
      have HS := Lib.hid (rising_step (a := a) hp)
      clear hE hp
      have HSO := Lib.hid (fun w => someones_any p.i p.t p.k w)
      unfold idV at HSO
      cases hs : someI p.i p.t p.k with
      | false =>
        have hv : Hid (wantsOk ps = false) := Lib.hid (by unfold wantsOk; rw [← HR.out, HS.out]; simp [Id.some_, hs])
        go_wp2_with (first | (go_at_call 63; refine (HSO.out _).mono ?_; rintro e w1 ⟨rfl, hE1⟩; have HE1 := Lib.hid hE1; clear hE1) | (go_at_call 46; refine (holds_part _ _ _).mono ?_; rintro e w' ⟨rfl, rfl⟩))
        go_ret
        exact ⟨_, rfl, .part _ hv.out, (HE.out.alloc _).trans HE1.out⟩
      | true =>
        by_cases hp : a < p.i
        · have dp : decide (p.i ≤ a) = false := by simp; omega
          have hv : Hid (risingW a (ps.drop k) = risingW p.i (ps.drop (k + 1))) := Lib.hid (by rw [HS.out]; simp [Id.some_, hs, hp])
          go_wp2_with (go_at_call 63; refine (HSO.out _).mono ?_; rintro e w1 ⟨rfl, hE1⟩; have g0 := hE1.blk (heap_alloc_new wr _); have r0 := cell_of_heap g0 0; simp at r0; have HE1 := Lib.hid hE1; clear hE1 g0)
          go_roundw
          case rel => exact ⟨k + 1, p.i, by omega, by go_num, rfl, by rw [← hv.out]; exact HR.out, (HE.out.alloc _).trans HE1.out⟩
          case measure => simp [intOf]; omega
        · have dp : decide (p.i ≤ a) = true := by simp; omega
          have hv : Hid (wantsOk ps = false) := Lib.hid (by unfold wantsOk; rw [← HR.out, HS.out]; simp [hp])
          go_wp2_with (first | (go_at_call 63; refine (HSO.out _).mono ?_; rintro e w1 ⟨rfl, hE1⟩; have g0 := hE1.blk (heap_alloc_new wr _); have r0 := cell_of_heap g0 0; simp at r0; have HE1 := Lib.hid hE1; clear hE1 g0) | (go_at_call 46; refine (holds_part _ _ _).mono ?_; rintro e w' ⟨rfl, rfl⟩))
          go_ret
          exact ⟨_, rfl, .part _ hv.out, (HE.out.alloc _).trans HE1.out⟩
    · obtain rfl : k = ps.length := by omega
      have hv : Hid (wantsOk ps = inR ps.length 1 8) := Lib.hid (by
        have h := HR.out
        rw [List.drop_length] at h
        unfold wantsOk
        rw [← h]; rfl)
      go_wp2_with (first | (go_at_call 58; refine (within_any _ _ _ _).mono ?_; rintro e w' ⟨rfl, rfl⟩) | (go_at_call 46; refine (holds_part _ _ _).mono ?_; rintro e w' ⟨rfl, rfl⟩))
      go_ret
      exact ⟨_, rfl, by rw [hv.out]; exact Err.holds _ _ _, hE⟩
end Go.Proofs.YtigljihohpdpeaaGreatDoor
namespace Go.Proofs.YtigljihohpdpeaaGreatDoor
open Go.RowKit

theorem notGood_any (e : Ent) (w : World) (hin : e.inW w) : Calls Tryz.prog 77 #[.agg #[.int .i64 e.i, .int .i64 e.t, .int .i64 e.k, .slice e.bA e.bs.length e.bc]] w fun ev w' => ev = .returned (.bool (!e.good)) ∧ Ext w w' := by
  obtain ⟨hD, hb, hl⟩ := hin
  have HG := Lib.hid (fun w' (h : Ext w w') => good_any e.i e.t e.k e.bA e.bc e.bs w' (hD.ext h) hb hl)
  clear hb
  unfold Ent.good
  go_enter Tryz.func77, Tryz.ntmps77
  go_wp2_with (go_at_call 78; refine (HG.out _ ((Ext.refl w).alloc _)).mono ?_; rintro ev w1 ⟨rfl, hE1⟩)
  go_ret
  exact ⟨rfl, ((Ext.refl w).alloc _).trans hE1⟩

def idxBad : Nat → List Ent → Int
  | _, [] => -1
  | j, e :: es => if e.good = true then idxBad (j + 1) es else j
theorem idxBad_lt (j : Nat) (es : List Ent) : decide (0 ≤ idxBad j es) = !(es.all Ent.good) := by
  induction es generalizing j with
  | nil => rfl
  | cons e es ih =>
    unfold idxBad
    by_cases h : e.good = true
    · rw [if_pos h, ih]; simp [h]
    · rw [if_neg h]; simp [h]
def IdxRel (es : List Ent) (w0 : World) (i : Value) (wr : World) : Prop := ∃ k : Nat, k ≤ es.length ∧ i = .int .i64 k ∧ idxBad k (es.drop k) = idxBad 0 es ∧ Ext w0 wr
set_option maxRecDepth 100000 in
set_option maxHeartbeats 1000000 in
theorem index_any (A : Option Addr) (c : Nat) (es : List Ent) (w : World) (hA : EntsIn w A es) (hl : es.length ≤ maxLen) :
    Calls Tryz.prog 81 #[.slice A es.length c, .func (.func 77) #[] #[]] w fun ev w' => ev = .returned (.int .i64 (idxBad 0 es)) ∧ Ext w w' := by
  unfold maxLen at hl
  go_enter Tryz.func81, Tryz.ntmps81
  go_wp2
  go_loopw [8] (fun i wr => IdxRel es w i wr) (fun i _ => es.length - (intOf i).toNat)
  case atStart => exact ⟨0, Nat.zero_le _, rfl, rfl, Ext.refl _⟩
  case round =>
    obtain ⟨k, hk, rfl, hr, hE⟩ := hrel
    have HR := Lib.hid hr
    clear hr
    by_cases hlt : k < es.length
    · obtain ⟨b, f, e, rfl, he, c0, c1, c2, c3, hin⟩ := (hA.ext hE).at_ hlt
      have hbl : b < wr.heap.size := World.block_lt_of_cell? wr _ c0
      have HE := Lib.hid hE
      have HN := Lib.hid (notGood_any e wr hin)
      have HD := Lib.hid (drop_at he)
      clear hE hin he
      cases hg : e.good with
      | true =>
        have hv : Hid (idxBad k (es.drop k) = idxBad (k + 1) (es.drop (k + 1))) := Lib.hid (by rw [HD.out, idxBad, if_pos hg])
        rw [hg] at HN
        clear hg
        go_wp2_with (go_at_call 77; refine (HN.out).mono ?_; rintro ev w1 ⟨rfl, hE1⟩)
        go_roundw
        case rel => exact ⟨k + 1, by omega, by go_num, by rw [← hv.out]; exact HR.out, HE.out.trans hE1⟩
        case measure => simp [intOf]; omega
      | false =>
        have hv : Hid (idxBad 0 es = k) := Lib.hid (by rw [← HR.out, HD.out, idxBad, if_neg (by simp [hg])])
        rw [hg] at HN
        clear hg
        go_wp2_with (go_at_call 77; refine (HN.out).mono ?_; rintro ev w1 ⟨rfl, hE1⟩)
        go_ret
        exact ⟨by rw [hv.out]; rfl, HE.out.trans hE1⟩
    · obtain rfl : k = es.length := by omega
      have hv : Hid (idxBad 0 es = -1) := Lib.hid (by rw [← HR.out, List.drop_length]; rfl)
      go_wp2
      go_ret
      exact ⟨by rw [hv.out]; rfl, hE⟩
set_option maxRecDepth 100000 in
theorem contains_any (A : Option Addr) (c : Nat) (es : List Ent) (w : World) (hA : EntsIn w A es) (hl : es.length ≤ maxLen) :
    Calls Tryz.prog 76 #[.slice A es.length c, .func (.func 77) #[] #[]] w fun ev w' => ev = .returned (.bool (!(es.all Ent.good))) ∧ Ext w w' := by
  have HI := Lib.hid (index_any A c es w hA hl)
  have hv := Lib.hid (idxBad_lt 0 es)
  go_enter Tryz.func76, Tryz.ntmps76
  go_wp2_with (go_at_call 81; refine (HI.out).mono ?_; rintro ev w1 ⟨rfl, hE1⟩)
  go_ret
  exact ⟨by rw [← hv.out]; rfl, hE1⟩
def goodsOk (es : List Ent) : Bool := inR es.length 1 8 && es.all Ent.good
set_option maxRecDepth 100000 in
theorem goods_any (A : Option Addr) (c : Nat) (es : List Ent) (w : World) (hA : EntsIn w A es) (hl : es.length ≤ maxLen) :
    Calls Tryz.prog 65 #[.slice A es.length c] w (ErrPost 0 (goodsOk es) w) := by
  have HC := Lib.hid (contains_any A c es w hA hl)
  unfold maxLen at hl
  cases h1 : inR es.length 1 8 with
  | false =>
    have hv : Hid (goodsOk es = false) := Lib.hid (by simp [goodsOk, h1])
    rw [hv.out]
    go_enter Tryz.func65, Tryz.ntmps65
    go_wp2_with (first | (go_at_call 58; refine (within_any _ _ _ _).mono ?_; rintro e w' ⟨rfl, rfl⟩) | (go_at_call 46; refine (holds_part _ _ _).mono ?_; rintro e w' ⟨rfl, rfl⟩))
    go_ret
    exact ⟨_, rfl, Err.part _ rfl, Ext.refl _⟩
  | true =>
    have hv : Hid (goodsOk es = !(!(es.all Ent.good))) := Lib.hid (by simp [goodsOk, h1])
    rw [hv.out]
    go_enter Tryz.func65, Tryz.ntmps65
    go_wp2_with (first | (go_at_call 58; refine (within_any _ _ _ _).mono ?_; rintro e w' ⟨rfl, rfl⟩) | (go_at_call 76; refine (HC.out).mono ?_; rintro ev w1 ⟨rfl, hE1⟩) | (go_at_call 46; refine (holds_part _ _ _).mono ?_; rintro e w' ⟨rfl, rfl⟩))
    go_ret
    exact ⟨_, rfl, by first | exact Err.holds _ _ _ | (simp; exact Err.holds _ _ _), hE1⟩
end Go.Proofs.YtigljihohpdpeaaGreatDoor
namespace Go.Proofs.YtigljihohpdpeaaGreatDoor
open Go.RowKit

def aheadAt (e : Ent) (p : Id) : Bool := p.right && (!(p.i != IntKind.i64.wrap (e.i - 1)) && !(decide (e.t < p.t)))
def aheadsL : List Ent → List Id → Bool
  | e :: es, p :: ps => aheadAt e p && aheadsL es ps
  | _, _ => true
def aheadsOk (es : List Ent) (ps : List Id) : Bool := decide (ps.length = es.length) && aheadsL es ps
def AheadRel (es : List Ent) (ps : List Id) (w0 : World) (i : Value) (wr : World) : Prop := ∃ k : Nat, k ≤ es.length ∧ i = .int .i64 k ∧ aheadsL (es.drop k) (ps.drop k) = aheadsL es ps ∧ Ext w0 wr

set_option maxRecDepth 100000 in
set_option maxHeartbeats 4000000 in
theorem aheads_any (A : Option Addr) (c : Nat) (es : List Ent) (D : Option Addr) (d : Nat) (ps : List Id) (w : World) (hA : EntsIn w A es) (hD : IdsIn w D ps) (hl : es.length ≤ maxLen) (hl2 : ps.length ≤ maxLen) :
    Calls Tryz.prog 66 #[.slice A es.length c, .slice D ps.length d] w (ErrPost 0 (aheadsOk es ps) w) := by
  unfold maxLen at hl hl2
  by_cases hn : ps.length = es.length
  · have dn : ((ps.length : Int) != (es.length : Int)) = false := by simp; omega
    have HN := Lib.hid hn
    have hv0 : Hid (aheadsOk es ps = aheadsL es ps) := Lib.hid (by simp [aheadsOk, hn])
    clear hn
    go_enter Tryz.func66, Tryz.ntmps66
    go_wp2_with fail
    go_loopw [15] (fun i wr => AheadRel es ps w i wr) (fun i _ => es.length - (intOf i).toNat)
    case atStart => exact ⟨0, Nat.zero_le _, rfl, rfl, Ext.refl _⟩
    case round =>
      obtain ⟨k, hk, rfl, hr, hE⟩ := hrel
      have HR := Lib.hid hr
      clear hr
      by_cases hlt : k < es.length
      · have hlt2 : k < ps.length := by have := HN.out; omega
        obtain ⟨b, f, e, rfl, he, c0, c1, c2, c3, hin⟩ := (hA.ext hE).at_ hlt
        obtain ⟨b2, f2, p, rfl, hp, d0, d1, d2⟩ := (hD.ext hE).at_ hlt2
        have hbl : b < wr.heap.size := World.block_lt_of_cell? wr _ c0
        have hbl2 : b2 < wr.heap.size := World.block_lt_of_cell? wr _ d0
        have HE := Lib.hid hE
        have HD := Lib.hid (show aheadsL (es.drop k) (ps.drop k) = (aheadAt e p && aheadsL (es.drop (k + 1)) (ps.drop (k + 1))) by rw [drop_at he, drop_at hp, aheadsL])
        have HRI := Lib.hid (fun w => rightId_any p.i p.t p.k w)
        unfold idV at HRI
        clear hE hin he hp
        go_wp2_with fail
        have EB := Lib.hid (heap_alloc_new wr (.cells #[.int .i64 e.i, .int .i64 e.t, .int .i64 e.k, .slice e.bA e.bs.length e.bc] 88))
        have D0 := Lib.hid (((Ext.refl wr).alloc (.cells #[.int .i64 e.i, .int .i64 e.t, .int .i64 e.k, .slice e.bA e.bs.length e.bc] 88)).cell d0)
        have D1 := Lib.hid (((Ext.refl wr).alloc (.cells #[.int .i64 e.i, .int .i64 e.t, .int .i64 e.k, .slice e.bA e.bs.length e.bc] 88)).cell d1)
        have D2 := Lib.hid (((Ext.refl wr).alloc (.cells #[.int .i64 e.i, .int .i64 e.t, .int .i64 e.k, .slice e.bA e.bs.length e.bc] 88)).cell d2)
        clear c0 c1 c2 c3 d0 d1 d2
        cases h1 : rightI p.i p.t p.k with
        | false =>
          have hv : Hid (aheadsOk es ps = false) := Lib.hid (by rw [hv0.out, ← HR.out, HD.out]; simp [aheadAt, Id.right, h1])
          simp only [h1] at HRI
          clear h1
          refine Stab.wp_region_lex Ext (Ext _) (fun _ => True) (by kernel_rfl) (by kernel_rfl) (fun _ _ h => h) (fun _ _ h k => Ext.trans h k) (fun _ _ _ _ => trivial) ((Ext.refl _).drew) trivial ?_
          simp only [Stab.zipL, Nat.reduceAdd]
          repeat (first
            | (refine Stab.wpX_skip rfl ?_; simp only [Act.put, List.setIfInBounds_toArray, List.set_cons_zero, List.set_cons_succ])
            | (refine Stab.wpX_val rfl rfl ?_; apply Exists.intro; refine ⟨fun wx hC _ => ?_, ?_⟩; (have g1 := hC.blk EB.out; have r0 := cell_of_heap g1 0; have r1 := cell_of_heap g1 1; have q0 := hC.cell D0.out; have q1 := hC.cell D1.out; have q2 := hC.cell D2.out; simp at r0 r1; clear g1; go_simp; exact ⟨Ext.refl _, rfl⟩); simp only [Act.put, List.setIfInBounds_toArray, List.set_cons_zero, List.set_cons_succ])
            | (refine Stab.wpX_call1 rfl rfl (fun _ _ _ _ => trivial) ?_; apply Exists.intro; refine ⟨fun wx hC _ _ => ?_, ?_⟩; (go_simp; refine ⟨rfl, ?_⟩; refine (HRI.out _).mono ?_; rintro ev w9 ⟨rfl, hb9⟩; (first | exact ⟨hb9, rfl, trivial⟩ | exact ⟨hb9, rfl⟩)); simp only [Act.put, List.setIfInBounds_toArray, List.set_cons_zero, List.set_cons_succ]))
          refine Stab.wpX_end fun w8 hC8 _ _ => ?_
          have HC8 := Lib.hid (HE.out.trans (((Ext.refl _).alloc _).trans hC8))
          clear hC8
          go_wp2_with (go_at_call 46; refine (holds_part _ _ _).mono ?_; rintro e w' ⟨rfl, rfl⟩)
          go_ret
          exact ⟨_, rfl, .part _ hv.out, HC8.out⟩
        | true =>
          cases h2 : (p.i != IntKind.i64.wrap (e.i - 1)) with
          | true =>
            have hv : Hid (aheadsOk es ps = false) := Lib.hid (by rw [hv0.out, ← HR.out, HD.out]; simp only [aheadAt, h2]; simp)
            simp only [h1] at HRI
            clear h1
            refine Stab.wp_region_lex Ext (Ext _) (fun _ => True) (by kernel_rfl) (by kernel_rfl) (fun _ _ h => h) (fun _ _ h k => Ext.trans h k) (fun _ _ _ _ => trivial) ((Ext.refl _).drew) trivial ?_
            simp only [Stab.zipL, Nat.reduceAdd]
            repeat (first
              | (refine Stab.wpX_skip rfl ?_; simp only [Act.put, List.setIfInBounds_toArray, List.set_cons_zero, List.set_cons_succ])
              | (refine Stab.wpX_val rfl rfl ?_; apply Exists.intro; refine ⟨fun wx hC _ => ?_, ?_⟩; (have g1 := hC.blk EB.out; have r0 := cell_of_heap g1 0; have r1 := cell_of_heap g1 1; have q0 := hC.cell D0.out; have q1 := hC.cell D1.out; have q2 := hC.cell D2.out; simp at r0 r1; clear g1; go_simp; exact ⟨Ext.refl _, rfl⟩); simp only [Act.put, List.setIfInBounds_toArray, List.set_cons_zero, List.set_cons_succ])
              | (refine Stab.wpX_call1 rfl rfl (fun _ _ _ _ => trivial) ?_; apply Exists.intro; refine ⟨fun wx hC _ _ => ?_, ?_⟩; (go_simp; refine ⟨rfl, ?_⟩; refine (HRI.out _).mono ?_; rintro ev w9 ⟨rfl, hb9⟩; (first | exact ⟨hb9, rfl, trivial⟩ | exact ⟨hb9, rfl⟩)); simp only [Act.put, List.setIfInBounds_toArray, List.set_cons_zero, List.set_cons_succ]))
            refine Stab.wpX_end fun w8 hC8 _ _ => ?_
            have HC8 := Lib.hid (HE.out.trans (((Ext.refl _).alloc _).trans hC8))
            clear hC8
            go_wp2_with (go_at_call 46; refine (holds_part _ _ _).mono ?_; rintro e w' ⟨rfl, rfl⟩)
            go_ret
            exact ⟨_, rfl, .part _ hv.out, HC8.out⟩
          | false =>
            cases h3 : decide (e.t < p.t) with
            | true =>
              have hv : Hid (aheadsOk es ps = false) := Lib.hid (by rw [hv0.out, ← HR.out, HD.out]; simp only [aheadAt, h3]; simp)
              simp only [h1] at HRI
              clear h1
              refine Stab.wp_region_lex Ext (Ext _) (fun _ => True) (by kernel_rfl) (by kernel_rfl) (fun _ _ h => h) (fun _ _ h k => Ext.trans h k) (fun _ _ _ _ => trivial) ((Ext.refl _).drew) trivial ?_
              simp only [Stab.zipL, Nat.reduceAdd]
              repeat (first
                | (refine Stab.wpX_skip rfl ?_; simp only [Act.put, List.setIfInBounds_toArray, List.set_cons_zero, List.set_cons_succ])
                | (refine Stab.wpX_val rfl rfl ?_; apply Exists.intro; refine ⟨fun wx hC _ => ?_, ?_⟩; (have g1 := hC.blk EB.out; have r0 := cell_of_heap g1 0; have r1 := cell_of_heap g1 1; have q0 := hC.cell D0.out; have q1 := hC.cell D1.out; have q2 := hC.cell D2.out; simp at r0 r1; clear g1; go_simp; exact ⟨Ext.refl _, rfl⟩); simp only [Act.put, List.setIfInBounds_toArray, List.set_cons_zero, List.set_cons_succ])
                | (refine Stab.wpX_call1 rfl rfl (fun _ _ _ _ => trivial) ?_; apply Exists.intro; refine ⟨fun wx hC _ _ => ?_, ?_⟩; (go_simp; refine ⟨rfl, ?_⟩; refine (HRI.out _).mono ?_; rintro ev w9 ⟨rfl, hb9⟩; (first | exact ⟨hb9, rfl, trivial⟩ | exact ⟨hb9, rfl⟩)); simp only [Act.put, List.setIfInBounds_toArray, List.set_cons_zero, List.set_cons_succ]))
              refine Stab.wpX_end fun w8 hC8 _ _ => ?_
              have HC8 := Lib.hid (HE.out.trans (((Ext.refl _).alloc _).trans hC8))
              clear hC8
              go_wp2_with (go_at_call 46; refine (holds_part _ _ _).mono ?_; rintro e w' ⟨rfl, rfl⟩)
              go_ret
              exact ⟨_, rfl, .part _ hv.out, HC8.out⟩
            | false =>
              have hv : Hid (aheadsL (es.drop k) (ps.drop k) = aheadsL (es.drop (k + 1)) (ps.drop (k + 1))) := Lib.hid (by rw [HD.out]; simp only [aheadAt, Id.right, h1, h2, h3]; simp)
              simp only [h1] at HRI
              clear h1
              refine Stab.wp_region_lex Ext (Ext _) (fun _ => True) (by kernel_rfl) (by kernel_rfl) (fun _ _ h => h) (fun _ _ h k => Ext.trans h k) (fun _ _ _ _ => trivial) ((Ext.refl _).drew) trivial ?_
              simp only [Stab.zipL, Nat.reduceAdd]
              repeat (first
                | (refine Stab.wpX_skip rfl ?_; simp only [Act.put, List.setIfInBounds_toArray, List.set_cons_zero, List.set_cons_succ])
                | (refine Stab.wpX_val rfl rfl ?_; apply Exists.intro; refine ⟨fun wx hC _ => ?_, ?_⟩; (have g1 := hC.blk EB.out; have r0 := cell_of_heap g1 0; have r1 := cell_of_heap g1 1; have q0 := hC.cell D0.out; have q1 := hC.cell D1.out; have q2 := hC.cell D2.out; simp at r0 r1; clear g1; go_simp; exact ⟨Ext.refl _, rfl⟩); simp only [Act.put, List.setIfInBounds_toArray, List.set_cons_zero, List.set_cons_succ])
                | (refine Stab.wpX_call1 rfl rfl (fun _ _ _ _ => trivial) ?_; apply Exists.intro; refine ⟨fun wx hC _ _ => ?_, ?_⟩; (go_simp; refine ⟨rfl, ?_⟩; refine (HRI.out _).mono ?_; rintro ev w9 ⟨rfl, hb9⟩; (first | exact ⟨hb9, rfl, trivial⟩ | exact ⟨hb9, rfl⟩)); simp only [Act.put, List.setIfInBounds_toArray, List.set_cons_zero, List.set_cons_succ]))
              refine Stab.wpX_end fun w8 hC8 _ _ => ?_
              have HC8 := Lib.hid (HE.out.trans (((Ext.refl _).alloc _).trans hC8))
              clear hC8
              go_wp2_with fail
              go_roundw
              case rel => exact ⟨k + 1, by omega, by go_num, by rw [← hv.out]; exact HR.out, HC8.out⟩
              case measure => simp [intOf]; omega
      · obtain rfl : k = es.length := by omega
        have hv : Hid (aheadsOk es ps = true) := Lib.hid (by rw [hv0.out, ← HR.out, List.drop_length]; cases List.drop es.length ps <;> rfl)
        go_wp2_with fail
        go_ret
        exact ⟨_, rfl, .nil hv.out, hE⟩
  · have dn : ((ps.length : Int) != (es.length : Int)) = true := by simp; omega
    have hv : Hid (aheadsOk es ps = false) := Lib.hid (by simp [aheadsOk, hn])
    clear hn
    go_enter Tryz.func66, Tryz.ntmps66
    go_wp2_with (go_at_call 46; refine (holds_part _ _ _).mono ?_; rintro e w' ⟨rfl, rfl⟩)
    go_ret
    exact ⟨_, rfl, .part _ hv.out, Ext.refl _⟩
end Go.Proofs.YtigljihohpdpeaaGreatDoor
