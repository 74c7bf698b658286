/-
  Whether all letters are right.
  Send.
-/
import Derived.Test.YtigljihohpdpeaaGreatDoorM28
import Derived.Test.YtigljihohpdpeaaGreatDoorM27
import Derived.Test.YtigljihohpdpeaaGreatDoorM36
import Derived.Test.YtigljihohpdpeaaGreatDoorM37
namespace Go.Proofs.YtigljihohpdpeaaGreatDoor
open Go.RowKit

theorem notRight_any (l : Let) (w : World) (hin : l.inW w) (hg : ErrT w) : Calls Tryz.prog 33 #[l.v] w fun ev w' => ev = .returned (.bool (!(rightL l))) ∧ Ext w w' := by
  have HG := Lib.hid (fun w' (h : Ext w w') => Right_any l w' (hin.ext h) (hg.ext h))
  have hV : l.v = .agg l.arr := rfl
  have hr : World.rangeAt (w.alloc (.cells l.arr 44)) w.heap.size 0 l.arr.toList := fun j v hv => by
    rw [Nat.zero_add, cell_of_heap (heap_alloc_new w _)]
    simpa using hv
  rw [hV] at HG ⊢
  clear hin hg
  go_enter Tryz.func33, Tryz.ntmps33
  go_wp2_with (first | (refine wpList_load_letAt rfl _ rfl w.heap.size 0 l rfl hr ?_) | (go_at_call 11; refine (HG.out _ ((Ext.refl w).alloc _)).mono ?_; rintro ev w1 ⟨rfl, hE1⟩))
  go_ret
  exact ⟨rfl, ((Ext.refl w).alloc _).trans hE1⟩

def idxL : Nat → List Let → Int
  | _, [] => -1
  | j, e :: es => if rightL e = true then idxL (j + 1) es else j
theorem idxL_lt (j : Nat) (es : List Let) : decide (0 ≤ idxL j es) = !(es.all rightL) := by
  induction es generalizing j with
  | nil => rfl
  | cons e es ih =>
    unfold idxL
    by_cases h : rightL e = true
    · rw [if_pos h, ih]; simp [h]
    · rw [if_neg h]; simp [h]
def IdxLRel (es : List Let) (w0 : World) (i : Value) (wr : World) : Prop := ∃ k : Nat, k ≤ es.length ∧ i = .int .i64 k ∧ idxL k (es.drop k) = idxL 0 es ∧ Ext w0 wr
set_option maxRecDepth 100000 in
set_option maxHeartbeats 1000000 in
theorem indexL_any (A : Option Addr) (c : Nat) (es : List Let) (w : World) (hA : LetsIn w A es) (hg : ErrT w) (hl : es.length ≤ maxLen) :
    Calls Tryz.prog 52 #[.slice A es.length c, .func (.func 33) #[] #[]] w fun ev w' => ev = .returned (.int .i64 (idxL 0 es)) ∧ Ext w w' := by
  unfold maxLen at hl
  go_enter Tryz.func52, Tryz.ntmps52
  go_wp2
  go_loopw [8] (fun i wr => IdxLRel es w i wr) (fun i _ => es.length - (intOf i).toNat)
  case atStart => exact ⟨0, Nat.zero_le _, rfl, rfl, Ext.refl _⟩
  case round =>
    obtain ⟨k, hk, rfl, hr, hE⟩ := hrel
    have HR := Lib.hid hr
    clear hr
    by_cases hlt : k < es.length
    · obtain ⟨b, f, e, rfl, he, hr, hin⟩ := (hA.ext hE).at_ hlt
      have HE := Lib.hid hE
      have HN := Lib.hid (notRight_any e wr hin (hg.ext hE))
      have HD := Lib.hid (drop_at he)
      clear hE hin he hg
      cases hgg : rightL e with
      | true =>
        have hv : Hid (idxL k (es.drop k) = idxL (k + 1) (es.drop (k + 1))) := Lib.hid (by rw [HD.out, idxL, if_pos hgg])
        rw [hgg] at HN
        clear hgg
        go_wp2_with (first | (refine wpList_load_letAt rfl _ rfl b (f + k * 23) e (by simp [Act.eval, Act.put]) hr ?_) | (go_at_call 33; refine (HN.out).mono ?_; rintro ev w1 ⟨rfl, hE1⟩))
        go_roundw
        case rel => exact ⟨k + 1, by omega, by go_num, by rw [← hv.out]; exact HR.out, HE.out.trans hE1⟩
        case measure => simp [intOf]; omega
      | false =>
        have hv : Hid (idxL 0 es = k) := Lib.hid (by rw [← HR.out, HD.out, idxL, if_neg (by simp [hgg])])
        rw [hgg] at HN
        clear hgg
        go_wp2_with (first | (refine wpList_load_letAt rfl _ rfl b (f + k * 23) e (by simp [Act.eval, Act.put]) hr ?_) | (go_at_call 33; refine (HN.out).mono ?_; rintro ev w1 ⟨rfl, hE1⟩))
        go_ret
        exact ⟨by rw [hv.out]; rfl, HE.out.trans hE1⟩
    · obtain rfl : k = es.length := by omega
      have hv : Hid (idxL 0 es = -1) := Lib.hid (by rw [← HR.out, List.drop_length]; rfl)
      go_wp2
      go_ret
      exact ⟨by rw [hv.out]; rfl, hE⟩
set_option maxRecDepth 100000 in
theorem containsL_any (A : Option Addr) (c : Nat) (es : List Let) (w : World) (hA : LetsIn w A es) (hg : ErrT w) (hl : es.length ≤ maxLen) :
    Calls Tryz.prog 32 #[.slice A es.length c, .func (.func 33) #[] #[]] w fun ev w' => ev = .returned (.bool (!(es.all rightL))) ∧ Ext w w' := by
  have HI := Lib.hid (indexL_any A c es w hA hg hl)
  have hv := Lib.hid (idxL_lt 0 es)
  go_enter Tryz.func32, Tryz.ntmps32
  go_wp2_with (go_at_call 52; refine (HI.out).mono ?_; rintro ev w1 ⟨rfl, hE1⟩)
  go_ret
  exact ⟨by rw [← hv.out]; rfl, hE1⟩
end Go.Proofs.YtigljihohpdpeaaGreatDoor
namespace Go.Proofs.YtigljihohpdpeaaGreatDoor
open Go.RowKit

def SendP (w : World) (B nb bb : Nat) (A : Option Addr) (s : NetS) (ls : List Let) (e : Ending) (w' : World) : Prop :=
  (ls.all rightL = false ∧ e = .returned (.int .i64 2) ∧ Ext w w') ∨
  (ls.all rightL = true ∧ e = .returned (.int .i64 0) ∧ ∃ ms : List Let, ms.map Let.cont = ls.map Let.cont ∧ (∀ m ∈ ms, m.off (fun i => i < w.heap.size)) ∧ NetStep w B nb bb A { s with us := s.us ++ ms, sent := s.sent + ls.length } w')
set_option maxRecDepth 100000 in
set_option maxHeartbeats 4000000 in
theorem send_any (w : World) (B nb bb : Nat) (A : Option Addr) (c : Nat) (s : NetS) (hN : NetAt w B nb bb A c s) (hf : s.fits) (hB : 0 < B) (hBw : B ≤ w.heap.size) (hg : ErrT w) (D : Option Addr) (d : Nat) (ls : List Let) (hL : LetsIn w D ls) (hn : ls.length ≤ 4000)
    (hD : ls ≠ [] → Off (mutN nb bb A) D) (hO : ∀ l ∈ ls, Held (mutN nb bb A) w l) :
    Calls Tryz.prog 17 #[.pointer (some ⟨nb, 0, none⟩), .slice D ls.length d] w (SendP w B nb bb A s ls) := by
  have HT := Lib.hid (there_any nb bb s.off w hN.n1)
  have HC := Lib.hid (containsL_any D d ls w hL hg (by unfold maxLen; omega))
  have c0 := net_c0 hN.n1
  have HN := Lib.hid hN
  have HG := Lib.hid hg
  have HF := Lib.hid hf
  have HP := Lib.hid (fun w' (h : Ext w w') (hR : ∀ l ∈ ls, rightL l = true) => put_any w' B nb bb A c s (hN.ext h) hf.f1 (Nat.le_trans hBw h.sz) D d ls (hL.ext h) hn hD (fun l hl => (hO l hl).ext h) hR)
  clear hN hg hf hL hD hO
  cases hall : ls.all rightL
  · rw [hall] at HC
    go_enter Tryz.func17, Tryz.ntmps17
    go_wp2_with fail
    refine (HT.out).mono ?_
    rintro ev w1 ⟨rfl, rfl⟩
    go_wp2_with fail
    refine (HC.out).mono ?_
    rintro ev w1 ⟨rfl, hE1⟩
    go_wp2_with fail
    go_ret
    exact .inl ⟨hall, rfl, hE1⟩
  · rw [hall] at HC
    have HR := Lib.hid (fun l (hl : l ∈ ls) => List.all_eq_true.1 hall l hl)
    go_enter Tryz.func17, Tryz.ntmps17
    go_wp2_with fail
    refine (HT.out).mono ?_
    rintro ev w1 ⟨rfl, rfl⟩
    go_wp2_with fail
    refine (HC.out).mono ?_
    rintro ev w1 ⟨rfl, hE1⟩
    have HE1 := Lib.hid hE1
    have d0 := hE1.cell c0
    clear hE1
    go_wp2_with fail
    refine (HP.out w1 HE1.out HR.out).mono ?_
    rintro ev w2 ⟨rfl, ms, hms, hmo, A', c', hN2, hF2, hA2⟩
    have HMO := Lib.hid (fun m hm => (hmo m hm).sub (T := fun i => i < w.heap.size) fun i hi => Nat.lt_of_lt_of_le hi HE1.out.sz)
    clear hmo
    have HN2 := Lib.hid hN2
    have HF2 := Lib.hid hF2
    have d1 := net_c0 hN2.n1
    have d2 := bag_ck hN2.b1
    have fz := frozen_of_heap hN2.b1
    have hl := HF.out.f2
    have x1 : IntKind.i64.wrap (s.sent + (ls.length : Int)) = s.sent + (ls.length : Int) := IntWalk.i64_in _ (by omega)
    have hset : Fr (isB bb) w2 (w2.setCell ⟨bb, 2, none⟩ (.int .i64 (s.sent + (ls.length : Int)))) := (Fr.refl (isB bb) w2).set (p := ⟨bb, 2, none⟩) (.inl rfl) _
    have hst := Lib.hid (HN2.out.count (sent := s.sent + ls.length) (gone := s.gone) (lost := s.lost) (twice := s.twice) (by rw [heap_set HN2.out.b1]; rfl) hset)
    have HS := Lib.hid hset
    clear hN2 hF2 hset
    go_wp2_with fail
    refine (tolds_nil _).mono ?_
    rintro ev w6 ⟨rfl, hE6⟩
    go_wp2_with fail
    go_ret
    exact .inr ⟨hall, rfl, ms, hms, HMO.out, A', c', hst.out.ext hE6, (((Fr.ofExt _ HE1.out).trans HF2.out (fun _ _ t => t)).trans HS.out (fun i _ t => .inr (.inl t))).then hE6, fun i hi => (hA2 i hi).imp id fun h => Nat.le_trans HE1.out.sz h⟩
end Go.Proofs.YtigljihohpdpeaaGreatDoor
