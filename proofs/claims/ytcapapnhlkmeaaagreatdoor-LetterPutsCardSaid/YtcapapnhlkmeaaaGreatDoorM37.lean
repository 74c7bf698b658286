/-
  Put: a right letter's bytes, or the error.
-/
import Derived.Test.YtcapapnhlkmeaaaGreatDoorM36
import Derived.Test.YtcapapnhlkmeaaaGreatDoorM33
namespace Go.Proofs.YtcapapnhlkmeaaaGreatDoor
open Go.RowKit

def hdB (l : Let) : List Int := leB 1 l.kind ++ leB 1 l.frm ++ leB 1 l.too
def putB (l : Let) : List Int := hdB l ++ leB 6 l.term ++ bodyB l
def putX (l : Let) : List Int := if rightL l = true then putB l else []
def putN (l : Let) : Int := if rightL l = true then 0 else 2
/-- What Put answers: bytes in memory of their own, and no error; or the error. -/
def Puts (l : Let) (w : World) (e : Ending) (w' : World) : Prop :=
  ∃ A c, e = .returned (.tuple #[.slice A (putX l).length c, .int .i64 (putN l)]) ∧ Own w' w.heap.size 5 A c ((putX l).map (.int .u8)) ∧ Ext w w'
theorem offNew {w : World} {D : Option Addr} {xs : List Value} (hD : Rd w D xs) (hx : xs ≠ []) {wb : Nat} (hb : w.heap.size ≤ wb) : Off (touched wb none) D := by
  intro ad had
  rintro (h | h)
  · cases xs with
    | nil => exact hx rfl
    | cons x xs =>
      obtain ⟨ad', h1, h2⟩ := hD 0 x rfl
      rw [had] at h1
      injection h1 with h1
      subst h1
      have := World.block_lt_of_cell? w _ h2
      rw [add_block] at this
      omega
  · simp [blk] at h
theorem blkNew {w : World} {D : Option Addr} {b : Nat} (hD : ∃ f, D = some ⟨b, f, none⟩) (hb : b < w.heap.size) {wb : Nat} (hw : w.heap.size ≤ wb) : Off (touched wb none) D := by
  obtain ⟨f, rfl⟩ := hD
  intro ad had
  injection had with had
  subst had
  rintro (h | h)
  · have : b = wb := h
    omega
  · simp [blk] at h
theorem Let.inW.offNew {w : World} {l : Let} (hin : l.inW w) {wb : Nat} (hw : w.heap.size ≤ wb) : l.off (touched wb none) where
  w1 := fun hne => by
    obtain ⟨p, hp⟩ := ne_get hne
    obtain ⟨b, f, h1, h2, _⟩ := hin.w1 0 p hp
    exact blkNew ⟨f, h1⟩ (World.block_lt_of_cell? w _ h2) hw
  e1 := fun hne => by
    obtain ⟨p, hp⟩ := ne_get hne
    obtain ⟨b, f, h1, h2, _⟩ := hin.e1 0 p hp
    exact blkNew ⟨f, h1⟩ (World.block_lt_of_cell? w _ h2) hw
  e2 := fun e he hne => by
    obtain ⟨j, hj⟩ := List.getElem?_of_mem he
    obtain ⟨b, f, h1, h2, h3, h4, h5, h6⟩ := hin.e1 j e hj
    exact Go.Proofs.YtcapapnhlkmeaaaGreatDoor.offNew h6.1 (by simpa using hne) hw
  m1 := fun hne => Go.Proofs.YtcapapnhlkmeaaaGreatDoor.offNew hin.m1 (by simpa using hne) hw
  u1 := fun hne => Go.Proofs.YtcapapnhlkmeaaaGreatDoor.offNew hin.u1 (by simpa using hne) hw
  b1 := fun hne => Go.Proofs.YtcapapnhlkmeaaaGreatDoor.offNew hin.b1 (by simpa using hne) hw
theorem hd_eq (l : Let) (h1 : num1 l.kind) (h2 : num1 l.frm) (h3 : num1 l.too) : fieldS 1 [] false [l.kind, l.frm, l.too] = (hdB l, false) := by
  rw [fieldS_all 1 _ _ (by decide) (by
    intro n hn
    simp only [List.mem_cons, List.not_mem_nil, or_false] at hn
    rcases hn with rfl | rfl | rfl
    · exact h1
    · exact h2
    · exact h3)]
  simp [hdB]
theorem bodyB_length {l : Let} (h : l.puts) : (bodyB l).length ≤ 200000 := by
  unfold bodyB
  split
  · simp [idB_length]
  split
  · simp
  split
  · rename_i hk
    have := entsR_length l.ents (h.k3 hk).2.2
    have := (h.k3 hk).2.2.1
    simp [idB_length, leB_length]; omega
  split
  · simp [leB_length]
  split
  · rename_i hk
    have := carryB_length l (h.k5 hk)
    omega
  split
  · simp [idB_length, leB_length]
  split
  · rename_i hk
    have := idsR_length l.want
    have := (h.k7 hk).1.1
    simp [idB_length, leB_length]; omega
  split
  · rename_i hk
    have h1 := entsR_length l.ents (h.k8 hk).1
    have h2 := (h.k8 hk).1.1
    by_cases h0 : l.ents.length = 0
    · have := carryB_length l ((h.k8 hk).2.1 h0)
      rw [if_pos h0]
      simp; omega
    · have h3 := idsR_length l.want
      have h4 := ((h.k8 hk).2.2 h0).1
      rw [if_neg h0]
      simp; omega
  · simp

set_option maxRecDepth 100000 in
set_option maxHeartbeats 2000000 in
theorem put_no (l : Let) (hr : rightL l = false) (w : World) (hin : l.inW w) (hg : ErrT w) : Calls Tryz.prog 7 #[l.v] w (Puts l w) := by
  have HC := Lib.hid (fun w' (h : Ext w w') => check_any l w' (hin.ext h) (hg.ext h))
  have HGE := Lib.hid hg
  have hV : l.v = .agg l.arr := rfl
  have HX : Hid (putX l = [] ∧ putN l = 2) := Lib.hid (by simp [putX, putN, hr])
  rw [hV]
  clear hin hg hV
  go_enter Tryz.func7, Tryz.ntmps7
  go_wp2_with (refine wpList_load_let rfl _ rfl w.heap.size l rfl (heap0 w _ _) ?_)
  refine (HC.out _ (((Ext.refl w).alloc _).alloc _)).mono ?_
  rintro e w5 ⟨e5, rfl, hEr, hE5⟩
  rw [hr] at hEr
  have hBad : Bad 5 w5 e5 := hEr
  have HB := Lib.hid hBad
  have HP0 := Lib.hid (hE5.blk (heap1 w _ _))
  have HE5 := Lib.hid ((((Ext.refl w).alloc _).alloc _).trans hE5)
  clear hEr hBad hE5 hr
  go_wp2_with fail
  refine (As_bad 5 _ _ _ _ _ HB.out (HGE.out.ext HE5.out) HP0.out).mono ?_
  rintro e w6 ⟨rfl, ⟨s, hp6⟩, hF6⟩
  have r0 := cell_of_heap hp6
  have HE6 : Hid (Ext w w6) := Lib.hid (((Fr.ofExt (isB (w.heap.size + 1)) HE5.out).trans hF6 (fun _ _ h => h)).toExt (fun i hi => by unfold isB at hi; omega))
  clear hp6 hF6
  go_wp2_with fail
  go_quiet (fail)
  go_wp2_with fail
  go_ret2
  refine ⟨none, 0, by rw [HX.out.1, HX.out.2]; rfl, by rw [HX.out.1]; exact Own.nil _ _ _, HE6.out.drewN _⟩

set_option maxRecDepth 100000 in
set_option maxHeartbeats 2000000 in
theorem put_yes (l : Let) (hr : rightL l = true) (w : World) (hin : l.inW w) (hg : ErrT w) : Calls Tryz.prog 7 #[l.v] w (Puts l w) := by
  have HC := Lib.hid (fun w' (h : Ext w w') => check_any l w' (hin.ext h) (hg.ext h))
  have HI := Lib.hid hin
  have hV : l.v = .agg l.arr := rfl
  have HX : Hid (putX l = putB l ∧ putN l = 0) := Lib.hid (by simp [putX, putN, hr])
  obtain ⟨hk, hf, ht, h6⟩ := right_head hr
  have HP := Lib.hid (puts_of_right hr hin.u3)
  have H1 := Lib.hid (hd_eq l (by unfold num1; omega) (by unfold num1; omega) (by unfold num1; omega))
  have H2 := Lib.hid (field1_6 (bs := hdB l) h6.1 h6.2)
  have HK := Lib.hid hk
  have hbl := bodyB_length HP.out
  have hhl : (hdB l).length = 3 := by simp [hdB, leB_length]
  rw [hV]
  clear hin hg hV hk hf ht h6
  go_enter Tryz.func7, Tryz.ntmps7
  go_wp2_with (refine wpList_load_let rfl _ rfl w.heap.size l rfl (heap0 w _ _) ?_)
  refine (HC.out _ (((Ext.refl w).alloc _).alloc _)).mono ?_
  rintro e w5 ⟨e5, rfl, hEr, hE5⟩
  rw [hr] at hEr
  obtain rfl : e5 = .nilIface := hEr
  have g0 := hE5.blk (heap0 w _ _)
  have hlt := heap_lt g0
  have r0 := cell_of_heap g0
  have HE5 := Lib.hid ((((Ext.refl w).alloc _).alloc _).trans hE5)
  have HG0 := Lib.hid g0
  have HI5 := Lib.hid ((HI.out.ext HE5.out).ext ((Ext.refl w5).alloc (.cells #[.slice none 0 0, .bool false] 61)))
  have HOF := Lib.hid ((HI.out.ext HE5.out).offNew (Nat.le_refl _))
  have hsz5 := HE5.out.sz
  clear g0 hE5 hr
  go_wp2_with (go_at_call 19; refine (As_nil _ _).mono ?_; rintro e w' ⟨rfl, rfl⟩)
  have hW0 := Wr.new 61 w5
  have hr0 := rd_lit (w5.alloc (.cells #[.slice none 0 0, .bool false] 61)) [.int .i64 l.kind, .int .i64 l.frm, .int .i64 l.too] 3
  have ho0 := off_new hW0
  rw [World.size_alloc] at hr0 ho0
  have P0a := (WP.start hW0).ext ((Ext.refl _).alloc (.cells #[.int .i64 l.kind, .int .i64 l.frm, .int .i64 l.too] 3))
  refine (field_any w5.heap.size w5.heap.size none 0 [] false 1 (some ⟨w5.heap.size + 1, 0, none⟩) 3 [l.kind, l.frm, l.too] _ P0a.1 (by simp; omega) hr0 (fun _ => ho0) (by simp)).mono ?_
  rintro e w6 ⟨rfl, hS1⟩
  rw [H1.out] at hS1
  obtain ⟨A1, c1, P1⟩ := P0a.step hS1
  have g1 := (P1.heap (i := w.heap.size) (by simp; omega) (by rintro (h | h); · omega
                                                              · simp [blk] at h)).trans ((heap_alloc_old w5 _ hlt).trans HG0.out)
  have z1 := P1.size
  rw [World.size_alloc] at z1
  clear r0 hS1 P0a hr0 ho0
  have r0 := cell_of_heap g1
  have HP1 := Lib.hid P1
  clear g1 P1
  go_wp2_with fail
  refine (field_any w5.heap.size w5.heap.size _ _ (hdB l) false 6 _ 1 [l.term] _ (HP1.out.ext ((Ext.refl _).alloc (.cells #[.int .i64 l.term] 3))).1 (by simp; omega) (rd_one w6 (.int .i64 l.term) 3) (fun _ => off_new HP1.out.1) (by simp; omega)).mono ?_
  rintro e w7 ⟨rfl, hS2⟩
  rw [H2.out] at hS2
  obtain ⟨A2, c2, P2⟩ := (HP1.out.ext ((Ext.refl _).alloc (.cells #[.int .i64 l.term] 3))).step hS2
  have g2 := (P2.heap (i := w.heap.size) (by simp; omega) (by rintro (h | h); · omega
                                                              · simp [blk] at h)).trans ((heap_alloc_old w5 _ hlt).trans HG0.out)
  have z2 := P2.size
  rw [World.size_alloc] at z2
  clear r0 hS2
  have HG2 := Lib.hid g2
  have HP2 := Lib.hid P2
  clear g2 P2
  go_wp2_with (refine wpList_load_let rfl _ rfl w.heap.size l rfl HG2.out ?_)
  refine (body_put w5.heap.size w5.heap.size _ _ (hdB l ++ leB 6 l.term) l HK.out HP.out _ HP2.out.1 (by omega) (by simp [leB_length]; omega) (HI5.out.fr HP2.out.2.1 HOF.out) (HOF.out.grow HI5.out HP2.out.2.2)).mono ?_
  rintro e w8 ⟨rfl, hS3⟩
  obtain ⟨A3, c3, P3⟩ := HP2.out.step hS3
  have z3 := P3.size
  rw [World.size_alloc] at z3
  have HP3 := Lib.hid P3
  clear hS3 P3
  go_wp2_with fail
  refine (bytes_any w5.heap.size w5.heap.size _ _ (putB l) false _ HP3.out.1 (by simp [putB, leB_length]; omega)).mono ?_
  rintro e w9 ⟨A4, c4, rfl, hO4, hS4⟩
  obtain ⟨A5, c5, P5⟩ := HP3.out.step hS4
  have HE9 : Hid (Ext w w9) := Lib.hid (HE5.out.trans (Below.trans ((Ext.refl w5).alloc _) (P5.2.1.below (by simp) (by
    rintro i (rfl | hi)
    · exact Nat.le_refl _
    · simp [blk] at hi))))
  simp only [Bool.false_eq_true, if_false] at hO4
  have hsz8 : w.heap.size ≤ w8.heap.size := by omega
  clear hS4 P5
  go_wp2_with fail
  go_ret2
  exact ⟨A4, c4, by rw [HX.out.1, HX.out.2]; rfl, by rw [HX.out.1]; exact hO4.lower hsz8, HE9.out⟩
theorem put_any (l : Let) (w : World) (hin : l.inW w) (hg : ErrT w) : Calls Tryz.prog 7 #[l.v] w (Puts l w) := by
  cases hr : rightL l with
  | false => exact put_no l hr w hin hg
  | true => exact put_yes l hr w hin hg
end Go.Proofs.YtcapapnhlkmeaaaGreatDoor
