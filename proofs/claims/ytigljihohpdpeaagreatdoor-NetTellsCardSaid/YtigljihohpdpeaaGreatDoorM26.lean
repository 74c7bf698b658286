/-
  What SameX tells, in general: letters.
-/
import Derived.Test.YtigljihohpdpeaaGreatDoorM25
namespace Go.Proofs.YtigljihohpdpeaaGreatDoor
open Go.RowKit

theorem idEq (p q : Id) : decide (p = q) = (p.i == q.i && (p.t == q.t && p.k == q.k)) := by
  cases p; cases q
  rw [Bool.eq_iff_iff]
  simp
structure LetC where
  kind : Int
  frm : Int
  too : Int
  term : Int
  index : Int
  last : Id
  prev : Id
  want : List Id
  commit : Int
  yes : Bool
  ents : List (Int × Int × Int × List Int)
  snap : Id × List Int × Int × List Int
  piece : Int
  bs : List Int
instance : DecidableEq LetC := fun a b => decidable_of_iff (a.kind = b.kind ∧ a.frm = b.frm ∧ a.too = b.too ∧ a.term = b.term ∧ a.index = b.index ∧ a.last = b.last ∧ a.prev = b.prev ∧ a.want = b.want ∧ a.commit = b.commit ∧ a.yes = b.yes ∧ a.ents = b.ents ∧ a.snap = b.snap ∧ a.piece = b.piece ∧ a.bs = b.bs) (by cases a; cases b; simp)
def Let.cont (l : Let) : LetC := ⟨l.kind, l.frm, l.too, l.term, l.index, l.last, l.prev, l.want, l.commit, l.yes, l.ents.map Ent.cont, l.snc, l.piece, l.bs⟩
theorem Let.cont_eq (l m : Let) : decide (l.cont = m.cont) = ((l.kind == m.kind) && ((l.frm == m.frm) && ((l.too == m.too) && ((l.term == m.term) && ((l.index == m.index) && ((l.last.i == m.last.i && (l.last.t == m.last.t && l.last.k == m.last.k)) && ((l.prev.i == m.prev.i && (l.prev.t == m.prev.t && l.prev.k == m.prev.k)) && (decide (l.want = m.want) && ((l.commit == m.commit) && ((l.yes == m.yes) && (decide (l.ents.map Ent.cont = m.ents.map Ent.cont) && (decide (l.snc = m.snc) && ((l.piece == m.piece) && (decide (l.bs = m.bs))))))))))))))) := by
  rw [← idEq, ← idEq]
  unfold Let.cont
  rw [Bool.eq_iff_iff]
  simp only [decide_eq_true_eq, LetC.mk.injEq, Bool.and_eq_true, beq_iff_eq]
set_option maxRecDepth 100000 in
set_option maxHeartbeats 8000000 in
theorem sameLet_any (l m : Let) (w : World) (hl : l.inW w) (hm : m.inW w) :
    Calls Tryz.prog 29 #[l.v, m.v] w fun e w' => e = .returned (.bool (decide (l.cont = m.cont))) ∧ Ext w w' := by
  have H1 := Lib.hid (fun w' (h : Ext w w') => sameIds_any l.wA m.wA l.wc m.wc l.want m.want w' (hl.w1.ext h) (hm.w1.ext h) (by have := hl.w2; unfold maxLen; omega) (by have := hm.w2; unfold maxLen; omega))
  have H2 := Lib.hid (fun w' (h : Ext w w') => sameEnts_any l.eA m.eA l.ec m.ec l.ents m.ents w' (hl.e1.ext h) (hm.e1.ext h) (by have := hl.e2; unfold maxLen; omega) (by have := hm.e2; unfold maxLen; omega))
  have H3 := Lib.hid (fun w' (h : Ext w w') => sameSnap_any l m w' (hl.m1.ext h) (hm.m1.ext h) (hl.u1.ext h) (hm.u1.ext h) (by have := hl.m2; unfold maxLen; omega) (by have := hl.u2; unfold maxLen; omega) (by have := hm.m2; unfold maxLen; omega) (by have := hm.u2; unfold maxLen; omega))
  have H4 := Lib.hid (fun w' (h : Ext w w') => sameBytes_any l.bA m.bA l.bc m.bc l.bs m.bs w' (hl.b1.ext h) (hm.b1.ext h) (by have := hl.b2; unfold maxLen; omega) (by have := hm.b2; unfold maxLen; omega))
  rw [Let.cont_eq]
  have hV : l.v = .agg l.arr := rfl
  have hV2 : m.v = .agg m.arr := rfl
  rw [hV, hV2]
  have heq1 := eqId l.last.i l.last.t l.last.k m.last.i m.last.t m.last.k
  have heq2 := eqId l.prev.i l.prev.t l.prev.k m.prev.i m.prev.t m.prev.k
  clear hl hm hV hV2
  have HB0 := Lib.hid (heap0 w (.cells l.arr 44) (.cells m.arr 44))
  have HB1 := Lib.hid (heap1 w (.cells l.arr 44) (.cells m.arr 44))
  have HE0 := Lib.hid (((Ext.refl w).alloc (.cells l.arr 44)).alloc (.cells m.arr 44))
  unfold snA at H3
  cases hq0 : (l.kind == m.kind)
  · simp only [Bool.false_and]
    go_enter Tryz.func29, Tryz.ntmps29
    go_upto_region 1 with fail
    simp only [List.append]
    have r0 := cell_of_heap HB0.out
    have r1 := cell_of_heap HB1.out
    go_wp2_with fail
    go_ret
    exact ⟨rfl, HE0.out⟩
  simp only [Bool.true_and]
  cases hq1 : (l.frm == m.frm)
  · simp only [Bool.false_and]
    go_enter Tryz.func29, Tryz.ntmps29
    go_upto_region 1 with fail
    simp only [List.append]
    have r0 := cell_of_heap HB0.out
    have r1 := cell_of_heap HB1.out
    go_wp2_with fail
    go_ret
    exact ⟨rfl, HE0.out⟩
  simp only [Bool.true_and]
  cases hq2 : (l.too == m.too)
  · simp only [Bool.false_and]
    go_enter Tryz.func29, Tryz.ntmps29
    go_upto_region 1 with fail
    simp only [List.append]
    have r0 := cell_of_heap HB0.out
    have r1 := cell_of_heap HB1.out
    go_wp2_with fail
    go_ret
    exact ⟨rfl, HE0.out⟩
  simp only [Bool.true_and]
  cases hq3 : (l.term == m.term)
  · simp only [Bool.false_and]
    go_enter Tryz.func29, Tryz.ntmps29
    go_upto_region 1 with fail
    simp only [List.append]
    have r0 := cell_of_heap HB0.out
    have r1 := cell_of_heap HB1.out
    go_wp2_with fail
    go_ret
    exact ⟨rfl, HE0.out⟩
  simp only [Bool.true_and]
  cases hq4 : (l.index == m.index)
  · simp only [Bool.false_and]
    go_enter Tryz.func29, Tryz.ntmps29
    go_upto_region 1 with fail
    simp only [List.append]
    have r0 := cell_of_heap HB0.out
    have r1 := cell_of_heap HB1.out
    go_wp2_with fail
    go_ret
    exact ⟨rfl, HE0.out⟩
  simp only [Bool.true_and]
  generalize (l.last.i == m.last.i && (l.last.t == m.last.t && l.last.k == m.last.k)) = q5 at heq1 ⊢
  cases q5
  · simp only [Bool.false_and]
    go_enter Tryz.func29, Tryz.ntmps29
    go_upto_region 1 with fail
    simp only [List.append]
    have r0 := cell_of_heap HB0.out
    have r1 := cell_of_heap HB1.out
    go_wp2_with fail
    go_ret
    exact ⟨rfl, HE0.out⟩
  simp only [Bool.true_and]
  generalize (l.prev.i == m.prev.i && (l.prev.t == m.prev.t && l.prev.k == m.prev.k)) = q6 at heq2 ⊢
  cases q6
  · simp only [Bool.false_and]
    go_enter Tryz.func29, Tryz.ntmps29
    go_upto_region 1 with fail
    simp only [List.append]
    have r0 := cell_of_heap HB0.out
    have r1 := cell_of_heap HB1.out
    go_wp2_with fail
    go_ret
    exact ⟨rfl, HE0.out⟩
  simp only [Bool.true_and]
  generalize decide (l.want = m.want) = q7 at H1 ⊢
  cases q7
  · simp only [Bool.false_and]
    go_enter Tryz.func29, Tryz.ntmps29
    go_upto_region 1 with fail
    simp only [List.append]
    have r0 := cell_of_heap HB0.out
    have r1 := cell_of_heap HB1.out
    go_wp2_with fail
    refine (H1.out _ HE0.out).mono ?_
    rintro ev w1 ⟨rfl, hE1⟩
    clear r0 r1
    have r0 := cell_of_heap (hE1.blk HB0.out)
    have r1 := cell_of_heap (hE1.blk HB1.out)
    have HE1 := Lib.hid (HE0.out.trans hE1)
    have HB01 := Lib.hid (hE1.blk HB0.out)
    have HB11 := Lib.hid (hE1.blk HB1.out)
    clear hE1
    go_wp2_with fail
    go_ret
    exact ⟨rfl, HE1.out⟩
  simp only [Bool.true_and]
  cases hq8 : (l.commit == m.commit)
  · simp only [Bool.false_and]
    go_enter Tryz.func29, Tryz.ntmps29
    go_upto_region 1 with fail
    simp only [List.append]
    have r0 := cell_of_heap HB0.out
    have r1 := cell_of_heap HB1.out
    go_wp2_with fail
    refine (H1.out _ HE0.out).mono ?_
    rintro ev w1 ⟨rfl, hE1⟩
    clear r0 r1
    have r0 := cell_of_heap (hE1.blk HB0.out)
    have r1 := cell_of_heap (hE1.blk HB1.out)
    have HE1 := Lib.hid (HE0.out.trans hE1)
    have HB01 := Lib.hid (hE1.blk HB0.out)
    have HB11 := Lib.hid (hE1.blk HB1.out)
    clear hE1
    go_wp2_with fail
    go_ret
    exact ⟨rfl, HE1.out⟩
  simp only [Bool.true_and]
  cases hq9 : (l.yes == m.yes)
  · simp only [Bool.false_and]
    go_enter Tryz.func29, Tryz.ntmps29
    go_upto_region 1 with fail
    simp only [List.append]
    have r0 := cell_of_heap HB0.out
    have r1 := cell_of_heap HB1.out
    go_wp2_with fail
    refine (H1.out _ HE0.out).mono ?_
    rintro ev w1 ⟨rfl, hE1⟩
    clear r0 r1
    have r0 := cell_of_heap (hE1.blk HB0.out)
    have r1 := cell_of_heap (hE1.blk HB1.out)
    have HE1 := Lib.hid (HE0.out.trans hE1)
    have HB01 := Lib.hid (hE1.blk HB0.out)
    have HB11 := Lib.hid (hE1.blk HB1.out)
    clear hE1
    go_wp2_with fail
    go_ret
    exact ⟨rfl, HE1.out⟩
  simp only [Bool.true_and]
  generalize decide (l.ents.map Ent.cont = m.ents.map Ent.cont) = q10 at H2 ⊢
  cases q10
  · simp only [Bool.false_and]
    go_enter Tryz.func29, Tryz.ntmps29
    go_upto_region 1 with fail
    simp only [List.append]
    have r0 := cell_of_heap HB0.out
    have r1 := cell_of_heap HB1.out
    go_wp2_with fail
    refine (H1.out _ HE0.out).mono ?_
    rintro ev w1 ⟨rfl, hE1⟩
    clear r0 r1
    have r0 := cell_of_heap (hE1.blk HB0.out)
    have r1 := cell_of_heap (hE1.blk HB1.out)
    have HE1 := Lib.hid (HE0.out.trans hE1)
    have HB01 := Lib.hid (hE1.blk HB0.out)
    have HB11 := Lib.hid (hE1.blk HB1.out)
    clear hE1
    go_wp2_with fail
    refine (H2.out _ HE1.out).mono ?_
    rintro ev w2 ⟨rfl, hE2⟩
    clear r0 r1
    have r0 := cell_of_heap (hE2.blk HB01.out)
    have r1 := cell_of_heap (hE2.blk HB11.out)
    have HE2 := Lib.hid (HE1.out.trans hE2)
    have HB02 := Lib.hid (hE2.blk HB01.out)
    have HB12 := Lib.hid (hE2.blk HB11.out)
    clear hE2
    go_wp2_with fail
    go_ret
    exact ⟨rfl, HE2.out⟩
  simp only [Bool.true_and]
  generalize decide (l.snc = m.snc) = q11 at H3 ⊢
  cases q11
  · simp only [Bool.false_and]
    go_enter Tryz.func29, Tryz.ntmps29
    go_upto_region 1 with fail
    simp only [List.append]
    have r0 := cell_of_heap HB0.out
    have r1 := cell_of_heap HB1.out
    go_wp2_with fail
    refine (H1.out _ HE0.out).mono ?_
    rintro ev w1 ⟨rfl, hE1⟩
    clear r0 r1
    have r0 := cell_of_heap (hE1.blk HB0.out)
    have r1 := cell_of_heap (hE1.blk HB1.out)
    have HE1 := Lib.hid (HE0.out.trans hE1)
    have HB01 := Lib.hid (hE1.blk HB0.out)
    have HB11 := Lib.hid (hE1.blk HB1.out)
    clear hE1
    go_wp2_with fail
    refine (H2.out _ HE1.out).mono ?_
    rintro ev w2 ⟨rfl, hE2⟩
    clear r0 r1
    have r0 := cell_of_heap (hE2.blk HB01.out)
    have r1 := cell_of_heap (hE2.blk HB11.out)
    have HE2 := Lib.hid (HE1.out.trans hE2)
    have HB02 := Lib.hid (hE2.blk HB01.out)
    have HB12 := Lib.hid (hE2.blk HB11.out)
    clear hE2
    go_wp2_with fail
    refine (H3.out _ HE2.out).mono ?_
    rintro ev w3 ⟨rfl, hE3⟩
    clear r0 r1
    have r0 := cell_of_heap (hE3.blk HB02.out)
    have r1 := cell_of_heap (hE3.blk HB12.out)
    have HE3 := Lib.hid (HE2.out.trans hE3)
    have HB03 := Lib.hid (hE3.blk HB02.out)
    have HB13 := Lib.hid (hE3.blk HB12.out)
    clear hE3
    go_wp2_with fail
    go_ret
    exact ⟨rfl, HE3.out⟩
  simp only [Bool.true_and]
  cases hq12 : (l.piece == m.piece)
  · simp only [Bool.false_and]
    go_enter Tryz.func29, Tryz.ntmps29
    go_upto_region 1 with fail
    simp only [List.append]
    have r0 := cell_of_heap HB0.out
    have r1 := cell_of_heap HB1.out
    go_wp2_with fail
    refine (H1.out _ HE0.out).mono ?_
    rintro ev w1 ⟨rfl, hE1⟩
    clear r0 r1
    have r0 := cell_of_heap (hE1.blk HB0.out)
    have r1 := cell_of_heap (hE1.blk HB1.out)
    have HE1 := Lib.hid (HE0.out.trans hE1)
    have HB01 := Lib.hid (hE1.blk HB0.out)
    have HB11 := Lib.hid (hE1.blk HB1.out)
    clear hE1
    go_wp2_with fail
    refine (H2.out _ HE1.out).mono ?_
    rintro ev w2 ⟨rfl, hE2⟩
    clear r0 r1
    have r0 := cell_of_heap (hE2.blk HB01.out)
    have r1 := cell_of_heap (hE2.blk HB11.out)
    have HE2 := Lib.hid (HE1.out.trans hE2)
    have HB02 := Lib.hid (hE2.blk HB01.out)
    have HB12 := Lib.hid (hE2.blk HB11.out)
    clear hE2
    go_wp2_with fail
    refine (H3.out _ HE2.out).mono ?_
    rintro ev w3 ⟨rfl, hE3⟩
    clear r0 r1
    have r0 := cell_of_heap (hE3.blk HB02.out)
    have r1 := cell_of_heap (hE3.blk HB12.out)
    have HE3 := Lib.hid (HE2.out.trans hE3)
    have HB03 := Lib.hid (hE3.blk HB02.out)
    have HB13 := Lib.hid (hE3.blk HB12.out)
    clear hE3
    go_wp2_with fail
    go_ret
    exact ⟨rfl, HE3.out⟩
  simp only [Bool.true_and]
  generalize decide (l.bs = m.bs) = q13 at H4 ⊢
  cases q13
  all_goals
    go_enter Tryz.func29, Tryz.ntmps29
    go_upto_region 1 with fail
    simp only [List.append]
    have r0 := cell_of_heap HB0.out
    have r1 := cell_of_heap HB1.out
    go_wp2_with fail
    refine (H1.out _ HE0.out).mono ?_
    rintro ev w1 ⟨rfl, hE1⟩
    clear r0 r1
    have r0 := cell_of_heap (hE1.blk HB0.out)
    have r1 := cell_of_heap (hE1.blk HB1.out)
    have HE1 := Lib.hid (HE0.out.trans hE1)
    have HB01 := Lib.hid (hE1.blk HB0.out)
    have HB11 := Lib.hid (hE1.blk HB1.out)
    clear hE1
    go_wp2_with fail
    refine (H2.out _ HE1.out).mono ?_
    rintro ev w2 ⟨rfl, hE2⟩
    clear r0 r1
    have r0 := cell_of_heap (hE2.blk HB01.out)
    have r1 := cell_of_heap (hE2.blk HB11.out)
    have HE2 := Lib.hid (HE1.out.trans hE2)
    have HB02 := Lib.hid (hE2.blk HB01.out)
    have HB12 := Lib.hid (hE2.blk HB11.out)
    clear hE2
    go_wp2_with fail
    refine (H3.out _ HE2.out).mono ?_
    rintro ev w3 ⟨rfl, hE3⟩
    clear r0 r1
    have r0 := cell_of_heap (hE3.blk HB02.out)
    have r1 := cell_of_heap (hE3.blk HB12.out)
    have HE3 := Lib.hid (HE2.out.trans hE3)
    have HB03 := Lib.hid (hE3.blk HB02.out)
    have HB13 := Lib.hid (hE3.blk HB12.out)
    clear hE3
    go_wp2_with fail
    refine (H4.out _ HE3.out).mono ?_
    rintro ev w4 ⟨rfl, hE4⟩
    clear r0 r1
    have r0 := cell_of_heap (hE4.blk HB03.out)
    have r1 := cell_of_heap (hE4.blk HB13.out)
    have HE4 := Lib.hid (HE3.out.trans hE4)
    have HB04 := Lib.hid (hE4.blk HB03.out)
    have HB14 := Lib.hid (hE4.blk HB13.out)
    clear hE4
    go_wp2_with fail
    go_ret
    exact ⟨rfl, HE4.out⟩
end Go.Proofs.YtigljihohpdpeaaGreatDoor
