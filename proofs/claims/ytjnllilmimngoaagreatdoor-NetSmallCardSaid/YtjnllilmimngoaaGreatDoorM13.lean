/-
  What SameX tells, in general: letters.
  Rows whose elements are of more than one cell: what a row of the call's own is, append onto it, clear of its end, a load out of it.
  Rows of letters in memory; what a letter's rows lie apart from.
-/
import Derived.Test.YtjnllilmimngoaaGreatDoorM12
import Derived.Test.YtjnllilmimngoaaGreatDoorM6
import Derived.Deep.MidRow
namespace Go.Proofs.YtjnllilmimngoaaGreatDoor
open Go.RowKit

theorem idEq (p q : Id) : decide (p = q) = (p.i == q.i && (p.t == q.t && p.k == q.k)) := by
  cases p; cases q
  rw [Bool.eq_iff_iff]
  simp
structure LetC where
  kind : Int
  frm : Int
  too : Int
  term : Int
  index : Int
  last : Id
  prev : Id
  want : List Id
  commit : Int
  yes : Bool
  ents : List (Int × Int × Int × List Int)
  snap : Id × List Int × Int × List Int
  piece : Int
  bs : List Int
instance : DecidableEq LetC := fun a b => decidable_of_iff (a.kind = b.kind ∧ a.frm = b.frm ∧ a.too = b.too ∧ a.term = b.term ∧ a.index = b.index ∧ a.last = b.last ∧ a.prev = b.prev ∧ a.want = b.want ∧ a.commit = b.commit ∧ a.yes = b.yes ∧ a.ents = b.ents ∧ a.snap = b.snap ∧ a.piece = b.piece ∧ a.bs = b.bs) (by cases a; cases b; simp)
def Let.cont (l : Let) : LetC := ⟨l.kind, l.frm, l.too, l.term, l.index, l.last, l.prev, l.want, l.commit, l.yes, l.ents.map Ent.cont, l.snc, l.piece, l.bs⟩
theorem Let.cont_eq (l m : Let) : decide (l.cont = m.cont) = ((l.kind == m.kind) && ((l.frm == m.frm) && ((l.too == m.too) && ((l.term == m.term) && ((l.index == m.index) && ((l.last.i == m.last.i && (l.last.t == m.last.t && l.last.k == m.last.k)) && ((l.prev.i == m.prev.i && (l.prev.t == m.prev.t && l.prev.k == m.prev.k)) && (decide (l.want = m.want) && ((l.commit == m.commit) && ((l.yes == m.yes) && (decide (l.ents.map Ent.cont = m.ents.map Ent.cont) && (decide (l.snc = m.snc) && ((l.piece == m.piece) && (decide (l.bs = m.bs))))))))))))))) := by
  rw [← idEq, ← idEq]
  unfold Let.cont
  rw [Bool.eq_iff_iff]
  simp only [decide_eq_true_eq, LetC.mk.injEq, Bool.and_eq_true, beq_iff_eq]
set_option maxRecDepth 100000 in
set_option maxHeartbeats 8000000 in
theorem sameLet_any (l m : Let) (w : World) (hl : l.inW w) (hm : m.inW w) :
    Calls Tryz.prog 26 #[l.v, m.v] w fun e w' => e = .returned (.bool (decide (l.cont = m.cont))) ∧ Ext w w' := by
  have H1 := Lib.hid (fun w' (h : Ext w w') => sameIds_any l.wA m.wA l.wc m.wc l.want m.want w' (hl.w1.ext h) (hm.w1.ext h) (by have := hl.w2; unfold maxLen; omega) (by have := hm.w2; unfold maxLen; omega))
  have H2 := Lib.hid (fun w' (h : Ext w w') => sameEnts_any l.eA m.eA l.ec m.ec l.ents m.ents w' (hl.e1.ext h) (hm.e1.ext h) (by have := hl.e2; unfold maxLen; omega) (by have := hm.e2; unfold maxLen; omega))
  have H3 := Lib.hid (fun w' (h : Ext w w') => sameSnap_any l m w' (hl.m1.ext h) (hm.m1.ext h) (hl.u1.ext h) (hm.u1.ext h) (by have := hl.m2; unfold maxLen; omega) (by have := hl.u2; unfold maxLen; omega) (by have := hm.m2; unfold maxLen; omega) (by have := hm.u2; unfold maxLen; omega))
  have H4 := Lib.hid (fun w' (h : Ext w w') => sameBytes_any l.bA m.bA l.bc m.bc l.bs m.bs w' (hl.b1.ext h) (hm.b1.ext h) (by have := hl.b2; unfold maxLen; omega) (by have := hm.b2; unfold maxLen; omega))
  rw [Let.cont_eq]
  have hV : l.v = .agg l.arr := rfl
  have hV2 : m.v = .agg m.arr := rfl
  rw [hV, hV2]
  have heq1 := eqId l.last.i l.last.t l.last.k m.last.i m.last.t m.last.k
  have heq2 := eqId l.prev.i l.prev.t l.prev.k m.prev.i m.prev.t m.prev.k
  clear hl hm hV hV2
  have HB0 := Lib.hid (heap0 w (.cells l.arr 35) (.cells m.arr 35))
  have HB1 := Lib.hid (heap1 w (.cells l.arr 35) (.cells m.arr 35))
  have HE0 := Lib.hid (((Ext.refl w).alloc (.cells l.arr 35)).alloc (.cells m.arr 35))
  unfold snA at H3
  cases hq0 : (l.kind == m.kind)
  · simp only [Bool.false_and]
    go_enter Tryz.func26, Tryz.ntmps26
    go_upto_region 1 with fail
    simp only [List.append]
    have r0 := cell_of_heap HB0.out
    have r1 := cell_of_heap HB1.out
    go_wp2_with fail
    go_ret
    exact ⟨rfl, HE0.out⟩
  simp only [Bool.true_and]
  cases hq1 : (l.frm == m.frm)
  · simp only [Bool.false_and]
    go_enter Tryz.func26, Tryz.ntmps26
    go_upto_region 1 with fail
    simp only [List.append]
    have r0 := cell_of_heap HB0.out
    have r1 := cell_of_heap HB1.out
    go_wp2_with fail
    go_ret
    exact ⟨rfl, HE0.out⟩
  simp only [Bool.true_and]
  cases hq2 : (l.too == m.too)
  · simp only [Bool.false_and]
    go_enter Tryz.func26, Tryz.ntmps26
    go_upto_region 1 with fail
    simp only [List.append]
    have r0 := cell_of_heap HB0.out
    have r1 := cell_of_heap HB1.out
    go_wp2_with fail
    go_ret
    exact ⟨rfl, HE0.out⟩
  simp only [Bool.true_and]
  cases hq3 : (l.term == m.term)
  · simp only [Bool.false_and]
    go_enter Tryz.func26, Tryz.ntmps26
    go_upto_region 1 with fail
    simp only [List.append]
    have r0 := cell_of_heap HB0.out
    have r1 := cell_of_heap HB1.out
    go_wp2_with fail
    go_ret
    exact ⟨rfl, HE0.out⟩
  simp only [Bool.true_and]
  cases hq4 : (l.index == m.index)
  · simp only [Bool.false_and]
    go_enter Tryz.func26, Tryz.ntmps26
    go_upto_region 1 with fail
    simp only [List.append]
    have r0 := cell_of_heap HB0.out
    have r1 := cell_of_heap HB1.out
    go_wp2_with fail
    go_ret
    exact ⟨rfl, HE0.out⟩
  simp only [Bool.true_and]
  generalize (l.last.i == m.last.i && (l.last.t == m.last.t && l.last.k == m.last.k)) = q5 at heq1 ⊢
  cases q5
  · simp only [Bool.false_and]
    go_enter Tryz.func26, Tryz.ntmps26
    go_upto_region 1 with fail
    simp only [List.append]
    have r0 := cell_of_heap HB0.out
    have r1 := cell_of_heap HB1.out
    go_wp2_with fail
    go_ret
    exact ⟨rfl, HE0.out⟩
  simp only [Bool.true_and]
  generalize (l.prev.i == m.prev.i && (l.prev.t == m.prev.t && l.prev.k == m.prev.k)) = q6 at heq2 ⊢
  cases q6
  · simp only [Bool.false_and]
    go_enter Tryz.func26, Tryz.ntmps26
    go_upto_region 1 with fail
    simp only [List.append]
    have r0 := cell_of_heap HB0.out
    have r1 := cell_of_heap HB1.out
    go_wp2_with fail
    go_ret
    exact ⟨rfl, HE0.out⟩
  simp only [Bool.true_and]
  generalize decide (l.want = m.want) = q7 at H1 ⊢
  cases q7
  · simp only [Bool.false_and]
    go_enter Tryz.func26, Tryz.ntmps26
    go_upto_region 1 with fail
    simp only [List.append]
    have r0 := cell_of_heap HB0.out
    have r1 := cell_of_heap HB1.out
    go_wp2_with fail
    refine (H1.out _ HE0.out).mono ?_
    rintro ev w1 ⟨rfl, hE1⟩
    clear r0 r1
    have r0 := cell_of_heap (hE1.blk HB0.out)
    have r1 := cell_of_heap (hE1.blk HB1.out)
    have HE1 := Lib.hid (HE0.out.trans hE1)
    have HB01 := Lib.hid (hE1.blk HB0.out)
    have HB11 := Lib.hid (hE1.blk HB1.out)
    clear hE1
    go_wp2_with fail
    go_ret
    exact ⟨rfl, HE1.out⟩
  simp only [Bool.true_and]
  cases hq8 : (l.commit == m.commit)
  · simp only [Bool.false_and]
    go_enter Tryz.func26, Tryz.ntmps26
    go_upto_region 1 with fail
    simp only [List.append]
    have r0 := cell_of_heap HB0.out
    have r1 := cell_of_heap HB1.out
    go_wp2_with fail
    refine (H1.out _ HE0.out).mono ?_
    rintro ev w1 ⟨rfl, hE1⟩
    clear r0 r1
    have r0 := cell_of_heap (hE1.blk HB0.out)
    have r1 := cell_of_heap (hE1.blk HB1.out)
    have HE1 := Lib.hid (HE0.out.trans hE1)
    have HB01 := Lib.hid (hE1.blk HB0.out)
    have HB11 := Lib.hid (hE1.blk HB1.out)
    clear hE1
    go_wp2_with fail
    go_ret
    exact ⟨rfl, HE1.out⟩
  simp only [Bool.true_and]
  cases hq9 : (l.yes == m.yes)
  · simp only [Bool.false_and]
    go_enter Tryz.func26, Tryz.ntmps26
    go_upto_region 1 with fail
    simp only [List.append]
    have r0 := cell_of_heap HB0.out
    have r1 := cell_of_heap HB1.out
    go_wp2_with fail
    refine (H1.out _ HE0.out).mono ?_
    rintro ev w1 ⟨rfl, hE1⟩
    clear r0 r1
    have r0 := cell_of_heap (hE1.blk HB0.out)
    have r1 := cell_of_heap (hE1.blk HB1.out)
    have HE1 := Lib.hid (HE0.out.trans hE1)
    have HB01 := Lib.hid (hE1.blk HB0.out)
    have HB11 := Lib.hid (hE1.blk HB1.out)
    clear hE1
    go_wp2_with fail
    go_ret
    exact ⟨rfl, HE1.out⟩
  simp only [Bool.true_and]
  generalize decide (l.ents.map Ent.cont = m.ents.map Ent.cont) = q10 at H2 ⊢
  cases q10
  · simp only [Bool.false_and]
    go_enter Tryz.func26, Tryz.ntmps26
    go_upto_region 1 with fail
    simp only [List.append]
    have r0 := cell_of_heap HB0.out
    have r1 := cell_of_heap HB1.out
    go_wp2_with fail
    refine (H1.out _ HE0.out).mono ?_
    rintro ev w1 ⟨rfl, hE1⟩
    clear r0 r1
    have r0 := cell_of_heap (hE1.blk HB0.out)
    have r1 := cell_of_heap (hE1.blk HB1.out)
    have HE1 := Lib.hid (HE0.out.trans hE1)
    have HB01 := Lib.hid (hE1.blk HB0.out)
    have HB11 := Lib.hid (hE1.blk HB1.out)
    clear hE1
    go_wp2_with fail
    refine (H2.out _ HE1.out).mono ?_
    rintro ev w2 ⟨rfl, hE2⟩
    clear r0 r1
    have r0 := cell_of_heap (hE2.blk HB01.out)
    have r1 := cell_of_heap (hE2.blk HB11.out)
    have HE2 := Lib.hid (HE1.out.trans hE2)
    have HB02 := Lib.hid (hE2.blk HB01.out)
    have HB12 := Lib.hid (hE2.blk HB11.out)
    clear hE2
    go_wp2_with fail
    go_ret
    exact ⟨rfl, HE2.out⟩
  simp only [Bool.true_and]
  generalize decide (l.snc = m.snc) = q11 at H3 ⊢
  cases q11
  · simp only [Bool.false_and]
    go_enter Tryz.func26, Tryz.ntmps26
    go_upto_region 1 with fail
    simp only [List.append]
    have r0 := cell_of_heap HB0.out
    have r1 := cell_of_heap HB1.out
    go_wp2_with fail
    refine (H1.out _ HE0.out).mono ?_
    rintro ev w1 ⟨rfl, hE1⟩
    clear r0 r1
    have r0 := cell_of_heap (hE1.blk HB0.out)
    have r1 := cell_of_heap (hE1.blk HB1.out)
    have HE1 := Lib.hid (HE0.out.trans hE1)
    have HB01 := Lib.hid (hE1.blk HB0.out)
    have HB11 := Lib.hid (hE1.blk HB1.out)
    clear hE1
    go_wp2_with fail
    refine (H2.out _ HE1.out).mono ?_
    rintro ev w2 ⟨rfl, hE2⟩
    clear r0 r1
    have r0 := cell_of_heap (hE2.blk HB01.out)
    have r1 := cell_of_heap (hE2.blk HB11.out)
    have HE2 := Lib.hid (HE1.out.trans hE2)
    have HB02 := Lib.hid (hE2.blk HB01.out)
    have HB12 := Lib.hid (hE2.blk HB11.out)
    clear hE2
    go_wp2_with fail
    refine (H3.out _ HE2.out).mono ?_
    rintro ev w3 ⟨rfl, hE3⟩
    clear r0 r1
    have r0 := cell_of_heap (hE3.blk HB02.out)
    have r1 := cell_of_heap (hE3.blk HB12.out)
    have HE3 := Lib.hid (HE2.out.trans hE3)
    have HB03 := Lib.hid (hE3.blk HB02.out)
    have HB13 := Lib.hid (hE3.blk HB12.out)
    clear hE3
    go_wp2_with fail
    go_ret
    exact ⟨rfl, HE3.out⟩
  simp only [Bool.true_and]
  cases hq12 : (l.piece == m.piece)
  · simp only [Bool.false_and]
    go_enter Tryz.func26, Tryz.ntmps26
    go_upto_region 1 with fail
    simp only [List.append]
    have r0 := cell_of_heap HB0.out
    have r1 := cell_of_heap HB1.out
    go_wp2_with fail
    refine (H1.out _ HE0.out).mono ?_
    rintro ev w1 ⟨rfl, hE1⟩
    clear r0 r1
    have r0 := cell_of_heap (hE1.blk HB0.out)
    have r1 := cell_of_heap (hE1.blk HB1.out)
    have HE1 := Lib.hid (HE0.out.trans hE1)
    have HB01 := Lib.hid (hE1.blk HB0.out)
    have HB11 := Lib.hid (hE1.blk HB1.out)
    clear hE1
    go_wp2_with fail
    refine (H2.out _ HE1.out).mono ?_
    rintro ev w2 ⟨rfl, hE2⟩
    clear r0 r1
    have r0 := cell_of_heap (hE2.blk HB01.out)
    have r1 := cell_of_heap (hE2.blk HB11.out)
    have HE2 := Lib.hid (HE1.out.trans hE2)
    have HB02 := Lib.hid (hE2.blk HB01.out)
    have HB12 := Lib.hid (hE2.blk HB11.out)
    clear hE2
    go_wp2_with fail
    refine (H3.out _ HE2.out).mono ?_
    rintro ev w3 ⟨rfl, hE3⟩
    clear r0 r1
    have r0 := cell_of_heap (hE3.blk HB02.out)
    have r1 := cell_of_heap (hE3.blk HB12.out)
    have HE3 := Lib.hid (HE2.out.trans hE3)
    have HB03 := Lib.hid (hE3.blk HB02.out)
    have HB13 := Lib.hid (hE3.blk HB12.out)
    clear hE3
    go_wp2_with fail
    go_ret
    exact ⟨rfl, HE3.out⟩
  simp only [Bool.true_and]
  generalize decide (l.bs = m.bs) = q13 at H4 ⊢
  cases q13
  all_goals
    go_enter Tryz.func26, Tryz.ntmps26
    go_upto_region 1 with fail
    simp only [List.append]
    have r0 := cell_of_heap HB0.out
    have r1 := cell_of_heap HB1.out
    go_wp2_with fail
    refine (H1.out _ HE0.out).mono ?_
    rintro ev w1 ⟨rfl, hE1⟩
    clear r0 r1
    have r0 := cell_of_heap (hE1.blk HB0.out)
    have r1 := cell_of_heap (hE1.blk HB1.out)
    have HE1 := Lib.hid (HE0.out.trans hE1)
    have HB01 := Lib.hid (hE1.blk HB0.out)
    have HB11 := Lib.hid (hE1.blk HB1.out)
    clear hE1
    go_wp2_with fail
    refine (H2.out _ HE1.out).mono ?_
    rintro ev w2 ⟨rfl, hE2⟩
    clear r0 r1
    have r0 := cell_of_heap (hE2.blk HB01.out)
    have r1 := cell_of_heap (hE2.blk HB11.out)
    have HE2 := Lib.hid (HE1.out.trans hE2)
    have HB02 := Lib.hid (hE2.blk HB01.out)
    have HB12 := Lib.hid (hE2.blk HB11.out)
    clear hE2
    go_wp2_with fail
    refine (H3.out _ HE2.out).mono ?_
    rintro ev w3 ⟨rfl, hE3⟩
    clear r0 r1
    have r0 := cell_of_heap (hE3.blk HB02.out)
    have r1 := cell_of_heap (hE3.blk HB12.out)
    have HE3 := Lib.hid (HE2.out.trans hE3)
    have HB03 := Lib.hid (hE3.blk HB02.out)
    have HB13 := Lib.hid (hE3.blk HB12.out)
    clear hE3
    go_wp2_with fail
    refine (H4.out _ HE3.out).mono ?_
    rintro ev w4 ⟨rfl, hE4⟩
    clear r0 r1
    have r0 := cell_of_heap (hE4.blk HB03.out)
    have r1 := cell_of_heap (hE4.blk HB13.out)
    have HE4 := Lib.hid (HE3.out.trans hE4)
    have HB04 := Lib.hid (hE4.blk HB03.out)
    have HB14 := Lib.hid (hE4.blk HB13.out)
    clear hE4
    go_wp2_with fail
    go_ret
    exact ⟨rfl, HE4.out⟩
end Go.Proofs.YtjnllilmimngoaaGreatDoor
namespace Go.Proofs.YtjnllilmimngoaaGreatDoor
open Go.RowKit

def OwnW (sz : Nat) (w : World) (B : Nat) (e : TypeId) (A : Option Addr) (n c : Nat) (xs : List Value) : Prop := w.ownsRow B e sz (.slice A n c) n xs

section
variable {sz : Nat} {w w' : World} {B n c : Nat} {e : TypeId} {A : Option Addr} {xs : List Value}
theorem OwnW.nil (sz : Nat) (w : World) (B : Nat) (e : TypeId) : OwnW sz w B e none 0 0 [] := World.ownsRow_nil w B e sz
theorem OwnW.len (h : OwnW sz w B e A n c xs) : xs.length = n * sz := h.1
theorem OwnW.cases (h : OwnW sz w B e A n c xs) : (A = none ∧ n = 0 ∧ c = 0 ∧ xs = []) ∨ ∃ g cur, A = some ⟨g, 0, none⟩ ∧ B ≤ g ∧ g < w.heap.size ∧ w.heap[g]? = some (.cells cur e (0, 0)) ∧ n ≤ c ∧ c ≤ maxLen ∧ cur.size = c * sz ∧ cur.toList.take (n * sz) = xs := by
  have hl := h.1
  rcases h.2 with ⟨h1, h2⟩ | ⟨g, cap, cur, h1, hB, hh, hle, hm, hs, ht⟩
  · injection h1 with h3 h4 h5
    subst h2
    exact .inl ⟨h3, rfl, h5, List.eq_nil_of_length_eq_zero (by simpa using hl)⟩
  · injection h1 with h3 h4 h5
    subst h5
    exact .inr ⟨g, cur, h3, hB, heap_lt hh, hh, hle, hm, hs, ht⟩
theorem OwnW.mk {g : Nat} {cur : Array Value} (hB : B ≤ g) (hh : w.heap[g]? = some (.cells cur e (0, 0))) (hle : n ≤ c) (hm : c ≤ maxLen) (hs : cur.size = c * sz) (ht : cur.toList.take (n * sz) = xs) : OwnW sz w B e (some ⟨g, 0, none⟩) n c xs := by
  refine ⟨?_, .inr ⟨g, c, cur, rfl, hB, hh, hle, hm, hs, ht⟩⟩
  rw [← ht, List.length_take, Array.length_toList, hs]
  exact Nat.min_eq_left (Nat.mul_le_mul_right _ hle)
theorem OwnW.lt (h : OwnW sz w B e A n c xs) {i : Nat} (hi : blk A i) : B ≤ i ∧ i < w.heap.size := by
  rcases h.cases with ⟨rfl, _⟩ | ⟨g, cur, rfl, hB, hg, _⟩
  · simp [blk] at hi
  · simp [blk] at hi; subst hi; exact ⟨hB, hg⟩
theorem OwnW.cap (h : OwnW sz w B e A n c xs) : n ≤ c ∧ c ≤ maxLen := by
  rcases h.cases with ⟨rfl, rfl, rfl, rfl⟩ | ⟨g, cur, rfl, hB, hg, _, h1, h2, _⟩
  · exact ⟨by simp, by simp⟩
  · exact ⟨h1, h2⟩
theorem OwnW.rd (h : OwnW sz w B e A n c xs) : Rd w A xs := fun j u hj => by
  rcases h.cases with ⟨rfl, rfl, rfl, rfl⟩ | ⟨g, cur, rfl, hB, hg, hh, h1, h2, h3, h4⟩
  · simp at hj
  · refine ⟨_, rfl, ?_⟩
    rw [add_lit', Nat.zero_add, cell_of_heap hh]
    rw [← h4, List.getElem?_take] at hj
    split at hj
    · simpa using hj
    · cases hj
theorem OwnW.keep (h : OwnW sz w B e A n c xs) (hk : ∀ i, blk A i → i < w.heap.size → w'.heap[i]? = w.heap[i]?) : OwnW sz w' B e A n c xs := by
  rcases h.cases with ⟨rfl, rfl, rfl, rfl⟩ | ⟨g, cur, rfl, hB, hg, hh, h1, h2, h3, h4⟩
  · exact OwnW.nil sz w' B e
  · exact OwnW.mk hB ((hk g rfl hg).trans hh) h1 h2 h3 h4
theorem OwnW.fr {S : Nat → Prop} (h : OwnW sz w B e A n c xs) (hf : Fr S w w') (ho : ∀ i, blk A i → ¬ S i) : OwnW sz w' B e A n c xs :=
  h.keep fun i hi hlt => hf.block i hlt (ho i hi)
theorem OwnW.ext (h : OwnW sz w B e A n c xs) (he : Ext w w') : OwnW sz w' B e A n c xs := h.keep fun i _ hlt => he.below.block i hlt
theorem OwnW.raise {B' : Nat} (h : OwnW sz w B e A n c xs) (hB : ∀ i, blk A i → B' ≤ i) : OwnW sz w B' e A n c xs := by
  rcases h.cases with ⟨rfl, rfl, rfl, rfl⟩ | ⟨g, cur, rfl, hb, hg, hh, h1, h2, h3, h4⟩
  · exact OwnW.nil sz w B' e
  · exact OwnW.mk (hB g rfl) hh h1 h2 h3 h4
theorem OwnW.ne_blk {e' : TypeId} {g : Nat} {cs : Array Value} {fz : Nat × Nat} (h : OwnW sz w B e A n c xs) (h' : w.heap[g]? = some (.cells cs e' fz)) (hne : e ≠ e') : ¬ blk A g := by
  intro hi
  rcases h.cases with ⟨rfl, _⟩ | ⟨g', cur, rfl, _, _, hh, _⟩
  · simp [blk] at hi
  · simp [blk] at hi
    subst hi
    rw [hh] at h'
    injection h' with h'
    injection h' with _ ht _
    exact hne ht
theorem OwnW.ne {sz' : Nat} {e' : TypeId} {A' : Option Addr} {n' c' : Nat} {xs' : List Value} {B' : Nat} (h : OwnW sz w B e A n c xs) (h' : OwnW sz' w B' e' A' n' c' xs') (hne : e ≠ e') {i : Nat} (hi : blk A i) : ¬ blk A' i := by
  intro hi'
  rcases h'.cases with ⟨rfl, _⟩ | ⟨g', cur, rfl, _, _, hh, _⟩
  · simp [blk] at hi'
  · simp [blk] at hi'
    subst hi'
    exact h.ne_blk hh hne hi
theorem OwnW.frozen {g : Nat} (h : OwnW sz w B e (some ⟨g, 0, none⟩) n c xs) (j : Nat) : w.frozen? ⟨g, j, none⟩ = false := by
  rcases h.cases with ⟨h0, _⟩ | ⟨g', cur, hg', hB, hg, hh, h1, h2, h3, h4⟩
  · cases h0
  · injection hg' with hg'; injection hg' with hg'; subst hg'
    exact frozen_of_heap hh j
theorem OwnW.some_ (h : OwnW sz w B e A n c xs) (hx : 0 < n) : ∃ g, A = some ⟨g, 0, none⟩ := by
  rcases h.cases with ⟨_, rfl, _⟩ | ⟨g, cur, rfl, _⟩
  · omega
  · exact ⟨g, rfl⟩
end

/-- What an append leaves. -/
def GrewW (sz : Nat) (w : World) (B : Nat) (e : TypeId) (A : Option Addr) (n : Nat) (xs : List Value) (v' : Value) (w' : World) : Prop :=
  ∃ A' c', v' = .slice A' n c' ∧ OwnW sz w' B e A' n c' xs ∧ Fr (blk A) w w' ∧ (∀ i, blk A' i → blk A i ∨ w.heap.size ≤ i)

section
variable {P : Program} (w : World)
theorem grewW_new {sz B : Nat} {e : TypeId} {A : Option Addr} {n m : Nat} (z : Value) (hz : z.cells.size = sz) (xs news : List Value) (old : Nat) (hx : xs.length = n * sz) (hn : news.length = m * sz) (h63 : n + m ≤ maxLen) (hB : B ≤ w.heap.size) :
    GrewW sz w B e A (n + m) (xs ++ news) (.slice (some ⟨w.heap.size, 0, none⟩) (n + m) (grownCap w (n + m) old e))
      (w.drew.alloc (.cells (xs.toArray ++ news.toArray ++ Builtin.zeroCells z.cells (grownCap w (n + m) old e - (n + m))) e)) := by
  have hge := grownCap_ge w (n + m) old e
  have hcm : grownCap w (n + m) old e ≤ maxLen := grownCap_le_maxLen w _ old e h63
  have hl : (xs ++ news).length = (n + m) * sz := by rw [List.length_append, hx, hn, Nat.add_mul]
  refine ⟨_, _, rfl, OwnW.mk hB (heap_alloc_new w.drew _) hge hcm ?_ ?_, ⟨rfl, rfl, rfl, by simp, fun k hk _ => by first | exact heap_alloc_old w.drew _ hk | exact heap_alloc_old w.drew _ k hk⟩, fun i hi => .inr (by simp [blk] at hi; omega)⟩
  · simp only [Array.size_append, List.size_toArray, size_zeroCells, hz, hx, hn, ← Nat.add_mul]
    congr 1
    omega
  · simp only [Array.toList_append, List.append_assoc]
    rw [← List.append_assoc, ← hl]
    exact List.take_left

theorem run_append_W (t ty e : TypeId) (i : TypeInfo) (z : Value) (sz bytes : Nat) (ht : P.underlying t = some (.slice e)) (hi : P.info? e = some i) (hz : i.zero = some z)
    (hsize : i.size = sz) (hsz : 0 < sz) (hby : i.bytes = bytes) (hzs : z.cells.size = sz) (B : Nat) (A : Option Addr) (n c : Nat) (xs : List Value) (hown : OwnW sz w B e A n c xs)
    (D : Option Addr) (m cc : Nat) (news : List Value) (hl : news.length = m * sz) (hr : Rd w D news) (h1 : ∀ u ∈ news, u.oneCell' = true)
    (h63 : n + m ≤ maxLen) (hbytes : (n + m) * bytes ≤ 140737488355328) (hbase : B ≤ w.heap.size) :
    ∃ v' w', (Builtin.append_ #[t, t] ty #[.slice A n c, .slice D m cc]).run P w = .ok v' w' ∧ GrewW sz w B e A (n + m) (xs ++ news) v' w' ∧ (m = 0 → v' = .slice A n c) ∧ ((n + m ≤ c ∧ v' = .slice A (n + m) c) ∨ (c < n + m ∧ Ext w w')) := by
  subst hsize
  subst hby
  have hsmall : n + m ≤ 9223372036854775807 := by simp only [maxLen] at h63; omega
  by_cases hm : m = 0
  · subst hm
    have hn : news = [] := List.eq_nil_of_length_eq_zero (by simpa using hl)
    subst hn
    refine ⟨.slice A n c, w, ?_, ⟨A, c, by simp, by simpa using hown, Fr.refl _ _, fun _ h => .inl h⟩, fun _ => rfl, .inl ⟨hown.cap.1, rfl⟩⟩
    have hle := hown.cap.1
    rcases hown.cases with ⟨rfl, rfl, rfl, rfl⟩ | ⟨g, cur, rfl, hB, hg, hh, hle, hm, hs, htk⟩ <;> cases D <;>
      simp [Builtin.append_, run_underlying ht, sizeOf, typeInfo, hi, Builtin.lenOf, Builtin.firstCells, loadCells, loadCellsFrom, storeCells, hle]
  · have hpos : 0 < news.length := by rw [hl]; exact Nat.mul_pos (by omega) hsz
    obtain ⟨ad, rfl, _⟩ := hr 0 news[0] (List.getElem?_eq_getElem hpos)
    have hnews : ∀ j u, news[j]? = some u → w.cell? (ad.add j) = some u := fun j u hj => by
      obtain ⟨ad', ha, hc⟩ := hr j u hj
      injection ha with ha; subst ha; exact hc
    rcases hown.cases with ⟨rfl, rfl, rfl, rfl⟩ | ⟨g, cur, rfl, hB, hg, hh, hle, hcm, hs, htk⟩
    · have hr := run_append_nil (P := P) w t ty e i z ht hi hz ad m cc news hl hnews (by omega) (by omega) (by simp at hbytes; omega)
      have hg := grewW_new w (sz := i.size) (B := B) (e := e) (A := none) (n := 0) (m := m) z hzs [] news 0 (by simp) hl h63 hbase
      simp only [Nat.zero_add, List.nil_append, Array.empty_append] at hg hr ⊢
      exact ⟨_, _, hr, hg, fun h => absurd h hm, .inr ⟨by omega, ((Ext.refl w).drew).alloc _⟩⟩
    · by_cases hroom : n + m ≤ c
      · have hfit : n * i.size + news.length ≤ cur.size := by rw [hl, hs, ← Nat.add_mul]; exact Nat.mul_le_mul_right _ hroom
        have hr := run_append_room (P := P) w t ty e i ht hi g n c cur hh ad m cc news hl hnews h1 hroom hfit
        have hxl : xs.length = n * i.size := hown.len
        refine ⟨_, _, hr, ⟨_, _, rfl, OwnW.mk hB (setRow_heap w g cur _ e _ hh) hroom hcm ?_ ?_, ⟨rfl, rfl, rfl, by simp [World.setRow], fun k _ hk => setRow_other w g k _ (fun e => hk (by simp [blk, e]))⟩, fun _ h => .inl h⟩, fun h => absurd h hm, .inl ⟨hroom, rfl⟩⟩
        · simp only [List.size_toArray, List.length_append, List.length_take, List.length_drop, Array.length_toList]
          omega
        · rw [htk, show (n + m) * i.size = (xs ++ news).length by rw [List.length_append, hxl, hl, Nat.add_mul]]
          exact List.take_left
      · have holds : ∀ j u, xs[j]? = some u → w.cell? ((⟨g, 0, none⟩ : Addr).add j) = some u := fun j u hj => by
          obtain ⟨ad', ha, hc⟩ := hown.rd j u hj
          injection ha with ha; subst ha; exact hc
        have hr := run_append_grow (P := P) w t ty e i z ht hi hz ⟨g, 0, none⟩ n c xs hown.len holds ad m cc news hl hnews (by omega) (by omega) (growslice_fits (by omega) hbytes)
        exact ⟨_, _, hr, grewW_new w z hzs xs news c hown.len hl h63 hbase, fun h => absurd h hm, .inr ⟨by omega, ((Ext.refl w).drew).alloc _⟩⟩
end
end Go.Proofs.YtjnllilmimngoaaGreatDoor
namespace Go.Proofs.YtjnllilmimngoaaGreatDoor
open Go.RowKit

theorem infoLetP : (Tryz.prog.info? 35).map (fun i => (i.zero.map (fun z => z.cells.size), i.size, i.bytes)) = some (some 23, 23, 264) := by kernel_rfl
def flat (ls : List Let) : List Value := ls.flatMap fun l => l.arr.toList
theorem arr_len (l : Let) : l.arr.toList.length = 23 := by simp [Let.arr]
theorem flat_length (ls : List Let) : (flat ls).length = ls.length * 23 := by
  induction ls with
  | nil => rfl
  | cons l ls ih => simp only [flat, List.flatMap_cons, List.length_append, List.length_cons, arr_len] at ih ⊢; omega
theorem flat_append (ls ms : List Let) : flat (ls ++ ms) = flat ls ++ flat ms := by simp [flat]
theorem flat_get {ls : List Let} {k : Nat} {l : Let} (h : ls[k]? = some l) {j : Nat} {u : Value} (hj : l.arr.toList[j]? = some u) : (flat ls)[k * 23 + j]? = some u := by
  induction ls generalizing k with
  | nil => simp at h
  | cons x xs ih =>
    have hl := (List.getElem?_eq_some_iff.1 hj).1
    rw [arr_len] at hl
    simp only [flat, List.flatMap_cons]
    cases k with
    | zero =>
      simp at h
      subst h
      rw [List.getElem?_append_left (by rw [arr_len]; omega)]
      simpa using hj
    | succ k =>
      rw [List.getElem?_append_right (by rw [arr_len]; omega), arr_len, show (k + 1) * 23 + j - 23 = k * 23 + j by omega]
      exact ih (by simpa using h)
theorem flat_inv {ls : List Let} {i : Nat} {u : Value} (h : (flat ls)[i]? = some u) : ∃ (k : Nat) (l : Let) (j : Nat), i = k * 23 + j ∧ ls[k]? = some l ∧ l.arr.toList[j]? = some u := by
  induction ls generalizing i with
  | nil => simp [flat] at h
  | cons x xs ih =>
    simp only [flat, List.flatMap_cons] at h
    by_cases hi : i < 23
    · rw [List.getElem?_append_left (by rw [arr_len]; omega)] at h
      exact ⟨0, x, i, by omega, rfl, h⟩
    · rw [List.getElem?_append_right (by rw [arr_len]; omega), arr_len] at h
      obtain ⟨k, l, j, h1, h2, h3⟩ := ih h
      exact ⟨k + 1, l, j, by omega, by simpa using h2, h3⟩
theorem flat_one (ls : List Let) : ∀ u ∈ flat ls, u.oneCell' = true := fun u hu => by
  obtain ⟨l, _, hl⟩ := List.mem_flatMap.1 hu
  exact l.one u (by simpa using hl)

/-- The letters ls lie one behind the other from A on. -/
def LetsIn (w : World) (A : Option Addr) (ls : List Let) : Prop := ∀ k l, ls[k]? = some l → ∃ b f, A = some ⟨b, f, none⟩ ∧ World.rangeAt w b (f + k * 23) l.arr.toList ∧ l.inW w
theorem LetsIn.nil (w : World) (A : Option Addr) : LetsIn w A [] := fun k l h => by simp at h
theorem LetsIn.at_ {w : World} {A : Option Addr} {ls : List Let} (h : LetsIn w A ls) {k : Nat} (hk : k < ls.length) : ∃ b f l, A = some ⟨b, f, none⟩ ∧ ls[k]? = some l ∧ World.rangeAt w b (f + k * 23) l.arr.toList ∧ l.inW w := by
  obtain ⟨b, f, h1, h2⟩ := h k _ (List.getElem?_eq_getElem hk)
  exact ⟨b, f, ls[k], h1, List.getElem?_eq_getElem hk, h2⟩
theorem LetsIn.ext {w w' : World} {A : Option Addr} {ls : List Let} (h : LetsIn w A ls) (he : Ext w w') : LetsIn w' A ls := fun k l hk => by
  obtain ⟨b, f, h1, h2, h3⟩ := h k l hk
  exact ⟨b, f, h1, fun j v hv => he.cell (h2 j v hv), h3.ext he⟩
theorem LetsIn.rd {w : World} {A : Option Addr} {ls : List Let} (h : LetsIn w A ls) : Rd w A (flat ls) := fun i u hu => by
  obtain ⟨k, l, j, rfl, h2, h3⟩ := flat_inv hu
  obtain ⟨b, f, h4, h5, _⟩ := h k l h2
  refine ⟨_, h4, ?_⟩
  rw [add_lit', ← Nat.add_assoc]
  exact h5 j u h3
theorem LetsIn.of {w : World} {b f : Nat} {ls : List Let} (h : Rd w (some ⟨b, f, none⟩) (flat ls)) (ha : ∀ l ∈ ls, l.inW w) : LetsIn w (some ⟨b, f, none⟩) ls := fun k l hk => by
  refine ⟨b, f, rfl, fun j v hv => ?_, ha l (List.mem_of_getElem? hk)⟩
  obtain ⟨ad, h1, h2⟩ := h _ _ (flat_get hk hv)
  injection h1 with h1
  subst h1
  rwa [add_lit', ← Nat.add_assoc] at h2
theorem LetsIn.own {w : World} {B c n : Nat} {e : TypeId} {A : Option Addr} {ls : List Let} (h : OwnW 23 w B e A n c (flat ls)) (ha : ∀ l ∈ ls, l.inW w) : LetsIn w A ls := by
  rcases h.cases with ⟨rfl, rfl, rfl, h0⟩ | ⟨g, cur, rfl, _⟩
  · have hl := flat_length ls
    rw [h0] at hl
    have : ls = [] := List.eq_nil_of_length_eq_zero (by simp at hl; omega)
    subst this
    exact LetsIn.nil w none
  · exact LetsIn.of h.rd ha

/-- What a letter's rows lie apart from. -/
structure Let.off (S : Nat → Prop) (l : Let) : Prop where
  w1 : l.want ≠ [] → Off S l.wA
  e1 : l.ents ≠ [] → Off S l.eA
  e2 : ∀ e ∈ l.ents, e.bs ≠ [] → Off S e.bA
  m1 : l.mems ≠ [] → Off S l.mA
  u1 : l.sums ≠ [] → Off S l.uA
  b1 : l.bs ≠ [] → Off S l.bA
theorem Rd.fr' {S : Nat → Prop} {w w' : World} {A : Option Addr} {xs : List Value} (h : Rd w A xs) (hf : Fr S w w') (ho : xs ≠ [] → Off S A) : Rd w' A xs := fun j u hj => by
  have hx : xs ≠ [] := by rintro rfl; simp at hj
  obtain ⟨ad, ha, hc⟩ := h j u hj
  exact ⟨ad, ha, hf.cell (by rw [add_block]; exact ho hx ad ha) hc⟩
theorem IdsIn.fr {S : Nat → Prop} {w w' : World} {A : Option Addr} {ps : List Id} (h : IdsIn w A ps) (hf : Fr S w w') (ho : ps ≠ [] → Off S A) : IdsIn w' A ps := fun j p hj => by
  have hx : ps ≠ [] := by rintro rfl; simp at hj
  obtain ⟨b, f, ha, h1, h2, h3⟩ := h j p hj
  have hb : ¬ S b := ho hx _ ha
  exact ⟨b, f, ha, hf.cell hb h1, hf.cell hb h2, hf.cell hb h3⟩
theorem EntsIn.fr {S : Nat → Prop} {w w' : World} {A : Option Addr} {es : List Ent} (h : EntsIn w A es) (hf : Fr S w w') (ho : es ≠ [] → Off S A) (ho2 : ∀ e ∈ es, e.bs ≠ [] → Off S e.bA) : EntsIn w' A es := fun j e hj => by
  have hx : es ≠ [] := by rintro rfl; simp at hj
  obtain ⟨b, f, ha, h1, h2, h3, h4, h5, h6⟩ := h j e hj
  have hb : ¬ S b := ho hx _ ha
  exact ⟨b, f, ha, hf.cell hb h1, hf.cell hb h2, hf.cell hb h3, hf.cell hb h4, h5.fr' hf (fun hn => ho2 e (List.mem_of_getElem? hj) (by rintro h0; rw [h0] at hn; exact hn rfl)), h6⟩
theorem map_ne {α β : Type} {f : α → β} {l : List α} (h : l.map f ≠ []) : l ≠ [] := by rintro rfl; exact h rfl
theorem Let.inW.fr {S : Nat → Prop} {w w' : World} {l : Let} (h : l.inW w) (hf : Fr S w w') (ho : l.off S) : l.inW w' :=
  ⟨h.w1.fr hf ho.w1, h.e1.fr hf ho.e1 ho.e2, h.m1.fr' hf fun hn => ho.m1 (map_ne hn), h.u1.fr' hf fun hn => ho.u1 (map_ne hn), h.b1.fr' hf fun hn => ho.b1 (map_ne hn), h.w2, h.e2, h.m2, h.u2, h.b2, h.u3⟩
theorem Rd.block_lt {w : World} {A : Option Addr} {xs : List Value} (h : Rd w A xs) (hx : xs ≠ []) : ∃ ad, A = some ad ∧ ad.block < w.heap.size := by
  cases xs with
  | nil => exact absurd rfl hx
  | cons x xs =>
    obtain ⟨ad, ha, hc⟩ := h 0 x rfl
    exact ⟨ad, ha, by have := World.block_lt_of_cell? w _ hc; rwa [add_block] at this⟩
theorem Rd.off_new {S T : Nat → Prop} {w : World} {A : Option Addr} {xs : List Value} (h : Rd w A xs) (hT : ∀ i, i < w.heap.size → T i → S i) (ho : xs ≠ [] → Off S A) (hx : xs ≠ []) : Off T A := fun ad ha hn => by
  obtain ⟨ad', ha', hl⟩ := h.block_lt hx
  rw [ha] at ha'
  injection ha' with ha'
  subst ha'
  exact ho hx ad ha (hT _ hl hn)
/-- A set that has no more of the blocks that are there. -/
theorem Let.off.new {S T : Nat → Prop} {w : World} {l : Let} (h : l.off S) (hi : l.inW w) (hT : ∀ i, i < w.heap.size → T i → S i) : l.off T := by
  refine ⟨fun hx ad ha hn => ?_, fun hx ad ha hn => ?_, fun e he hx => ?_, fun hx => hi.m1.off_new hT (fun h0 => h.m1 (map_ne h0)) (by simpa using hx), fun hx => hi.u1.off_new hT (fun h0 => h.u1 (map_ne h0)) (by simpa using hx), fun hx => hi.b1.off_new hT (fun h0 => h.b1 (map_ne h0)) (by simpa using hx)⟩
  · obtain ⟨b, f, ha', h1, _⟩ := hi.w1 0 _ (List.getElem?_eq_getElem (by cases hl : l.want with | nil => exact absurd hl hx | cons x xs => simp))
    rw [ha] at ha'
    injection ha' with ha'
    subst ha'
    exact h.w1 hx _ ha (hT _ (World.block_lt_of_cell? w _ h1) hn)
  · obtain ⟨b, f, ha', h1, _⟩ := hi.e1 0 _ (List.getElem?_eq_getElem (by cases hl : l.ents with | nil => exact absurd hl hx | cons x xs => simp))
    rw [ha] at ha'
    injection ha' with ha'
    subst ha'
    exact h.e1 hx _ ha (hT _ (World.block_lt_of_cell? w _ h1) hn)
  · obtain ⟨k, hk⟩ := List.getElem?_of_mem he
    obtain ⟨_, _, _, _, _, _, _, h6⟩ := hi.e1 k e hk
    exact h6.1.off_new hT (fun h0 => h.e2 e he (map_ne h0)) (by simpa using hx)
theorem Let.off.sub {S T : Nat → Prop} {l : Let} (h : l.off S) (hT : ∀ i, T i → S i) : l.off T :=
  ⟨fun hx ad ha hn => h.w1 hx ad ha (hT _ hn), fun hx ad ha hn => h.e1 hx ad ha (hT _ hn), fun e he hx ad ha hn => h.e2 e he hx ad ha (hT _ hn), fun hx ad ha hn => h.m1 hx ad ha (hT _ hn), fun hx ad ha hn => h.u1 hx ad ha (hT _ hn), fun hx ad ha hn => h.b1 hx ad ha (hT _ hn)⟩

set_option maxRecDepth 100000 in
theorem wpList_load_letAt {ops : Array Oper} {rest : List Oper} {o : Oper} {a : Act} {w : World} {Q : Exit → Act → World → Prop} (hw : Region.wanted o (yielded ops a.tmps) = true) (x : Operand) (ho : o.op = .load 35 x)
    (b f : Nat) (l : Let) (hx : a.eval x = .pointer (some ⟨b, f, none⟩)) (hg : World.rangeAt w b f l.arr.toList)
    (h : wpList Tryz.prog ops Q rest (a.put o.dst l.v) w) : wpList Tryz.prog ops Q (o :: rest) a w :=
  wpList_step fun K hK => by
    rw [if_pos hw]
    exact wp_load_mid 35 x ho b f hx l.arr.toList _ hg Tryz.underlying35 rfl (by rw [infoLet, arr_len]) (hK _ _ (by simpa [Let.v] using h))
theorem appendLets {ops : Array Oper} {rest : List Oper} {o : Oper} {a : Act} {Q : Exit → Act → World → Prop} (w : World) (hgd : o.guard = none) (s x : Operand)
    (ho : o.op = .call { callee := .builtin .append, args := #[s, x], argTypes := #[22, 22] })
    (B : Nat) (A : Option Addr) (n c : Nat) (us : List Let) (hs : a.eval s = .slice A n c) (hn : n = us.length) (hown : OwnW 23 w B 35 A us.length c (flat us))
    (D : Option Addr) (m cc : Nat) (news : List Let) (hx : a.eval x = .slice D m cc) (hm : m = news.length) (hr : Rd w D (flat news))
    (h63 : us.length + news.length ≤ 1000000) (hbase : B ≤ w.heap.size)
    (h : ∀ A' c' w', OwnW 23 w' B 35 A' (us ++ news).length c' (flat (us ++ news)) → Fr (blk A) w w' → (∀ i, blk A' i → blk A i ∨ w.heap.size ≤ i) → wpList Tryz.prog ops Q rest (a.put o.dst (.slice A' (us ++ news).length c')) w') : wpList Tryz.prog ops Q (o :: rest) a w := by
  subst hn hm
  refine wpList_plain hgd fun K hK => ?_
  obtain ⟨i0, hi, hz⟩ := Option.map_eq_some_iff.1 infoLetP
  simp only [Prod.mk.injEq] at hz
  obtain ⟨hz0, hz1, hz2⟩ := hz
  obtain ⟨z, hz3, hz4⟩ := Option.map_eq_some_iff.1 hz0
  obtain ⟨v', w', h1, ⟨A', c', rfl, h2, h3, h4⟩, _⟩ := run_append_W (P := Tryz.prog) w 22 o.type 35 i0 z 23 264 Tryz.underlying22 hi hz3 hz1 (by omega) hz2 hz4 B A us.length c (flat us) hown D news.length cc (flat news) (flat_length news) hr (flat_one news) (by unfold maxLen; omega) (by omega) hbase
  have h5 := h A' c' w' (by rw [List.length_append, flat_append]; exact h2) h3 h4
  rw [List.length_append] at h5
  unfold Oper.wp execOp
  simp only [ho, resolve, invoke, builtin, Sem.run_bind, Sem.run_pure, Result.andThen_ok, List.map_toArray, List.map_cons, List.map_nil, hs, hx, h1]
  exact hK _ _ h5
end Go.Proofs.YtjnllilmimngoaaGreatDoor
