/-
  The walk of LetterHas.
-/
import Derived.Test.YtcapapnhlkmeaaaDoorM39
import Derived.Test.YtcapapnhlkmeaaaDoorM40
import Derived.Test.YtcapapnhlkmeaaaDoorM24
namespace Go.Proofs.YtcapapnhlkmeaaaDoor
open Go.RowKit

theorem wpList_load_letW {ops : Array Oper} {rest : List Oper} {o : Oper} {a : Act} {w : World} {Q : Exit → Act → World → Prop} (hw : Region.wanted o (yielded ops a.tmps) = true) (x : Operand) (ho : o.op = .load 34 x)
    (b : Nat) (l : Let) (hx : a.eval x = .pointer (some ⟨b, 0, none⟩)) (hg : w.heap[b]? = some (.cells l.arr 34))
    (h : wpList Tryd.prog ops Q rest (a.put o.dst l.v) w) : wpList Tryd.prog ops Q (o :: rest) a w :=
  wpList_step fun K hK => by
    rw [if_pos hw]
    exact wp_load_row 34 x ho b hx 34 l.arr (0, 0) _ hg Tryd.underlying34 rfl (by rw [infoLet]; rfl) (hK _ _ h)

def leftC : Code → Code
  | .seq a _ => a
  | c => c
noncomputable def lh9 : Code := leftC (rightN 5 (Tryd.f3.body.getD .skip))
noncomputable def lhC : Code := rightN 6 (Tryd.f3.body.getD .skip)
def LhPost (w : World) (e : Ending) (w' : World) : Prop := e = .returned (.bool true) ∧ Ext w w'
set_option maxRecDepth 100000 in
set_option maxHeartbeats 1000000 in
theorem letterHas_front (l : Let) (y : Int) (w : World) (hin : l.inW w) (hg : ErrT w) (hQ : y ≠ 0 → rightL l = true → ∀ (u3 u4 u5 u6 u7 u8 u9 u10 u11 u12 u13 u14 u15 u16 u17 u18 u19 u20 u21 u22 u23 u24 u25 u26 u27 u28 u29 u30 u31 u32 u33 u34 u35 u36 u37 u38 u39 u40 u41 u42 u43 u44 u45 u46 u47 u48 u49 u50 u51 u52 u53 u54 u55 u56 u57 u58 u59 u60 u61 u62 u63 u64 u65 u66 u67 u68 u69 u70 u71 u72 u73 u74 u75 u76 u77 u78 u79 u80 u81 u82 u83 u84 u85 u86 u87 u88 u89 u90 u91 u92 u93 u94 u95 u96 u97 u98 u99 u100 u101 u102 u103 u104 u105 u106 u107 u108 u109 u110 u111 u112 u113 u114 u115 u116 u117 u118 u119 u120 u121 u122 u123 u124 u125 u126 u127 u128 u129 u130 u131 u132 u133 u134 u135 u136 u137 u138 u139 u140 u141 u142 u143 u144 u145 : Value) (wx : World) (K : Act → World → Prop), Ext w wx → wx.heap[w.heap.size]? = some (.cells l.arr 34) →
    (∀ a w1, Code.wp Tryd.prog lhC (bodyPost Tryd.prog Tryd.f3 (LhPost w)) a w1 → K a w1) →
    Code.wp Tryd.prog lh9 (Exit.then K (bodyPost Tryd.prog Tryd.f3 (LhPost w))) ⟨#[.agg l.arr, .int .i64 y, .pointer (some ⟨w.heap.size, 0, none⟩), u3, u4, u5, u6, u7, u8, u9, u10, u11, u12, u13, u14, u15, u16, u17, u18, u19, u20, u21, u22, u23, u24, u25, u26, u27, u28, u29, u30, u31, u32, u33, u34, u35, u36, u37, u38, u39, u40, u41, u42, u43, u44, u45, u46, u47, u48, u49, u50, u51, u52, u53, u54, u55, u56, u57, u58, u59, u60, u61, u62, u63, u64, u65, u66, u67, u68, u69, u70, u71, u72, u73, u74, u75, u76, u77, u78, u79, u80, u81, u82, u83, u84, u85, u86, u87, u88, u89, u90, u91, u92, u93, u94, u95, u96, u97, u98, u99, u100, u101, u102, u103, u104, u105, u106, u107, u108, u109, u110, u111, u112, u113, u114, u115, u116, u117, u118, u119, u120, u121, u122, u123, u124, u125, u126, u127, u128, u129, u130, u131, u132, u133, u134, u135, u136, u137, u138, u139, u140, u141, u142, u143, u144, u145], []⟩ wx) : Calls Tryd.prog 3 #[l.v, .int .i64 y] w (LhPost w) := by
  have HQ := Lib.hid hQ
  clear hQ
  have HI := Lib.hid hin
  have HG := Lib.hid hg
  have hV : l.v = .agg l.arr := rfl
  rw [hV]
  clear hin hg hV
  go_enter Tryd.func3, Tryd.ntmps3
  go_wp2_with fail
  refine (awake_any _ (HG.out.ext ((Ext.refl _).alloc _))).mono ?_
  rintro e w1 ⟨rfl, hE1⟩
  have g0 := hE1.blk (heap_alloc_new w (.cells l.arr 34))
  have HE1 := Lib.hid (((Ext.refl w).alloc _).trans hE1)
  have HG0 := Lib.hid g0
  clear hE1 g0
  go_wp2_with (refine wpList_load_let rfl _ rfl w.heap.size l rfl HG0.out ?_)
  refine (letterOf_any l 4000 w1 (HI.out.ext HE1.out)).mono ?_
  rintro e w2 ⟨n, rfl, hE2⟩
  have HE2 := Lib.hid (HE1.out.trans hE2)
  have HG2 := Lib.hid (hE2.blk HG0.out)
  clear hE2 HE1 HG0
  by_cases hn : (4000 : Int) < n
  · have dn : decide ((4000 : Int) < n) = true := by simpa using hn
    go_wp2_with fail
    go_ret
    exact ⟨rfl, HE2.out⟩
  · have dn : decide ((4000 : Int) < n) = false := by simpa using hn
    go_wp2_with (refine wpList_load_letW rfl _ rfl w.heap.size l rfl HG2.out ?_)
    refine (Right_any l w2 (HI.out.ext HE2.out) (HG.out.ext HE2.out)).mono ?_
    rintro e w3 ⟨rfl, hE3⟩
    have HE3 := Lib.hid (HE2.out.trans hE3)
    have HG3 := Lib.hid (hE3.blk HG2.out)
    clear hE3 HE2 HG2
    by_cases hr : rightL l = true
    · by_cases hy : y = 0
      · have dy : (y == 0) = true := by simpa using hy
        go_wp2_with fail
        go_ret
        exact ⟨rfl, HE3.out⟩
      · have dy : (y == 0) = false := by simpa using hy
        have g0 := HG3.out
        have r0 := cell_of_heap g0
        obtain ⟨f1, f2⟩ := ok_kind (right_eq hr).1
        have f3 := ok_from (right_eq hr).1
        obtain ⟨f4, f5, f6⟩ := right_ents hr
        have d1 : decide (l.kind < 1) = false := by simpa using f1
        have d2 : decide (8 < l.kind) = false := by simpa using f2
        have d3 : (l.frm == l.too) = false := by simpa using fun h => f3 h.symm
        have d4 : decide ((8 : Int) < l.ents.length) = false := by rw [decide_eq_false_iff_not]; omega
        have d5 : decide ((8 : Int) < l.want.length) = false := by rw [decide_eq_false_iff_not]; omega
        have d6 : decide ((200 : Int) < l.bs.length) = false := by rw [decide_eq_false_iff_not]; omega
        clear f1 f2 f3 f4 f5 f6
        by_cases k3 : l.kind = 3
        · have df : (followsN l.prev l.ents != 0) = false := by rw [right_3 hr k3]; rfl
          have q3 : (l.kind == 3) = true := by simpa using k3
          have q5 : (l.kind == 5) = false := by rw [k3]; rfl
          have hl := HI.out.e2
          go_wp2_with fail
          refine (follows_any l.prev l.eA l.ec l.ents w3 (HI.out.ext HE3.out).e1 (by unfold maxLen; omega) (HG.out.ext HE3.out)).mono ?_
          rintro e w4 ⟨rfl, hE4⟩
          have HE4 := Lib.hid (HE3.out.trans hE4)
          have HG4 := Lib.hid (hE4.blk HG3.out)
          clear hE4 g0 r0
          have r4 := cell_of_heap HG4.out
          go_wp2_with fail
          apply HQ.out hy hr
          · exact HE4.out
          · exact HG4.out
          · assumption
        by_cases k5 : l.kind = 5
        · obtain ⟨m1, m2, m3, m4⟩ := right_5 hr k5
          have q3 : (l.kind == 3) = false := by rw [k5]; rfl
          have q5 : (l.kind == 5) = true := by simpa using k5
          have q6 : ((l.sums.length : Int) != (l.size + 199) / 200) = false := by rw [m4]; simp
          have hl := HI.out.m2
          go_wp2_with fail
          refine (members_any l.mA l.mc l.mems w3 (HI.out.ext HE3.out).m1 (by unfold maxLen; omega)).mono ?_
          rintro e w4 ⟨rfl, rfl⟩
          go_wp2_with fail
          apply HQ.out hy hr
          · exact HE3.out
          · exact HG3.out
          · assumption
        have q3 : (l.kind == 3) = false := by simpa using k3
        have q5 : (l.kind == 5) = false := by simpa using k5
        go_wp2_with fail
        apply HQ.out hy hr
        · exact HE3.out
        · exact HG3.out
        · assumption
    · have hr' : rightL l = false := by simpa using hr
      go_wp2_with fail
      go_ret
      exact ⟨rfl, HE3.out⟩
end Go.Proofs.YtcapapnhlkmeaaaDoor
