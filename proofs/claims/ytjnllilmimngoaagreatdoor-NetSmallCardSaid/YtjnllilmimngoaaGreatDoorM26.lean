/-
  The document: is a letter right.
  The document: is a letter right (kinds 1, 2).
  The document: is a letter right (kinds 4, 5, 6).
-/
import Derived.Test.YtjnllilmimngoaaGreatDoorM24
import Derived.Test.YtjnllilmimngoaaGreatDoorM25
namespace Go.Proofs.YtjnllilmimngoaaGreatDoor
open Go.RowKit

theorem wpList_load_letQ {ops : Array Oper} {rest : List Oper} {o : Oper} {a : Act} {w : World} {Q : Exit → Act → World → Prop} (hw : Region.wanted o (yielded ops a.tmps) = true) (x : Operand) (ho : o.op = .load 35 x)
    (b : Nat) (l : Let) (hx : a.eval x = .pointer (some ⟨b, 0, none⟩)) (hg : w.heap[b]? = some (.cells l.arr 35))
    (h : wpList Tryz.prog ops Q rest (a.put o.dst l.v) w) : wpList Tryz.prog ops Q (o :: rest) a w :=
  wpList_step fun K hK => by
    rw [if_pos hw]
    exact wp_load_row 35 x ho b hx 35 l.arr (0, 0) _ hg Tryz.underlying35 rfl (by rw [infoLet]; rfl) (hK _ _ h)
def b1 (l : Let) : Bool := bareD false true false false false false false false l
def b2 (l : Let) : Bool := bareD false false false false true false false false l
def b3 (l : Let) : Bool := bareD false false true false false true false false l
def b4 (l : Let) : Bool := bareD true false false false true false false false l
def b5 (l : Let) : Bool := bareD false false false false false false true true l
def b6 (l : Let) : Bool := bareD false true false false true false false true l
def b7 (l : Let) : Bool := bareD false false false true false false false false l
def c7 (l : Let) : Bool := bareD false true false false false false false true l
def b8 (l : Let) : Bool := bareD false false false true false true false false l
/-- What the document says: a letter is right. -/
def rightD (l : Let) : Bool := ok0 l &&
  (if l.kind = 1 then decide (0 < l.term) && (rightI l.last.i l.last.t l.last.k && b1 l) else if l.kind = 2 then b2 l
  else if l.kind = 3 then decide (0 < l.term) && (rightI l.prev.i l.prev.t l.prev.k && (inR l.commit 0 1099511627776 && (rowOk l && b3 l)))
  else if l.kind = 4 then inR l.index 0 1099511627776 && b4 l else if l.kind = 5 then decide (0 < l.term) && (carriedOk l && b5 l)
  else if l.kind = 6 then someI l.last.i l.last.t l.last.k && (inR l.piece 0 48 && (((l.bs.length : Int) == 0) && b6 l))
  else if l.kind = 7 then (if 0 < l.want.length then wantsOk l.want && b7 l else someI l.last.i l.last.t l.last.k && (inR l.piece 0 47 && (((l.bs.length : Int) == 0) && c7 l)))
  else if l.kind = 8 then (if 0 < l.ents.length then goodsOk l.ents && (aheadsOk l.ents l.want && b8 l) else carriedOk l && b5 l) else false)

set_option maxRecDepth 100000 in
set_option maxHeartbeats 4000000 in
theorem rright_no (l : Let) (w : World) (hin : l.inW w) (h0 : ok0 l = false) : Calls Tryz.prog 65 #[l.v] w fun e w' => e = .returned (.bool (rightD l)) ∧ Ext w w' := by
  have hv : Hid (rightD l = false) := Lib.hid (by unfold rightD; rw [h0]; rfl)
  have HI := Lib.hid hin
  have HG0 := Lib.hid (heap_alloc_new w (.cells l.arr 35))
  have HE0 := Lib.hid ((Ext.refl w).alloc (.cells l.arr 35))
  have r0 := cell_of_heap HG0.out
  have hV : l.v = .agg l.arr := rfl
  rw [hV]
  clear hin hV
  cases f0 : inR l.frm 1 7 with
  | false =>
    clear h0
    go_enter Tryz.func65, Tryz.ntmps65
    go_wp2_with (first | (go_at_call 103; refine (rwithin_any _ _ _ _).mono ?_; rintro e w' ⟨rfl, rfl⟩))
    go_ret
    exact ⟨by rw [hv.out]; rfl, HE0.out⟩
  | true =>
    cases f1 : inR l.too 1 7 with
    | false =>
      clear h0
      go_enter Tryz.func65, Tryz.ntmps65
      go_wp2_with (first | (go_at_call 103; refine (rwithin_any _ _ _ _).mono ?_; rintro e w' ⟨rfl, rfl⟩))
      go_ret
      exact ⟨by rw [hv.out]; rfl, HE0.out⟩
    | true =>
      cases f2 : (l.frm == l.too) with
      | true =>
        clear h0
        go_enter Tryz.func65, Tryz.ntmps65
        go_wp2_with (first | (go_at_call 103; refine (rwithin_any _ _ _ _).mono ?_; rintro e w' ⟨rfl, rfl⟩))
        go_ret
        exact ⟨by rw [hv.out]; rfl, HE0.out⟩
      | false =>
        cases f3 : inR l.term 0 1099511627776 with
        | false =>
          clear h0
          go_enter Tryz.func65, Tryz.ntmps65
          go_wp2_with (first | (go_at_call 103; refine (rwithin_any _ _ _ _).mono ?_; rintro e w' ⟨rfl, rfl⟩))
          go_ret
          exact ⟨by rw [hv.out]; rfl, HE0.out⟩
        | true =>
          exfalso
          have hne : (l.too != l.frm) = true := by
            rw [beq_eq_false_iff_ne] at f2
            rw [bne_iff_ne]; exact fun h => f2 h.symm
          unfold ok0 at h0
          rw [f0, f1, hne, f3] at h0
          cases h0
set_option maxRecDepth 100000 in
set_option maxHeartbeats 4000000 in
theorem rright_x (l : Let) (w : World) (hin : l.inW w) (h0 : ok0 l = true) (hk : l.kind < 1 ∨ 8 < l.kind) : Calls Tryz.prog 65 #[l.v] w fun e w' => e = .returned (.bool (rightD l)) ∧ Ext w w' := by
  have hv : Hid (rightD l = false) := Lib.hid (by unfold rightD; rw [h0, Bool.true_and, if_neg (by omega), if_neg (by omega), if_neg (by omega), if_neg (by omega), if_neg (by omega), if_neg (by omega), if_neg (by omega), if_neg (by omega)])
  have h00 := h0
  simp only [ok0, Bool.and_eq_true, bne_iff_ne, ne_eq] at h00
  obtain ⟨f1, ⟨f2, f3⟩, f4⟩ := h00
  have f3' : (l.frm == l.too) = false := by rw [beq_eq_false_iff_ne]; exact fun h => f3 h.symm
  have q1 : (l.kind == 1) = false := by rw [beq_eq_false_iff_ne]; omega
  have q2 : (l.kind == 2) = false := by rw [beq_eq_false_iff_ne]; omega
  have q3 : (l.kind == 3) = false := by rw [beq_eq_false_iff_ne]; omega
  have q4 : (l.kind == 4) = false := by rw [beq_eq_false_iff_ne]; omega
  have q5 : (l.kind == 5) = false := by rw [beq_eq_false_iff_ne]; omega
  have q6 : (l.kind == 6) = false := by rw [beq_eq_false_iff_ne]; omega
  have q7 : (l.kind == 7) = false := by rw [beq_eq_false_iff_ne]; omega
  have q8 : (l.kind == 8) = false := by rw [beq_eq_false_iff_ne]; omega
  clear h0 hk f3
  have HI := Lib.hid hin
  have HG0 := Lib.hid (heap_alloc_new w (.cells l.arr 35))
  have HE0 := Lib.hid ((Ext.refl w).alloc (.cells l.arr 35))
  have r0 := cell_of_heap HG0.out
  have hV : l.v = .agg l.arr := rfl
  rw [hV]
  clear hin hV
  go_enter Tryz.func65, Tryz.ntmps65
  go_wp2_with (first | (go_at_call 103; refine (rwithin_any _ _ _ _).mono ?_; rintro e w' ⟨rfl, rfl⟩))
  go_ret
  exact ⟨by rw [hv.out]; rfl, HE0.out⟩
end Go.Proofs.YtjnllilmimngoaaGreatDoor
namespace Go.Proofs.YtjnllilmimngoaaGreatDoor
open Go.RowKit

set_option maxRecDepth 100000 in
set_option maxHeartbeats 4000000 in
theorem rright_1 (l : Let) (w : World) (hin : l.inW w) (h0 : ok0 l = true) (hk : l.kind = 1) : Calls Tryz.prog 65 #[l.v] w fun e w' => e = .returned (.bool (rightD l)) ∧ Ext w w' := by
  have HV : Hid (rightD l = (decide (0 < l.term) && (rightI l.last.i l.last.t l.last.k && (b1 l)))) := Lib.hid (by unfold rightD; rw [h0, Bool.true_and, if_pos hk])
  have h00 := h0
  simp only [ok0, Bool.and_eq_true, bne_iff_ne, ne_eq] at h00
  obtain ⟨f1, ⟨f2, f3⟩, f4⟩ := h00
  have f3' : (l.frm == l.too) = false := by rw [beq_eq_false_iff_ne]; exact fun h => f3 h.symm
  have q1 : (l.kind == 1) = true := by rw [hk]; rfl
  have q2 : (l.kind == 2) = false := by rw [hk]; rfl
  have q3 : (l.kind == 3) = false := by rw [hk]; rfl
  have q4 : (l.kind == 4) = false := by rw [hk]; rfl
  have q5 : (l.kind == 5) = false := by rw [hk]; rfl
  have q6 : (l.kind == 6) = false := by rw [hk]; rfl
  have q7 : (l.kind == 7) = false := by rw [hk]; rfl
  have q8 : (l.kind == 8) = false := by rw [hk]; rfl
  clear h0 hk f3
  have HI := Lib.hid hin
  have HG0 := Lib.hid (heap_alloc_new w (.cells l.arr 35))
  have HE0 := Lib.hid ((Ext.refl w).alloc (.cells l.arr 35))
  have r0 := cell_of_heap HG0.out
  have hV : l.v = .agg l.arr := rfl
  rw [hV]
  clear hin hV
  cases s0 : decide (0 < l.term) with
  | false =>
    have hv : Hid (rightD l = false) := Lib.hid (by rw [HV.out, s0]; rfl)
    go_enter Tryz.func65, Tryz.ntmps65
    go_wp2_with (go_at_call 103; refine (rwithin_any _ _ _ _).mono ?_; rintro e w' ⟨rfl, rfl⟩)
    go_ret
    exact ⟨by rw [hv.out]; first | rfl | simp, HE0.out⟩
  | true =>
    cases s1 : rightI l.last.i l.last.t l.last.k with
    | false =>
      have hv : Hid (rightD l = false) := Lib.hid (by rw [HV.out, s0, s1]; rfl)
      go_enter Tryz.func65, Tryz.ntmps65
      go_wp2_with (go_at_call 103; refine (rwithin_any _ _ _ _).mono ?_; rintro e w' ⟨rfl, rfl⟩)
      refine (rident_any l.last.i l.last.t l.last.k _).mono ?_
      rintro e w1 ⟨rfl, hE1⟩
      have g1 := hE1.blk HG0.out
      clear r0
      have r1 := cell_of_heap g1
      have HG1 := Lib.hid g1
      have HE1 := Lib.hid (HE0.out.trans hE1)
      clear g1 hE1
      go_wp2_with (go_at_call 103; refine (rwithin_any _ _ _ _).mono ?_; rintro e w' ⟨rfl, rfl⟩)
      go_ret
      exact ⟨by rw [hv.out]; first | rfl | simp, HE1.out⟩
    | true =>
      have hv : Hid (rightD l = b1 l) := Lib.hid (by rw [HV.out, s0, s1]; rfl)
      go_enter Tryz.func65, Tryz.ntmps65
      go_wp2_with (go_at_call 103; refine (rwithin_any _ _ _ _).mono ?_; rintro e w' ⟨rfl, rfl⟩)
      refine (rident_any l.last.i l.last.t l.last.k _).mono ?_
      rintro e w1 ⟨rfl, hE1⟩
      have g1 := hE1.blk HG0.out
      clear r0
      have r1 := cell_of_heap g1
      have HG1 := Lib.hid g1
      have HE1 := Lib.hid (HE0.out.trans hE1)
      clear g1 hE1
      go_wp2_with (first | (go_at_call 103; refine (rwithin_any _ _ _ _).mono ?_; rintro e w' ⟨rfl, rfl⟩) | (refine wpList_load_letQ (by rfl) (.tmp 1) rfl w.heap.size l rfl HG1.out ?_))
      refine (bare_1 l _).mono ?_
      rintro e w2 ⟨rfl, hE2⟩
      rw [show bareD false true false false false false false false l = b1 l from rfl]
      have g2 := hE2.blk HG1.out
      clear r1
      have r2 := cell_of_heap g2
      have HG2 := Lib.hid g2
      have HE2 := Lib.hid (HE1.out.trans hE2)
      clear g2 hE2
      go_wp2_with (go_at_call 103; refine (rwithin_any _ _ _ _).mono ?_; rintro e w' ⟨rfl, rfl⟩)
      go_ret
      exact ⟨by rw [hv.out]; first | rfl | simp, HE2.out⟩

set_option maxRecDepth 100000 in
set_option maxHeartbeats 4000000 in
theorem rright_2 (l : Let) (w : World) (hin : l.inW w) (h0 : ok0 l = true) (hk : l.kind = 2) : Calls Tryz.prog 65 #[l.v] w fun e w' => e = .returned (.bool (rightD l)) ∧ Ext w w' := by
  have HV : Hid (rightD l = (b2 l)) := Lib.hid (by unfold rightD; rw [h0, Bool.true_and, if_neg (by omega), if_pos hk])
  have h00 := h0
  simp only [ok0, Bool.and_eq_true, bne_iff_ne, ne_eq] at h00
  obtain ⟨f1, ⟨f2, f3⟩, f4⟩ := h00
  have f3' : (l.frm == l.too) = false := by rw [beq_eq_false_iff_ne]; exact fun h => f3 h.symm
  have q1 : (l.kind == 1) = false := by rw [hk]; rfl
  have q2 : (l.kind == 2) = true := by rw [hk]; rfl
  have q3 : (l.kind == 3) = false := by rw [hk]; rfl
  have q4 : (l.kind == 4) = false := by rw [hk]; rfl
  have q5 : (l.kind == 5) = false := by rw [hk]; rfl
  have q6 : (l.kind == 6) = false := by rw [hk]; rfl
  have q7 : (l.kind == 7) = false := by rw [hk]; rfl
  have q8 : (l.kind == 8) = false := by rw [hk]; rfl
  clear h0 hk f3
  have HI := Lib.hid hin
  have HG0 := Lib.hid (heap_alloc_new w (.cells l.arr 35))
  have HE0 := Lib.hid ((Ext.refl w).alloc (.cells l.arr 35))
  have r0 := cell_of_heap HG0.out
  have hV : l.v = .agg l.arr := rfl
  rw [hV]
  clear hin hV
  have hv : Hid (rightD l = b2 l) := Lib.hid (by rw [HV.out])
  go_enter Tryz.func65, Tryz.ntmps65
  go_wp2_with (first | (go_at_call 103; refine (rwithin_any _ _ _ _).mono ?_; rintro e w' ⟨rfl, rfl⟩) | (refine wpList_load_letQ (by rfl) (.tmp 1) rfl w.heap.size l rfl HG0.out ?_))
  refine (bare_2 l _).mono ?_
  rintro e w1 ⟨rfl, hE1⟩
  rw [show bareD false false false false true false false false l = b2 l from rfl]
  have g1 := hE1.blk HG0.out
  clear r0
  have r1 := cell_of_heap g1
  have HG1 := Lib.hid g1
  have HE1 := Lib.hid (HE0.out.trans hE1)
  clear g1 hE1
  go_wp2_with (go_at_call 103; refine (rwithin_any _ _ _ _).mono ?_; rintro e w' ⟨rfl, rfl⟩)
  go_ret
  exact ⟨by rw [hv.out]; first | rfl | simp, HE1.out⟩
end Go.Proofs.YtjnllilmimngoaaGreatDoor
namespace Go.Proofs.YtjnllilmimngoaaGreatDoor
open Go.RowKit

set_option maxRecDepth 100000 in
set_option maxHeartbeats 4000000 in
theorem rright_4 (l : Let) (w : World) (hin : l.inW w) (h0 : ok0 l = true) (hk : l.kind = 4) : Calls Tryz.prog 65 #[l.v] w fun e w' => e = .returned (.bool (rightD l)) ∧ Ext w w' := by
  have HV : Hid (rightD l = (inR l.index 0 1099511627776 && (b4 l))) := Lib.hid (by unfold rightD; rw [h0, Bool.true_and, if_neg (by omega), if_neg (by omega), if_neg (by omega), if_pos hk])
  have h00 := h0
  simp only [ok0, Bool.and_eq_true, bne_iff_ne, ne_eq] at h00
  obtain ⟨f1, ⟨f2, f3⟩, f4⟩ := h00
  have f3' : (l.frm == l.too) = false := by rw [beq_eq_false_iff_ne]; exact fun h => f3 h.symm
  have q1 : (l.kind == 1) = false := by rw [hk]; rfl
  have q2 : (l.kind == 2) = false := by rw [hk]; rfl
  have q3 : (l.kind == 3) = false := by rw [hk]; rfl
  have q4 : (l.kind == 4) = true := by rw [hk]; rfl
  have q5 : (l.kind == 5) = false := by rw [hk]; rfl
  have q6 : (l.kind == 6) = false := by rw [hk]; rfl
  have q7 : (l.kind == 7) = false := by rw [hk]; rfl
  have q8 : (l.kind == 8) = false := by rw [hk]; rfl
  clear h0 hk f3
  have HI := Lib.hid hin
  have HG0 := Lib.hid (heap_alloc_new w (.cells l.arr 35))
  have HE0 := Lib.hid ((Ext.refl w).alloc (.cells l.arr 35))
  have r0 := cell_of_heap HG0.out
  have hV : l.v = .agg l.arr := rfl
  rw [hV]
  clear hin hV
  cases s0 : inR l.index 0 1099511627776 with
  | false =>
    have hv : Hid (rightD l = false) := Lib.hid (by rw [HV.out, s0]; rfl)
    go_enter Tryz.func65, Tryz.ntmps65
    go_wp2_with (go_at_call 103; refine (rwithin_any _ _ _ _).mono ?_; rintro e w' ⟨rfl, rfl⟩)
    go_ret
    exact ⟨by rw [hv.out]; first | rfl | simp, HE0.out⟩
  | true =>
    have hv : Hid (rightD l = b4 l) := Lib.hid (by rw [HV.out, s0]; rfl)
    go_enter Tryz.func65, Tryz.ntmps65
    go_wp2_with (first | (go_at_call 103; refine (rwithin_any _ _ _ _).mono ?_; rintro e w' ⟨rfl, rfl⟩) | (refine wpList_load_letQ (by rfl) (.tmp 1) rfl w.heap.size l rfl HG0.out ?_))
    refine (bare_4 l _).mono ?_
    rintro e w1 ⟨rfl, hE1⟩
    rw [show bareD true false false false true false false false l = b4 l from rfl]
    have g1 := hE1.blk HG0.out
    clear r0
    have r1 := cell_of_heap g1
    have HG1 := Lib.hid g1
    have HE1 := Lib.hid (HE0.out.trans hE1)
    clear g1 hE1
    go_wp2_with (go_at_call 103; refine (rwithin_any _ _ _ _).mono ?_; rintro e w' ⟨rfl, rfl⟩)
    go_ret
    exact ⟨by rw [hv.out]; first | rfl | simp, HE1.out⟩

set_option maxRecDepth 100000 in
set_option maxHeartbeats 4000000 in
theorem rright_5 (l : Let) (w : World) (hin : l.inW w) (h0 : ok0 l = true) (hk : l.kind = 5) : Calls Tryz.prog 65 #[l.v] w fun e w' => e = .returned (.bool (rightD l)) ∧ Ext w w' := by
  have HV : Hid (rightD l = (decide (0 < l.term) && (carriedOk l && (b5 l)))) := Lib.hid (by unfold rightD; rw [h0, Bool.true_and, if_neg (by omega), if_neg (by omega), if_neg (by omega), if_neg (by omega), if_pos hk])
  have h00 := h0
  simp only [ok0, Bool.and_eq_true, bne_iff_ne, ne_eq] at h00
  obtain ⟨f1, ⟨f2, f3⟩, f4⟩ := h00
  have f3' : (l.frm == l.too) = false := by rw [beq_eq_false_iff_ne]; exact fun h => f3 h.symm
  have q1 : (l.kind == 1) = false := by rw [hk]; rfl
  have q2 : (l.kind == 2) = false := by rw [hk]; rfl
  have q3 : (l.kind == 3) = false := by rw [hk]; rfl
  have q4 : (l.kind == 4) = false := by rw [hk]; rfl
  have q5 : (l.kind == 5) = true := by rw [hk]; rfl
  have q6 : (l.kind == 6) = false := by rw [hk]; rfl
  have q7 : (l.kind == 7) = false := by rw [hk]; rfl
  have q8 : (l.kind == 8) = false := by rw [hk]; rfl
  clear h0 hk f3
  have HI := Lib.hid hin
  have HG0 := Lib.hid (heap_alloc_new w (.cells l.arr 35))
  have HE0 := Lib.hid ((Ext.refl w).alloc (.cells l.arr 35))
  have r0 := cell_of_heap HG0.out
  have hV : l.v = .agg l.arr := rfl
  rw [hV]
  clear hin hV
  cases s0 : decide (0 < l.term) with
  | false =>
    have hv : Hid (rightD l = false) := Lib.hid (by rw [HV.out, s0]; rfl)
    go_enter Tryz.func65, Tryz.ntmps65
    go_wp2_with (go_at_call 103; refine (rwithin_any _ _ _ _).mono ?_; rintro e w' ⟨rfl, rfl⟩)
    go_ret
    exact ⟨by rw [hv.out]; first | rfl | simp, HE0.out⟩
  | true =>
    cases s1 : carriedOk l with
    | false =>
      have hv : Hid (rightD l = false) := Lib.hid (by rw [HV.out, s0, s1]; rfl)
      go_enter Tryz.func65, Tryz.ntmps65
      go_wp2_with (first | (go_at_call 103; refine (rwithin_any _ _ _ _).mono ?_; rintro e w' ⟨rfl, rfl⟩) | (refine wpList_load_letQ (by rfl) (.tmp 1) rfl w.heap.size l rfl HG0.out ?_))
      refine (rpiece_any l _ (HI.out.ext HE0.out)).mono ?_
      rintro e w1 ⟨rfl, hE1⟩
      have g1 := hE1.blk HG0.out
      clear r0
      have r1 := cell_of_heap g1
      have HG1 := Lib.hid g1
      have HE1 := Lib.hid (HE0.out.trans hE1)
      clear g1 hE1
      go_wp2_with (go_at_call 103; refine (rwithin_any _ _ _ _).mono ?_; rintro e w' ⟨rfl, rfl⟩)
      go_ret
      exact ⟨by rw [hv.out]; first | rfl | simp, HE1.out⟩
    | true =>
      have hv : Hid (rightD l = b5 l) := Lib.hid (by rw [HV.out, s0, s1]; rfl)
      go_enter Tryz.func65, Tryz.ntmps65
      go_wp2_with (first | (go_at_call 103; refine (rwithin_any _ _ _ _).mono ?_; rintro e w' ⟨rfl, rfl⟩) | (refine wpList_load_letQ (by rfl) (.tmp 1) rfl w.heap.size l rfl HG0.out ?_))
      refine (rpiece_any l _ (HI.out.ext HE0.out)).mono ?_
      rintro e w1 ⟨rfl, hE1⟩
      have g1 := hE1.blk HG0.out
      clear r0
      have r1 := cell_of_heap g1
      have HG1 := Lib.hid g1
      have HE1 := Lib.hid (HE0.out.trans hE1)
      clear g1 hE1
      go_wp2_with (first | (go_at_call 103; refine (rwithin_any _ _ _ _).mono ?_; rintro e w' ⟨rfl, rfl⟩) | (refine wpList_load_letQ (by rfl) (.tmp 1) rfl w.heap.size l rfl HG1.out ?_))
      refine (bare_5 l _).mono ?_
      rintro e w2 ⟨rfl, hE2⟩
      rw [show bareD false false false false false false true true l = b5 l from rfl]
      have g2 := hE2.blk HG1.out
      clear r1
      have r2 := cell_of_heap g2
      have HG2 := Lib.hid g2
      have HE2 := Lib.hid (HE1.out.trans hE2)
      clear g2 hE2
      go_wp2_with (go_at_call 103; refine (rwithin_any _ _ _ _).mono ?_; rintro e w' ⟨rfl, rfl⟩)
      go_ret
      exact ⟨by rw [hv.out]; first | rfl | simp, HE2.out⟩

set_option maxRecDepth 100000 in
set_option maxHeartbeats 4000000 in
theorem rright_6 (l : Let) (w : World) (hin : l.inW w) (h0 : ok0 l = true) (hk : l.kind = 6) : Calls Tryz.prog 65 #[l.v] w fun e w' => e = .returned (.bool (rightD l)) ∧ Ext w w' := by
  have HV : Hid (rightD l = (someI l.last.i l.last.t l.last.k && (inR l.piece 0 48 && (((l.bs.length : Int) == 0) && (b6 l))))) := Lib.hid (by unfold rightD; rw [h0, Bool.true_and, if_neg (by omega), if_neg (by omega), if_neg (by omega), if_neg (by omega), if_neg (by omega), if_pos hk])
  have h00 := h0
  simp only [ok0, Bool.and_eq_true, bne_iff_ne, ne_eq] at h00
  obtain ⟨f1, ⟨f2, f3⟩, f4⟩ := h00
  have f3' : (l.frm == l.too) = false := by rw [beq_eq_false_iff_ne]; exact fun h => f3 h.symm
  have q1 : (l.kind == 1) = false := by rw [hk]; rfl
  have q2 : (l.kind == 2) = false := by rw [hk]; rfl
  have q3 : (l.kind == 3) = false := by rw [hk]; rfl
  have q4 : (l.kind == 4) = false := by rw [hk]; rfl
  have q5 : (l.kind == 5) = false := by rw [hk]; rfl
  have q6 : (l.kind == 6) = true := by rw [hk]; rfl
  have q7 : (l.kind == 7) = false := by rw [hk]; rfl
  have q8 : (l.kind == 8) = false := by rw [hk]; rfl
  clear h0 hk f3
  have HI := Lib.hid hin
  have HG0 := Lib.hid (heap_alloc_new w (.cells l.arr 35))
  have HE0 := Lib.hid ((Ext.refl w).alloc (.cells l.arr 35))
  have r0 := cell_of_heap HG0.out
  have hV : l.v = .agg l.arr := rfl
  rw [hV]
  clear hin hV
  cases s0 : someI l.last.i l.last.t l.last.k with
  | false =>
    have hv : Hid (rightD l = false) := Lib.hid (by rw [HV.out, s0]; rfl)
    go_enter Tryz.func65, Tryz.ntmps65
    go_wp2_with (go_at_call 103; refine (rwithin_any _ _ _ _).mono ?_; rintro e w' ⟨rfl, rfl⟩)
    refine (rsomeones_any l.last.i l.last.t l.last.k _).mono ?_
    rintro e w1 ⟨rfl, hE1⟩
    have g1 := hE1.blk HG0.out
    clear r0
    have r1 := cell_of_heap g1
    have HG1 := Lib.hid g1
    have HE1 := Lib.hid (HE0.out.trans hE1)
    clear g1 hE1
    go_wp2_with (go_at_call 103; refine (rwithin_any _ _ _ _).mono ?_; rintro e w' ⟨rfl, rfl⟩)
    go_ret
    exact ⟨by rw [hv.out]; first | rfl | simp, HE1.out⟩
  | true =>
    cases s1 : inR l.piece 0 48 with
    | false =>
      have hv : Hid (rightD l = false) := Lib.hid (by rw [HV.out, s0, s1]; rfl)
      go_enter Tryz.func65, Tryz.ntmps65
      go_wp2_with (go_at_call 103; refine (rwithin_any _ _ _ _).mono ?_; rintro e w' ⟨rfl, rfl⟩)
      refine (rsomeones_any l.last.i l.last.t l.last.k _).mono ?_
      rintro e w1 ⟨rfl, hE1⟩
      have g1 := hE1.blk HG0.out
      clear r0
      have r1 := cell_of_heap g1
      have HG1 := Lib.hid g1
      have HE1 := Lib.hid (HE0.out.trans hE1)
      clear g1 hE1
      go_wp2_with (go_at_call 103; refine (rwithin_any _ _ _ _).mono ?_; rintro e w' ⟨rfl, rfl⟩)
      go_ret
      exact ⟨by rw [hv.out]; first | rfl | simp, HE1.out⟩
    | true =>
      cases s2 : ((l.bs.length : Int) == 0) with
      | false =>
        have hv : Hid (rightD l = false) := Lib.hid (by rw [HV.out, s0, s1, s2]; rfl)
        go_enter Tryz.func65, Tryz.ntmps65
        go_wp2_with (go_at_call 103; refine (rwithin_any _ _ _ _).mono ?_; rintro e w' ⟨rfl, rfl⟩)
        refine (rsomeones_any l.last.i l.last.t l.last.k _).mono ?_
        rintro e w1 ⟨rfl, hE1⟩
        have g1 := hE1.blk HG0.out
        clear r0
        have r1 := cell_of_heap g1
        have HG1 := Lib.hid g1
        have HE1 := Lib.hid (HE0.out.trans hE1)
        clear g1 hE1
        go_wp2_with (go_at_call 103; refine (rwithin_any _ _ _ _).mono ?_; rintro e w' ⟨rfl, rfl⟩)
        go_ret
        exact ⟨by rw [hv.out]; first | rfl | simp, HE1.out⟩
      | true =>
        have hv : Hid (rightD l = b6 l) := Lib.hid (by rw [HV.out, s0, s1, s2]; rfl)
        go_enter Tryz.func65, Tryz.ntmps65
        go_wp2_with (go_at_call 103; refine (rwithin_any _ _ _ _).mono ?_; rintro e w' ⟨rfl, rfl⟩)
        refine (rsomeones_any l.last.i l.last.t l.last.k _).mono ?_
        rintro e w1 ⟨rfl, hE1⟩
        have g1 := hE1.blk HG0.out
        clear r0
        have r1 := cell_of_heap g1
        have HG1 := Lib.hid g1
        have HE1 := Lib.hid (HE0.out.trans hE1)
        clear g1 hE1
        go_wp2_with (first | (go_at_call 103; refine (rwithin_any _ _ _ _).mono ?_; rintro e w' ⟨rfl, rfl⟩) | (refine wpList_load_letQ (by rfl) (.tmp 1) rfl w.heap.size l rfl HG1.out ?_))
        refine (bare_6 l _).mono ?_
        rintro e w2 ⟨rfl, hE2⟩
        rw [show bareD false true false false true false false true l = b6 l from rfl]
        have g2 := hE2.blk HG1.out
        clear r1
        have r2 := cell_of_heap g2
        have HG2 := Lib.hid g2
        have HE2 := Lib.hid (HE1.out.trans hE2)
        clear g2 hE2
        go_wp2_with (go_at_call 103; refine (rwithin_any _ _ _ _).mono ?_; rintro e w' ⟨rfl, rfl⟩)
        go_ret
        exact ⟨by rw [hv.out]; first | rfl | simp, HE2.out⟩
end Go.Proofs.YtjnllilmimngoaaGreatDoor
