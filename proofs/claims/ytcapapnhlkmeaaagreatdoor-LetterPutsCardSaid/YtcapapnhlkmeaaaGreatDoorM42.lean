/-
  The document: is a letter right.
-/
import Derived.Test.YtcapapnhlkmeaaaGreatDoorM41
namespace Go.Proofs.YtcapapnhlkmeaaaGreatDoor
open Go.RowKit

theorem wpList_load_letQ {ops : Array Oper} {rest : List Oper} {o : Oper} {a : Act} {w : World} {Q : Exit → Act → World → Prop} (hw : Region.wanted o (yielded ops a.tmps) = true) (x : Operand) (ho : o.op = .load 34 x)
    (b : Nat) (l : Let) (hx : a.eval x = .pointer (some ⟨b, 0, none⟩)) (hg : w.heap[b]? = some (.cells l.arr 34))
    (h : wpList Tryz.prog ops Q rest (a.put o.dst l.v) w) : wpList Tryz.prog ops Q (o :: rest) a w :=
  wpList_step fun K hK => by
    rw [if_pos hw]
    exact wp_load_row 34 x ho b hx 34 l.arr (0, 0) _ hg Tryz.underlying34 rfl (by rw [infoLet]; rfl) (hK _ _ h)
def b1 (l : Let) : Bool := bareD false true false false false false false false l
def b2 (l : Let) : Bool := bareD false false false false true false false false l
def b3 (l : Let) : Bool := bareD false false true false false true false false l
def b4 (l : Let) : Bool := bareD true false false false true false false false l
def b5 (l : Let) : Bool := bareD false false false false false false true true l
def b6 (l : Let) : Bool := bareD false true false false true false false true l
def b7 (l : Let) : Bool := bareD false false false true false false false false l
def c7 (l : Let) : Bool := bareD false true false false false false false true l
def b8 (l : Let) : Bool := bareD false false false true false true false false l
/-- What the document says: a letter is right. -/
def rightD (l : Let) : Bool := ok0 l &&
  (if l.kind = 1 then decide (0 < l.term) && (rightI l.last.i l.last.t l.last.k && b1 l) else if l.kind = 2 then b2 l
  else if l.kind = 3 then decide (0 < l.term) && (rightI l.prev.i l.prev.t l.prev.k && (inR l.commit 0 1099511627776 && (rowOk l && b3 l)))
  else if l.kind = 4 then inR l.index 0 1099511627776 && b4 l else if l.kind = 5 then decide (0 < l.term) && (carriedOk l && b5 l)
  else if l.kind = 6 then someI l.last.i l.last.t l.last.k && (inR l.piece 0 48 && (((l.bs.length : Int) == 0) && b6 l))
  else if l.kind = 7 then (if 0 < l.want.length then wantsOk l.want && b7 l else someI l.last.i l.last.t l.last.k && (inR l.piece 0 47 && (((l.bs.length : Int) == 0) && c7 l)))
  else if l.kind = 8 then (if 0 < l.ents.length then goodsOk l.ents && (aheadsOk l.ents l.want && b8 l) else carriedOk l && b5 l) else false)

set_option maxRecDepth 100000 in
set_option maxHeartbeats 4000000 in
theorem rright_no (l : Let) (w : World) (hin : l.inW w) (h0 : ok0 l = false) : Calls Tryz.prog 10 #[l.v] w fun e w' => e = .returned (.bool (rightD l)) ∧ Ext w w' := by
  have hv : Hid (rightD l = false) := Lib.hid (by unfold rightD; rw [h0]; rfl)
  have HI := Lib.hid hin
  have HG0 := Lib.hid (heap_alloc_new w (.cells l.arr 34))
  have HE0 := Lib.hid ((Ext.refl w).alloc (.cells l.arr 34))
  have r0 := cell_of_heap HG0.out
  have hV : l.v = .agg l.arr := rfl
  rw [hV]
  clear hin hV
  cases f0 : inR l.frm 1 7 with
  | false =>
    clear h0
    go_enter Tryz.func10, Tryz.ntmps10
    go_wp2_with (first | (go_at_call 34; refine (rwithin_any _ _ _ _).mono ?_; rintro e w' ⟨rfl, rfl⟩))
    go_ret
    exact ⟨by rw [hv.out]; rfl, HE0.out⟩
  | true =>
    cases f1 : inR l.too 1 7 with
    | false =>
      clear h0
      go_enter Tryz.func10, Tryz.ntmps10
      go_wp2_with (first | (go_at_call 34; refine (rwithin_any _ _ _ _).mono ?_; rintro e w' ⟨rfl, rfl⟩))
      go_ret
      exact ⟨by rw [hv.out]; rfl, HE0.out⟩
    | true =>
      cases f2 : (l.frm == l.too) with
      | true =>
        clear h0
        go_enter Tryz.func10, Tryz.ntmps10
        go_wp2_with (first | (go_at_call 34; refine (rwithin_any _ _ _ _).mono ?_; rintro e w' ⟨rfl, rfl⟩))
        go_ret
        exact ⟨by rw [hv.out]; rfl, HE0.out⟩
      | false =>
        cases f3 : inR l.term 0 1099511627776 with
        | false =>
          clear h0
          go_enter Tryz.func10, Tryz.ntmps10
          go_wp2_with (first | (go_at_call 34; refine (rwithin_any _ _ _ _).mono ?_; rintro e w' ⟨rfl, rfl⟩))
          go_ret
          exact ⟨by rw [hv.out]; rfl, HE0.out⟩
        | true =>
          exfalso
          have hne : (l.too != l.frm) = true := by
            rw [beq_eq_false_iff_ne] at f2
            rw [bne_iff_ne]; exact fun h => f2 h.symm
          unfold ok0 at h0
          rw [f0, f1, hne, f3] at h0
          cases h0
set_option maxRecDepth 100000 in
set_option maxHeartbeats 4000000 in
theorem rright_x (l : Let) (w : World) (hin : l.inW w) (h0 : ok0 l = true) (hk : l.kind < 1 ∨ 8 < l.kind) : Calls Tryz.prog 10 #[l.v] w fun e w' => e = .returned (.bool (rightD l)) ∧ Ext w w' := by
  have hv : Hid (rightD l = false) := Lib.hid (by unfold rightD; rw [h0, Bool.true_and, if_neg (by omega), if_neg (by omega), if_neg (by omega), if_neg (by omega), if_neg (by omega), if_neg (by omega), if_neg (by omega), if_neg (by omega)])
  have h00 := h0
  simp only [ok0, Bool.and_eq_true, bne_iff_ne, ne_eq] at h00
  obtain ⟨f1, ⟨f2, f3⟩, f4⟩ := h00
  have f3' : (l.frm == l.too) = false := by rw [beq_eq_false_iff_ne]; exact fun h => f3 h.symm
  have q1 : (l.kind == 1) = false := by rw [beq_eq_false_iff_ne]; omega
  have q2 : (l.kind == 2) = false := by rw [beq_eq_false_iff_ne]; omega
  have q3 : (l.kind == 3) = false := by rw [beq_eq_false_iff_ne]; omega
  have q4 : (l.kind == 4) = false := by rw [beq_eq_false_iff_ne]; omega
  have q5 : (l.kind == 5) = false := by rw [beq_eq_false_iff_ne]; omega
  have q6 : (l.kind == 6) = false := by rw [beq_eq_false_iff_ne]; omega
  have q7 : (l.kind == 7) = false := by rw [beq_eq_false_iff_ne]; omega
  have q8 : (l.kind == 8) = false := by rw [beq_eq_false_iff_ne]; omega
  clear h0 hk f3
  have HI := Lib.hid hin
  have HG0 := Lib.hid (heap_alloc_new w (.cells l.arr 34))
  have HE0 := Lib.hid ((Ext.refl w).alloc (.cells l.arr 34))
  have r0 := cell_of_heap HG0.out
  have hV : l.v = .agg l.arr := rfl
  rw [hV]
  clear hin hV
  go_enter Tryz.func10, Tryz.ntmps10
  go_wp2_with (first | (go_at_call 34; refine (rwithin_any _ _ _ _).mono ?_; rintro e w' ⟨rfl, rfl⟩))
  go_ret
  exact ⟨by rw [hv.out]; rfl, HE0.out⟩
end Go.Proofs.YtcapapnhlkmeaaaGreatDoor
