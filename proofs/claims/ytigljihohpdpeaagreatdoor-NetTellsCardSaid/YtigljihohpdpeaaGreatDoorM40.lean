/-
  Off.
-/
import Derived.Test.YtigljihohpdpeaaGreatDoorM33
namespace Go.Proofs.YtigljihohpdpeaaGreatDoor
open Go.RowKit

/-- Who is cut off, of the first k. -/
def offs (off : List Bool) (k : Nat) : List Int := ((List.range k).filter fun j => off.getD j false).map fun (j : Nat) => (j : Int)
theorem offs_yes {off : List Bool} {k : Nat} (h : off.getD k false = true) : offs off (k + 1) = offs off k ++ [(k : Int)] := by
  simp only [offs, List.range_succ, List.filter_append, List.map_append, List.filter_cons, h, List.filter_nil, if_true, List.map_cons, List.map_nil]
theorem offs_no {off : List Bool} {k : Nat} (h : off.getD k false = false) : offs off (k + 1) = offs off k := by
  simp only [offs, List.range_succ, List.filter_append, List.map_append, List.filter_cons, h, List.filter_nil, Bool.false_eq_true, if_false, List.map_nil, List.append_nil]
theorem offs_len (off : List Bool) (k : Nat) : (offs off k).length ≤ k := by
  simp only [offs, List.length_map]
  exact Nat.le_trans (List.length_filter_le _ _) (by simp)
theorem wpList_index {ops : Array Oper} {rest : List Oper} {o : Oper} {a : Act} {w : World} {Q : Exit → Act → World → Prop} {T : TypeId} (hgd : o.guard = none) (x y : Operand) (ho : o.op = .index T x y) (vx vy v : Value) (hx : a.eval x = vx) (hy : a.eval y = vy)
    (hr : (Instr.index T vx vy).run Tryz.prog w = .ok v w) (h : wpList Tryz.prog ops Q rest (a.put o.dst v) w) : wpList Tryz.prog ops Q (o :: rest) a w := by
  refine wpList_plain hgd fun K hK => ?_
  unfold Oper.wp execOp
  simp only [ho, hx, hy, Sem.run_bind, Sem.run_pure, Result.andThen_ok, hr]
  exact hK _ _ h
theorem idx0 (b0 b1 b2 b3 b4 b5 b6 b7 : Bool) (w : World) : (Instr.index 64 (.agg #[.bool b0, .bool b1, .bool b2, .bool b3, .bool b4, .bool b5, .bool b6, .bool b7]) (.int .i64 0)).run Tryz.prog w = .ok (.bool b0) w := by kernel_rfl
theorem idx1 (b0 b1 b2 b3 b4 b5 b6 b7 : Bool) (w : World) : (Instr.index 64 (.agg #[.bool b0, .bool b1, .bool b2, .bool b3, .bool b4, .bool b5, .bool b6, .bool b7]) (.int .i64 1)).run Tryz.prog w = .ok (.bool b1) w := by kernel_rfl
theorem idx2 (b0 b1 b2 b3 b4 b5 b6 b7 : Bool) (w : World) : (Instr.index 64 (.agg #[.bool b0, .bool b1, .bool b2, .bool b3, .bool b4, .bool b5, .bool b6, .bool b7]) (.int .i64 2)).run Tryz.prog w = .ok (.bool b2) w := by kernel_rfl
theorem idx3 (b0 b1 b2 b3 b4 b5 b6 b7 : Bool) (w : World) : (Instr.index 64 (.agg #[.bool b0, .bool b1, .bool b2, .bool b3, .bool b4, .bool b5, .bool b6, .bool b7]) (.int .i64 3)).run Tryz.prog w = .ok (.bool b3) w := by kernel_rfl
theorem idx4 (b0 b1 b2 b3 b4 b5 b6 b7 : Bool) (w : World) : (Instr.index 64 (.agg #[.bool b0, .bool b1, .bool b2, .bool b3, .bool b4, .bool b5, .bool b6, .bool b7]) (.int .i64 4)).run Tryz.prog w = .ok (.bool b4) w := by kernel_rfl
theorem idx5 (b0 b1 b2 b3 b4 b5 b6 b7 : Bool) (w : World) : (Instr.index 64 (.agg #[.bool b0, .bool b1, .bool b2, .bool b3, .bool b4, .bool b5, .bool b6, .bool b7]) (.int .i64 5)).run Tryz.prog w = .ok (.bool b5) w := by kernel_rfl
theorem idx6 (b0 b1 b2 b3 b4 b5 b6 b7 : Bool) (w : World) : (Instr.index 64 (.agg #[.bool b0, .bool b1, .bool b2, .bool b3, .bool b4, .bool b5, .bool b6, .bool b7]) (.int .i64 6)).run Tryz.prog w = .ok (.bool b6) w := by kernel_rfl
theorem idx7 (b0 b1 b2 b3 b4 b5 b6 b7 : Bool) (w : World) : (Instr.index 64 (.agg #[.bool b0, .bool b1, .bool b2, .bool b3, .bool b4, .bool b5, .bool b6, .bool b7]) (.int .i64 7)).run Tryz.prog w = .ok (.bool b7) w := by kernel_rfl
def OffRel (off : List Bool) (w : World) (v i : Value) (wr : World) : Prop :=
  ∃ (k : Nat) (A : Option Addr) (c : Nat), k ≤ 8 ∧ i = .int .i64 k ∧ v = .slice A (offs off k).length c ∧ Own wr w.heap.size 3 A c ((offs off k).map (.int .i64)) ∧ Ext w wr
def OffP (off : List Bool) (w : World) (e : Ending) (w' : World) : Prop := ∃ A c, e = .returned (.slice A (offs off 8).length c) ∧ Own w' w.heap.size 3 A c ((offs off 8).map (.int .i64)) ∧ Ext w w'
set_option maxRecDepth 100000 in
set_option maxHeartbeats 4000000 in
theorem off_any (w : World) (nb bb : Nat) (off : List Bool) (h : w.heap[nb]? = some (.cells (netA bb off) 66)) (hl : off.length = 8) :
    Calls Tryz.prog 10 #[.pointer (some ⟨nb, 0, none⟩)] w (OffP off w) := by
  have HT := Lib.hid (there_any nb bb off w h)
  obtain ⟨b0, b1, b2, b3, b4, b5, b6, b7, rfl⟩ : ∃ b0 b1 b2 b3 b4 b5 b6 b7, off = [b0, b1, b2, b3, b4, b5, b6, b7] := by
    match off, hl with
    | [b0, b1, b2, b3, b4, b5, b6, b7], _ => exact ⟨b0, b1, b2, b3, b4, b5, b6, b7, rfl⟩
  have e0 : w.cell? ⟨nb, 1, none⟩ = some (.bool b0) := by rw [cell_of_heap h]; rfl
  have e1 : w.cell? ⟨nb, 2, none⟩ = some (.bool b1) := by rw [cell_of_heap h]; rfl
  have e2 : w.cell? ⟨nb, 3, none⟩ = some (.bool b2) := by rw [cell_of_heap h]; rfl
  have e3 : w.cell? ⟨nb, 4, none⟩ = some (.bool b3) := by rw [cell_of_heap h]; rfl
  have e4 : w.cell? ⟨nb, 5, none⟩ = some (.bool b4) := by rw [cell_of_heap h]; rfl
  have e5 : w.cell? ⟨nb, 6, none⟩ = some (.bool b5) := by rw [cell_of_heap h]; rfl
  have e6 : w.cell? ⟨nb, 7, none⟩ = some (.bool b6) := by rw [cell_of_heap h]; rfl
  have e7 : w.cell? ⟨nb, 8, none⟩ = some (.bool b7) := by rw [cell_of_heap h]; rfl
  clear h hl
  go_enter Tryz.func10, Tryz.ntmps10
  go_wp2_with fail
  refine (HT.out).mono ?_
  rintro ev w1 ⟨rfl, rfl⟩
  go_wp2_with fail
  go_loopw [2, 12] (fun v i wr => OffRel [b0, b1, b2, b3, b4, b5, b6, b7] w v i wr) (fun _ i _ => 8 - (intOf i).toNat)
  case atStart => exact ⟨0, none, 0, by omega, rfl, rfl, Own.nil _ _ _, Ext.refl _⟩
  case round =>
    obtain ⟨k, A, c, hk, rfl, rfl, hO, hE⟩ := hrel
    have hlen := offs_len [b0, b1, b2, b3, b4, b5, b6, b7] k
    have HE := Lib.hid hE
    clear hE
    rcases (by omega : k = 0 ∨ k = 1 ∨ k = 2 ∨ k = 3 ∨ k = 4 ∨ k = 5 ∨ k = 6 ∨ k = 7 ∨ k = 8) with rfl | rfl | rfl | rfl | rfl | rfl | rfl | rfl | rfl
    · try simp only [Int.natCast_zero, Int.natCast_one, Int.cast_ofNat_Int]
      cases b0
      · go_wp2_with (refine wpList_index rfl _ _ rfl _ _ (.bool false) rfl rfl (idx0 false b1 b2 b3 b4 b5 b6 b7 _) ?_)
        go_roundw
        case rel => exact ⟨1, A, c, by omega, rfl, by rw [offs_no (k := 0) rfl], by rw [offs_no (k := 0) rfl]; exact hO, HE.out⟩
        case measure => simp [intOf]
      · have hO2 := hO.ext ((Ext.refl wr).alloc (.cells #[.int .i64 0] 3))
        have HR := Lib.hid (rd_one wr (.int .i64 0) 3)
        have hE2 := HE.out.alloc (.cells #[.int .i64 0] 3)
        have HE2 := Lib.hid hE2
        have hbs := hE2.sz
        clear hE2
        go_wp2_with (first | (refine wpList_index rfl _ _ rfl _ _ (.bool true) rfl rfl (idx0 true b1 b2 b3 b4 b5 b6 b7 _) ?_) | (at_builtin; refine appendInts _ rfl _ _ rfl w.heap.size _ _ _ (offs [true, b1, b2, b3, b4, b5, b6, b7] 0) rfl rfl hO2 _ _ _ [0] rfl rfl HR.out (by simp only [List.length_cons, List.length_nil]; omega) hbs ?_; intro A3 c3 m3 w3 hm3 hO3 hF3 hA3; obtain rfl := hm3))
        go_roundw
        case rel => exact ⟨1, A3, c3, by omega, rfl, by rw [offs_yes (k := 0) rfl]; simp, by rw [offs_yes (k := 0) rfl]; exact hO3, own_fresh hO2 HE2.out hF3⟩
        case measure => simp [intOf]
    · try simp only [Int.natCast_zero, Int.natCast_one, Int.cast_ofNat_Int]
      cases b1
      · go_wp2_with (refine wpList_index rfl _ _ rfl _ _ (.bool false) rfl rfl (idx1 b0 false b2 b3 b4 b5 b6 b7 _) ?_)
        go_roundw
        case rel => exact ⟨2, A, c, by omega, rfl, by rw [offs_no (k := 1) rfl], by rw [offs_no (k := 1) rfl]; exact hO, HE.out⟩
        case measure => simp [intOf]
      · have hO2 := hO.ext ((Ext.refl wr).alloc (.cells #[.int .i64 1] 3))
        have HR := Lib.hid (rd_one wr (.int .i64 1) 3)
        have hE2 := HE.out.alloc (.cells #[.int .i64 1] 3)
        have HE2 := Lib.hid hE2
        have hbs := hE2.sz
        clear hE2
        go_wp2_with (first | (refine wpList_index rfl _ _ rfl _ _ (.bool true) rfl rfl (idx1 b0 true b2 b3 b4 b5 b6 b7 _) ?_) | (at_builtin; refine appendInts _ rfl _ _ rfl w.heap.size _ _ _ (offs [b0, true, b2, b3, b4, b5, b6, b7] 1) rfl rfl hO2 _ _ _ [1] rfl rfl HR.out (by simp only [List.length_cons, List.length_nil]; omega) hbs ?_; intro A3 c3 m3 w3 hm3 hO3 hF3 hA3; obtain rfl := hm3))
        go_roundw
        case rel => exact ⟨2, A3, c3, by omega, rfl, by rw [offs_yes (k := 1) rfl]; simp, by rw [offs_yes (k := 1) rfl]; exact hO3, own_fresh hO2 HE2.out hF3⟩
        case measure => simp [intOf]
    · try simp only [Int.natCast_zero, Int.natCast_one, Int.cast_ofNat_Int]
      cases b2
      · go_wp2_with (refine wpList_index rfl _ _ rfl _ _ (.bool false) rfl rfl (idx2 b0 b1 false b3 b4 b5 b6 b7 _) ?_)
        go_roundw
        case rel => exact ⟨3, A, c, by omega, rfl, by rw [offs_no (k := 2) rfl], by rw [offs_no (k := 2) rfl]; exact hO, HE.out⟩
        case measure => simp [intOf]
      · have hO2 := hO.ext ((Ext.refl wr).alloc (.cells #[.int .i64 2] 3))
        have HR := Lib.hid (rd_one wr (.int .i64 2) 3)
        have hE2 := HE.out.alloc (.cells #[.int .i64 2] 3)
        have HE2 := Lib.hid hE2
        have hbs := hE2.sz
        clear hE2
        go_wp2_with (first | (refine wpList_index rfl _ _ rfl _ _ (.bool true) rfl rfl (idx2 b0 b1 true b3 b4 b5 b6 b7 _) ?_) | (at_builtin; refine appendInts _ rfl _ _ rfl w.heap.size _ _ _ (offs [b0, b1, true, b3, b4, b5, b6, b7] 2) rfl rfl hO2 _ _ _ [2] rfl rfl HR.out (by simp only [List.length_cons, List.length_nil]; omega) hbs ?_; intro A3 c3 m3 w3 hm3 hO3 hF3 hA3; obtain rfl := hm3))
        go_roundw
        case rel => exact ⟨3, A3, c3, by omega, rfl, by rw [offs_yes (k := 2) rfl]; simp, by rw [offs_yes (k := 2) rfl]; exact hO3, own_fresh hO2 HE2.out hF3⟩
        case measure => simp [intOf]
    · try simp only [Int.natCast_zero, Int.natCast_one, Int.cast_ofNat_Int]
      cases b3
      · go_wp2_with (refine wpList_index rfl _ _ rfl _ _ (.bool false) rfl rfl (idx3 b0 b1 b2 false b4 b5 b6 b7 _) ?_)
        go_roundw
        case rel => exact ⟨4, A, c, by omega, rfl, by rw [offs_no (k := 3) rfl], by rw [offs_no (k := 3) rfl]; exact hO, HE.out⟩
        case measure => simp [intOf]
      · have hO2 := hO.ext ((Ext.refl wr).alloc (.cells #[.int .i64 3] 3))
        have HR := Lib.hid (rd_one wr (.int .i64 3) 3)
        have hE2 := HE.out.alloc (.cells #[.int .i64 3] 3)
        have HE2 := Lib.hid hE2
        have hbs := hE2.sz
        clear hE2
        go_wp2_with (first | (refine wpList_index rfl _ _ rfl _ _ (.bool true) rfl rfl (idx3 b0 b1 b2 true b4 b5 b6 b7 _) ?_) | (at_builtin; refine appendInts _ rfl _ _ rfl w.heap.size _ _ _ (offs [b0, b1, b2, true, b4, b5, b6, b7] 3) rfl rfl hO2 _ _ _ [3] rfl rfl HR.out (by simp only [List.length_cons, List.length_nil]; omega) hbs ?_; intro A3 c3 m3 w3 hm3 hO3 hF3 hA3; obtain rfl := hm3))
        go_roundw
        case rel => exact ⟨4, A3, c3, by omega, rfl, by rw [offs_yes (k := 3) rfl]; simp, by rw [offs_yes (k := 3) rfl]; exact hO3, own_fresh hO2 HE2.out hF3⟩
        case measure => simp [intOf]
    · try simp only [Int.natCast_zero, Int.natCast_one, Int.cast_ofNat_Int]
      cases b4
      · go_wp2_with (refine wpList_index rfl _ _ rfl _ _ (.bool false) rfl rfl (idx4 b0 b1 b2 b3 false b5 b6 b7 _) ?_)
        go_roundw
        case rel => exact ⟨5, A, c, by omega, rfl, by rw [offs_no (k := 4) rfl], by rw [offs_no (k := 4) rfl]; exact hO, HE.out⟩
        case measure => simp [intOf]
      · have hO2 := hO.ext ((Ext.refl wr).alloc (.cells #[.int .i64 4] 3))
        have HR := Lib.hid (rd_one wr (.int .i64 4) 3)
        have hE2 := HE.out.alloc (.cells #[.int .i64 4] 3)
        have HE2 := Lib.hid hE2
        have hbs := hE2.sz
        clear hE2
        go_wp2_with (first | (refine wpList_index rfl _ _ rfl _ _ (.bool true) rfl rfl (idx4 b0 b1 b2 b3 true b5 b6 b7 _) ?_) | (at_builtin; refine appendInts _ rfl _ _ rfl w.heap.size _ _ _ (offs [b0, b1, b2, b3, true, b5, b6, b7] 4) rfl rfl hO2 _ _ _ [4] rfl rfl HR.out (by simp only [List.length_cons, List.length_nil]; omega) hbs ?_; intro A3 c3 m3 w3 hm3 hO3 hF3 hA3; obtain rfl := hm3))
        go_roundw
        case rel => exact ⟨5, A3, c3, by omega, rfl, by rw [offs_yes (k := 4) rfl]; simp, by rw [offs_yes (k := 4) rfl]; exact hO3, own_fresh hO2 HE2.out hF3⟩
        case measure => simp [intOf]
    · try simp only [Int.natCast_zero, Int.natCast_one, Int.cast_ofNat_Int]
      cases b5
      · go_wp2_with (refine wpList_index rfl _ _ rfl _ _ (.bool false) rfl rfl (idx5 b0 b1 b2 b3 b4 false b6 b7 _) ?_)
        go_roundw
        case rel => exact ⟨6, A, c, by omega, rfl, by rw [offs_no (k := 5) rfl], by rw [offs_no (k := 5) rfl]; exact hO, HE.out⟩
        case measure => simp [intOf]
      · have hO2 := hO.ext ((Ext.refl wr).alloc (.cells #[.int .i64 5] 3))
        have HR := Lib.hid (rd_one wr (.int .i64 5) 3)
        have hE2 := HE.out.alloc (.cells #[.int .i64 5] 3)
        have HE2 := Lib.hid hE2
        have hbs := hE2.sz
        clear hE2
        go_wp2_with (first | (refine wpList_index rfl _ _ rfl _ _ (.bool true) rfl rfl (idx5 b0 b1 b2 b3 b4 true b6 b7 _) ?_) | (at_builtin; refine appendInts _ rfl _ _ rfl w.heap.size _ _ _ (offs [b0, b1, b2, b3, b4, true, b6, b7] 5) rfl rfl hO2 _ _ _ [5] rfl rfl HR.out (by simp only [List.length_cons, List.length_nil]; omega) hbs ?_; intro A3 c3 m3 w3 hm3 hO3 hF3 hA3; obtain rfl := hm3))
        go_roundw
        case rel => exact ⟨6, A3, c3, by omega, rfl, by rw [offs_yes (k := 5) rfl]; simp, by rw [offs_yes (k := 5) rfl]; exact hO3, own_fresh hO2 HE2.out hF3⟩
        case measure => simp [intOf]
    · try simp only [Int.natCast_zero, Int.natCast_one, Int.cast_ofNat_Int]
      cases b6
      · go_wp2_with (refine wpList_index rfl _ _ rfl _ _ (.bool false) rfl rfl (idx6 b0 b1 b2 b3 b4 b5 false b7 _) ?_)
        go_roundw
        case rel => exact ⟨7, A, c, by omega, rfl, by rw [offs_no (k := 6) rfl], by rw [offs_no (k := 6) rfl]; exact hO, HE.out⟩
        case measure => simp [intOf]
      · have hO2 := hO.ext ((Ext.refl wr).alloc (.cells #[.int .i64 6] 3))
        have HR := Lib.hid (rd_one wr (.int .i64 6) 3)
        have hE2 := HE.out.alloc (.cells #[.int .i64 6] 3)
        have HE2 := Lib.hid hE2
        have hbs := hE2.sz
        clear hE2
        go_wp2_with (first | (refine wpList_index rfl _ _ rfl _ _ (.bool true) rfl rfl (idx6 b0 b1 b2 b3 b4 b5 true b7 _) ?_) | (at_builtin; refine appendInts _ rfl _ _ rfl w.heap.size _ _ _ (offs [b0, b1, b2, b3, b4, b5, true, b7] 6) rfl rfl hO2 _ _ _ [6] rfl rfl HR.out (by simp only [List.length_cons, List.length_nil]; omega) hbs ?_; intro A3 c3 m3 w3 hm3 hO3 hF3 hA3; obtain rfl := hm3))
        go_roundw
        case rel => exact ⟨7, A3, c3, by omega, rfl, by rw [offs_yes (k := 6) rfl]; simp, by rw [offs_yes (k := 6) rfl]; exact hO3, own_fresh hO2 HE2.out hF3⟩
        case measure => simp [intOf]
    · try simp only [Int.natCast_zero, Int.natCast_one, Int.cast_ofNat_Int]
      cases b7
      · go_wp2_with (refine wpList_index rfl _ _ rfl _ _ (.bool false) rfl rfl (idx7 b0 b1 b2 b3 b4 b5 b6 false _) ?_)
        go_roundw
        case rel => exact ⟨8, A, c, by omega, rfl, by rw [offs_no (k := 7) rfl], by rw [offs_no (k := 7) rfl]; exact hO, HE.out⟩
        case measure => simp [intOf]
      · have hO2 := hO.ext ((Ext.refl wr).alloc (.cells #[.int .i64 7] 3))
        have HR := Lib.hid (rd_one wr (.int .i64 7) 3)
        have hE2 := HE.out.alloc (.cells #[.int .i64 7] 3)
        have HE2 := Lib.hid hE2
        have hbs := hE2.sz
        clear hE2
        go_wp2_with (first | (refine wpList_index rfl _ _ rfl _ _ (.bool true) rfl rfl (idx7 b0 b1 b2 b3 b4 b5 b6 true _) ?_) | (at_builtin; refine appendInts _ rfl _ _ rfl w.heap.size _ _ _ (offs [b0, b1, b2, b3, b4, b5, b6, true] 7) rfl rfl hO2 _ _ _ [7] rfl rfl HR.out (by simp only [List.length_cons, List.length_nil]; omega) hbs ?_; intro A3 c3 m3 w3 hm3 hO3 hF3 hA3; obtain rfl := hm3))
        go_roundw
        case rel => exact ⟨8, A3, c3, by omega, rfl, by rw [offs_yes (k := 7) rfl]; simp, by rw [offs_yes (k := 7) rfl]; exact hO3, own_fresh hO2 HE2.out hF3⟩
        case measure => simp [intOf]
    · go_wp2
      go_ret
      exact ⟨A, c, rfl, hO, HE.out⟩
end Go.Proofs.YtigljihohpdpeaaGreatDoor
