/-
  awake: the chapter's examples.
-/
import Derived.Test.YtfpabbhgmncjdaaRdC
import Derived.Lib.SmallJoins
namespace Go.Proofs.Ytfpabbhgmncjdaa
open Go.RowKit

theorem Wr.new (tW : TypeId) (w : World) : Wr tW w.heap.size (w.alloc (.cells #[.slice none 0 0, .bool false] tW)) w.heap.size none 0 [] false :=
  ⟨heap_alloc_new w _, Nat.le_refl _, Own.nil _ _ _⟩
def aw1 : List Int := [44, 1]
def aw2 : List Int := [44, 1, 2, 0, 97, 98]
def aw3 : List Int := [44, 1, 2, 0, 97, 98, 1, 7, 0, 0, 0, 0, 0]
theorem aw1_eq : fieldS 2 [] false [300] = (aw1, false) := by decide
theorem aw2_eq : textS aw1 false [97, 98] = (aw2, false) := by decide
theorem aw3_eq : rowS aw2 false [7] = (aw3, false) := by decide
theorem aw4_eq : valF [(1, 1), (0, 44)] = 300 := by decide +kernel

theorem rd_mark (w : World) (l : List Value) (t : TypeId) (fr : Nat × Nat) : Rd (w.alloc (.cells l.toArray t fr)) (some ⟨w.heap.size, 0, none⟩) l := fun j u hj => by
  refine ⟨_, rfl, ?_⟩
  rw [add_lit', Nat.zero_add, World.cell?_alloc_mark]
  simpa using hj

set_option maxRecDepth 100000 in
set_option maxHeartbeats 1000000 in
theorem awake_any (w : World) : Calls Try.prog 5 #[] w fun e w' => e = .returned (.bool true) ∧ Ext w w' := by
  have hW0 := Wr.new 37 w
  go_enter Try.func5, Try.ntmps5
  go_wp2_with fail
  have P0 := WP.start hW0
  have P0a := P0.ext ((Ext.refl _).alloc (.cells #[.int .i64 300] 3))
  have hr0 := rd_one (w.alloc (.cells #[.slice none 0 0, .bool false] 37)) (.int .i64 300) 3
  have ho0 := off_new hW0
  rw [World.size_alloc] at hr0 ho0
  refine (field_any w.heap.size w.heap.size none 0 [] false 2 (some ⟨w.heap.size + 1, 0, none⟩) 1 [300] _ P0a.1 (by simp; omega) hr0 (fun _ => ho0) (by simp)).mono ?_
  rintro e w1 ⟨rfl, hS1⟩
  rw [aw1_eq] at hS1
  obtain ⟨A1, c1, P1⟩ := P0a.step hS1
  have z1 := P1.size
  simp at z1
  clear hS1 P0a P0
  have hcv := Joins.run_convert_bytes_const_at (P := Try.prog) w1 25 5 #[.int .u8 97, .int .u8 98] 2 2 w1.heap.size rfl Try.underlying25 Try.underlying5
  go_wp2_with fail
  have P1a := P1.ext ((Ext.refl _).alloc (.cells #[.int .u8 97, .int .u8 98] 5 (2, 3)))
  refine (text_any w.heap.size w.heap.size _ _ aw1 false _ _ [97, 98] _ P1a.1 (by simp; omega) (rd_mark _ [.int .u8 97, .int .u8 98] _ _) (fun _ => off_new P1.1) (by simp [aw1]) (by simp)).mono ?_
  rintro e w2 ⟨rfl, hS2⟩
  rw [aw2_eq] at hS2
  obtain ⟨A2, c2, P2⟩ := P1a.step hS2
  have z2 := P2.size
  simp at z2
  clear hS2 P1a P1
  go_wp2_with fail
  have P2a := P2.ext ((Ext.refl _).alloc (.cells #[.int .i64 7] 3))
  refine (row_any w.heap.size w.heap.size _ _ aw2 false _ _ [7] _ P2a.1 (by simp; omega) (rd_one _ _ _) (fun _ => off_new P2.1) (by simp [aw2]) (by simp)).mono ?_
  rintro e w3 ⟨rfl, hS3⟩
  rw [aw3_eq] at hS3
  obtain ⟨A3, c3, P3⟩ := P2a.step hS3
  have z3 := P3.size
  simp at z3
  clear hS3 P2a P2
  go_wp2_with fail
  refine (bytes_any w.heap.size w.heap.size _ _ aw3 false _ P3.1 (by simp [aw3])).mono ?_
  rintro e w4 ⟨A4, c4, rfl, hO4, hS4⟩
  obtain ⟨A5, c5, P5⟩ := P3.step hS4
  have z5 := P5.size
  simp at z5
  have hE4 : Ext w w4 := Below.trans ((Ext.refl w).alloc _) (P5.2.1.below (by simp) (by
    rintro i (rfl | hi)
    · exact Nat.le_refl _
    · simp [blk] at hi))
  simp only [Bool.false_eq_true, if_false] at hO4
  clear hS4 P3 P5 hW0
  go_wp2_with fail
  have hE5 := (Ext.refl w4).alloc (.cells #[.int .u8 44, .int .u8 1, .int .u8 2, .int .u8 0, .int .u8 97, .int .u8 98, .int .u8 1, .int .u8 7, .int .u8 0, .int .u8 0, .int .u8 0, .int .u8 0, .int .u8 0] 5)
  refine (sameBytes_any _ _ _ _ aw3 aw3 _ ((hO4.ext hE5).rd) (rd_lit w4 (aw3.map (.int .u8)) _) (by simp [aw3, maxLen]) (by simp [aw3, maxLen])).mono ?_
  rintro e w6 ⟨rfl, hE6⟩
  have hO6 := (hO4.ext hE5).ext hE6
  have hE06 := (hE4.trans hE5).trans hE6
  simp only [decide_true]
  go_wp2_with fail
  refine (read_any _ _ aw3 _ hO6.rd (by simp [aw3])).mono ?_
  rintro e w7 ⟨rb, A7, c7, rfl, hrb, hR7, hO7, hE7⟩
  obtain ⟨b, rfl⟩ := hO7.some_ (by simp [aw3])
  have hb7 := hO7.lt (i := b) rfl
  have hlb := World.block_lt_of_cell? w7 _ (cell_of_heap hR7 1)
  have hbr : b ≠ rb := fun e => hO7.ne_blk hR7 (by decide) (by subst e; rfl)
  have hc0 : w7.cell? ⟨b, 0, none⟩ = some (.int .u8 44) := by
    obtain ⟨ad, ha, hc⟩ := hO7.rd 0 (.int .u8 44) rfl
    injection ha with ha; subst ha; simpa [add_lit'] using hc
  have hc1 : w7.cell? ⟨b, 1, none⟩ = some (.int .u8 1) := by
    obtain ⟨ad, ha, hc⟩ := hO7.rd 1 (.int .u8 1) rfl
    injection ha with ha; subst ha; simpa [add_lit'] using hc
  go_wp2_with fail
  refine (rdField_2 rb b _ _ 44 1 _ hR7 (by decide) (by simpa [aw3] using hO7.cap.1) (by decide) hbr hc0 hc1 (by rw [aw4_eq]; decide)).mono ?_
  rintro e w8 ⟨rfl, hF8⟩
  rw [aw4_eq]
  go_wp2
  go_ret
  have hz := (hE06.trans hE7).sz
  refine ⟨rfl, Below.trans (hE06.trans hE7) (hF8.below hz (by rintro i rfl; have := hE06.sz; omega))⟩
end Go.Proofs.Ytfpabbhgmncjdaa
