/-
  The verifier's flat functions at nil.
-/
import Derived.Test.YtfpabbhgmncjdaaKitA
namespace Go.Proofs.Ytfpabbhgmncjdaa
open Go.RowKit

set_option maxRecDepth 100000 in
set_option maxHeartbeats 600000 in
theorem flatLimbs_nil (w : World) : Calls Try.prog 46 #[.slice none 0 0] w fun e w' => e = .returned (.bool true) ∧ Ext w w' := by
  have hmk : ∀ W : World, (Instr.makeSlice 76 (.int .i64 0) (.int .i64 0)).run Try.prog W = .ok (.slice (some ⟨W.heap.size, 0, none⟩) 0 0) (W.alloc (.cells #[] 117)) := fun _ => by kernel_rfl
  go_enter Try.func46, Try.ntmps46
  go_wp2
  go_rounds 1
  go_wp2
  go_rounds 1
  go_wp2
  go_rounds 1
  go_wp2
  go_rounds 1
  go_wp2
  go_rounds 1
  go_wp2
  go_ret
  exact ⟨rfl, (Ext.refl _).alloc _⟩

set_option maxRecDepth 100000 in
set_option maxHeartbeats 600000 in
theorem flatWords_nil (w : World) : Calls Try.prog 47 #[.slice none 0 0] w fun e w' => e = .returned (.bool true) ∧ Ext w w' := by
  have hmk : ∀ W : World, (Instr.makeSlice 77 (.int .i64 0) (.int .i64 0)).run Try.prog W = .ok (.slice (some ⟨W.heap.size, 0, none⟩) 0 0) (W.alloc (.cells #[] 119)) := fun _ => by kernel_rfl
  go_enter Try.func47, Try.ntmps47
  go_wp2
  go_rounds 1
  go_wp2
  go_rounds 1
  go_wp2
  go_rounds 1
  go_wp2
  go_rounds 1
  go_wp2
  go_rounds 1
  go_wp2
  go_ret
  exact ⟨rfl, (Ext.refl _).alloc _⟩

set_option maxRecDepth 100000 in
set_option maxHeartbeats 600000 in
theorem flatInts_nil (w : World) : Calls Try.prog 48 #[.slice none 0 0] w fun e w' => e = .returned (.bool true) ∧ Ext w w' := by
  have hmk : ∀ W : World, (Instr.makeSlice 78 (.int .i64 0) (.int .i64 0)).run Try.prog W = .ok (.slice (some ⟨W.heap.size, 0, none⟩) 0 0) (W.alloc (.cells #[] 29)) := fun _ => by kernel_rfl
  go_enter Try.func48, Try.ntmps48
  go_wp2
  go_rounds 1
  go_wp2
  go_rounds 1
  go_wp2
  go_rounds 1
  go_wp2
  go_rounds 1
  go_wp2
  go_rounds 1
  go_wp2
  go_ret
  exact ⟨rfl, (Ext.refl _).alloc _⟩

set_option maxRecDepth 100000 in
set_option maxHeartbeats 600000 in
theorem flatLongs_nil (w : World) : Calls Try.prog 49 #[.slice none 0 0] w fun e w' => e = .returned (.bool true) ∧ Ext w w' := by
  have hmk : ∀ W : World, (Instr.makeSlice 79 (.int .i64 0) (.int .i64 0)).run Try.prog W = .ok (.slice (some ⟨W.heap.size, 0, none⟩) 0 0) (W.alloc (.cells #[] 120)) := fun _ => by kernel_rfl
  go_enter Try.func49, Try.ntmps49
  go_wp2
  go_rounds 1
  go_wp2
  go_rounds 1
  go_wp2
  go_rounds 1
  go_wp2
  go_rounds 1
  go_wp2
  go_rounds 1
  go_wp2
  go_ret
  exact ⟨rfl, (Ext.refl _).alloc _⟩

set_option maxRecDepth 100000 in
set_option maxHeartbeats 600000 in
theorem flatTexts_nil (w : World) : Calls Try.prog 50 #[.slice none 0 0] w fun e w' => e = .returned (.bool true) ∧ Ext w w' := by
  have hmk : ∀ W : World, (Instr.makeSlice 80 (.int .i64 0) (.int .i64 0)).run Try.prog W = .ok (.slice (some ⟨W.heap.size, 0, none⟩) 0 0) (W.alloc (.cells #[] 121)) := fun _ => by kernel_rfl
  go_enter Try.func50, Try.ntmps50
  go_wp2
  go_rounds 1
  go_wp2
  go_rounds 1
  go_wp2
  go_rounds 1
  go_wp2
  go_rounds 1
  go_wp2
  go_rounds 1
  go_wp2
  go_ret
  exact ⟨rfl, (Ext.refl _).alloc _⟩

set_option maxRecDepth 100000 in
set_option maxHeartbeats 600000 in
theorem flatTruths_nil (w : World) : Calls Try.prog 52 #[.slice none 0 0] w fun e w' => e = .returned (.bool true) ∧ Ext w w' := by
  have hmk : ∀ W : World, (Instr.makeSlice 81 (.int .i64 0) (.int .i64 0)).run Try.prog W = .ok (.slice (some ⟨W.heap.size, 0, none⟩) 0 0) (W.alloc (.cells #[] 123)) := fun _ => by kernel_rfl
  go_enter Try.func52, Try.ntmps52
  go_wp2
  go_rounds 1
  go_wp2
  go_rounds 1
  go_wp2
  go_rounds 1
  go_wp2
  go_rounds 1
  go_wp2
  go_rounds 1
  go_wp2
  go_ret
  exact ⟨rfl, (Ext.refl _).alloc _⟩

set_option maxRecDepth 100000 in
set_option maxHeartbeats 600000 in
theorem flatUnits_nil (w : World) : Calls Try.prog 53 #[.slice none 0 0] w fun e w' => e = .returned (.bool true) ∧ Ext w w' := by
  have hmk : ∀ W : World, (Instr.makeSlice 82 (.int .i64 0) (.int .i64 0)).run Try.prog W = .ok (.slice (some ⟨W.heap.size, 0, none⟩) 0 0) (W.alloc (.cells #[] 124)) := fun _ => by kernel_rfl
  go_enter Try.func53, Try.ntmps53
  go_wp2
  go_rounds 1
  go_wp2
  go_rounds 1
  go_wp2
  go_rounds 1
  go_wp2
  go_rounds 1
  go_wp2
  go_rounds 1
  go_wp2
  go_ret
  exact ⟨rfl, (Ext.refl _).alloc _⟩

set_option maxRecDepth 100000 in
set_option maxHeartbeats 600000 in
theorem flatEntries_nil (w : World) : Calls Try.prog 54 #[.slice none 0 0] w fun e w' => e = .returned (.bool true) ∧ Ext w w' := by
  have hmk : ∀ W : World, (Instr.makeSlice 83 (.int .i64 0) (.int .i64 0)).run Try.prog W = .ok (.slice (some ⟨W.heap.size, 0, none⟩) 0 0) (W.alloc (.cells #[] 130)) := fun _ => by kernel_rfl
  go_enter Try.func54, Try.ntmps54
  go_wp2
  go_rounds 1
  go_wp2
  go_rounds 1
  go_wp2
  go_rounds 1
  go_wp2
  go_rounds 1
  go_wp2
  go_rounds 1
  go_wp2
  go_ret
  exact ⟨rfl, (Ext.refl _).alloc _⟩

set_option maxRecDepth 100000 in
set_option maxHeartbeats 600000 in
theorem flatIdents_nil (w : World) : Calls Try.prog 55 #[.slice none 0 0] w fun e w' => e = .returned (.bool true) ∧ Ext w w' := by
  have hmk : ∀ W : World, (Instr.makeSlice 84 (.int .i64 0) (.int .i64 0)).run Try.prog W = .ok (.slice (some ⟨W.heap.size, 0, none⟩) 0 0) (W.alloc (.cells #[] 133)) := fun _ => by kernel_rfl
  go_enter Try.func55, Try.ntmps55
  go_wp2
  go_rounds 1
  go_wp2
  go_rounds 1
  go_wp2
  go_rounds 1
  go_wp2
  go_rounds 1
  go_wp2
  go_rounds 1
  go_wp2
  go_ret
  exact ⟨rfl, (Ext.refl _).alloc _⟩

set_option maxRecDepth 100000 in
set_option maxHeartbeats 600000 in
theorem flatMetas_nil (w : World) : Calls Try.prog 56 #[.slice none 0 0] w fun e w' => e = .returned (.bool true) ∧ Ext w w' := by
  have hmk : ∀ W : World, (Instr.makeSlice 85 (.int .i64 0) (.int .i64 0)).run Try.prog W = .ok (.slice (some ⟨W.heap.size, 0, none⟩) 0 0) (W.alloc (.cells #[] 137)) := fun _ => by kernel_rfl
  go_enter Try.func56, Try.ntmps56
  go_wp2
  go_rounds 1
  go_wp2
  go_rounds 1
  go_wp2
  go_rounds 1
  go_wp2
  go_rounds 1
  go_wp2
  go_rounds 1
  go_wp2
  go_ret
  exact ⟨rfl, (Ext.refl _).alloc _⟩

set_option maxRecDepth 100000 in
set_option maxHeartbeats 600000 in
theorem flatMarks_nil (w : World) : Calls Try.prog 57 #[.slice none 0 0] w fun e w' => e = .returned (.bool true) ∧ Ext w w' := by
  have hmk : ∀ W : World, (Instr.makeSlice 86 (.int .i64 0) (.int .i64 0)).run Try.prog W = .ok (.slice (some ⟨W.heap.size, 0, none⟩) 0 0) (W.alloc (.cells #[] 141)) := fun _ => by kernel_rfl
  go_enter Try.func57, Try.ntmps57
  go_wp2
  go_rounds 1
  go_wp2
  go_rounds 1
  go_wp2
  go_rounds 1
  go_wp2
  go_rounds 1
  go_wp2
  go_rounds 1
  go_wp2
  go_ret
  exact ⟨rfl, (Ext.refl _).alloc _⟩

set_option maxRecDepth 100000 in
set_option maxHeartbeats 600000 in
theorem flatSnaps_nil (w : World) : Calls Try.prog 58 #[.slice none 0 0] w fun e w' => e = .returned (.bool true) ∧ Ext w w' := by
  have hmk : ∀ W : World, (Instr.makeSlice 87 (.int .i64 0) (.int .i64 0)).run Try.prog W = .ok (.slice (some ⟨W.heap.size, 0, none⟩) 0 0) (W.alloc (.cells #[] 145)) := fun _ => by kernel_rfl
  go_enter Try.func58, Try.ntmps58
  go_wp2
  go_rounds 1
  go_wp2
  go_rounds 1
  go_wp2
  go_rounds 1
  go_wp2
  go_rounds 1
  go_wp2
  go_rounds 1
  go_wp2
  go_ret
  exact ⟨rfl, (Ext.refl _).alloc _⟩

set_option maxRecDepth 100000 in
set_option maxHeartbeats 600000 in
theorem flatShapes_nil (w : World) : Calls Try.prog 59 #[.slice none 0 0] w fun e w' => e = .returned (.bool true) ∧ Ext w w' := by
  have hmk : ∀ W : World, (Instr.makeSlice 88 (.int .i64 0) (.int .i64 0)).run Try.prog W = .ok (.slice (some ⟨W.heap.size, 0, none⟩) 0 0) (W.alloc (.cells #[] 150)) := fun _ => by kernel_rfl
  go_enter Try.func59, Try.ntmps59
  go_wp2
  go_rounds 1
  go_wp2
  go_rounds 1
  go_wp2
  go_rounds 1
  go_wp2
  go_rounds 1
  go_wp2
  go_rounds 1
  go_wp2
  go_ret
  exact ⟨rfl, (Ext.refl _).alloc _⟩

set_option maxRecDepth 100000 in
set_option maxHeartbeats 600000 in
theorem flatLetters_nil (w : World) : Calls Try.prog 60 #[.slice none 0 0] w fun e w' => e = .returned (.bool true) ∧ Ext w w' := by
  have hmk : ∀ W : World, (Instr.makeSlice 89 (.int .i64 0) (.int .i64 0)).run Try.prog W = .ok (.slice (some ⟨W.heap.size, 0, none⟩) 0 0) (W.alloc (.cells #[] 154)) := fun _ => by kernel_rfl
  go_enter Try.func60, Try.ntmps60
  go_wp2
  go_rounds 1
  go_wp2
  go_rounds 1
  go_wp2
  go_rounds 1
  go_wp2
  go_rounds 1
  go_wp2
  go_rounds 1
  go_wp2
  go_ret
  exact ⟨rfl, (Ext.refl _).alloc _⟩
end Go.Proofs.Ytfpabbhgmncjdaa
