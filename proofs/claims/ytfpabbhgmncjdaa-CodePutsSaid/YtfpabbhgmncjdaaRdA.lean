/-
  The reader of package code: small functions.
-/
import Derived.Test.YtfpabbhgmncjdaaWrG
namespace Go.Proofs.Ytfpabbhgmncjdaa
open Go.RowKit

/-- A reader: its bytes, its place, no error. -/
def Rdr (w : World) (rb : Nat) (D : Option Addr) (N c : Nat) (pos : Int) : Prop := w.heap[rb]? = some (.cells #[.slice D N c, .int .i64 pos, .nilIface] 65)

set_option maxHeartbeats 400000 in
theorem ok_any (rb : Nat) (D : Option Addr) (N c : Nat) (pos : Int) (w : World) (hR : Rdr w rb D N c pos) :
    Calls Try.prog 32 #[.pointer (some ⟨rb, 0, none⟩)] w fun e w' => e = .returned (.bool true) ∧ w = w' := by
  have h2 := cell_of_heap hR 2
  simp at h2
  go_enter Try.func32, Try.ntmps32
  go_wp2
  go_ret
  exact ⟨rfl, rfl⟩

set_option maxHeartbeats 400000 in
theorem there_2 (rb : Nat) (D : Option Addr) (N c : Nat) (w : World) (hR : Rdr w rb D N c 0) (hN : 2 ≤ N) (hN2 : N ≤ 1000000) :
    Calls Try.prog 33 #[.pointer (some ⟨rb, 0, none⟩), .int .i64 2] w fun e w' => e = .returned (.bool true) ∧ ∃ n, w' = w.drewN n := by
  have h0 := cell_of_heap hR 0
  have h1 := cell_of_heap hR 1
  simp at h0 h1
  have hd : decide ((2 : Int) ≤ (N : Int)) = true := by simp; omega
  go_enter Try.func33, Try.ntmps33
  go_wp2
  go_quiet (fail)
  go_wp2
  go_ret
  exact ⟨rfl, _, rfl⟩

set_option maxHeartbeats 400000 in
theorem next_2 (rb g : Nat) (N c : Nat) (w : World) (hR : Rdr w rb (some ⟨g, 0, none⟩) N c 0) (hN : 2 ≤ N) (hNc : N ≤ c) (hN2 : N ≤ 1000000) :
    Calls Try.prog 35 #[.pointer (some ⟨rb, 0, none⟩), .int .i64 2] w fun e w' => e = .returned (.slice (some ⟨g, 0, none⟩) 2 c) ∧ ∃ n, w' = (w.setCell ⟨rb, 1, none⟩ (.int .i64 2)).drewN n := by
  have h0 := cell_of_heap hR 0
  have h1 := cell_of_heap hR 1
  have hf := frozen_of_heap hR 1
  simp at h0 h1
  go_enter Try.func35, Try.ntmps35
  go_wp2
  go_quiet (fail)
  go_wp2
  go_ret
  exact ⟨rfl, _, rfl⟩

theorem backward_any (D : Option Addr) (n c : Nat) (w : World) :
    Calls Try.prog 36 #[.slice D n c] w fun e w' => e = .returned (.func (.func 45) #[] #[.pointer (some ⟨w.heap.size, 0, none⟩)]) ∧ w' = w.alloc (.cells #[.slice D n c] 25) := by
  go_enter Try.func36, Try.ntmps36
  go_wp2
  go_ret
  exact ⟨rfl, rfl⟩

/-- What Read leaves. -/
def ReadP (bs : List Int) (w : World) (e : Ending) (w' : World) : Prop :=
  ∃ rb A c, e = .returned (.pointer (some ⟨rb, 0, none⟩)) ∧ w.heap.size ≤ rb ∧ Rdr w' rb A bs.length c 0 ∧ Own w' w.heap.size 5 A c (bs.map (.int .u8)) ∧ Ext w w'
set_option maxHeartbeats 400000 in
theorem read_any (D : Option Addr) (d : Nat) (bs : List Int) (w : World) (hD : Rd w D (bs.map (.int .u8))) (hl : bs.length ≤ 1000000000000) :
    Calls Try.prog 12 #[.slice D bs.length d] w (ReadP bs w) := by
  go_enter Try.func12, Try.ntmps12
  go_wp2_with (go_at_call 31; refine (clone_any _ _ bs _ hD hl).mono ?_; rintro e w1 ⟨A1, c1, rfl, hO1, hE1⟩)
  go_ret
  exact ⟨w1.heap.size, A1, c1, rfl, hE1.sz, heap_alloc_new w1 _, hO1.ext ((Ext.refl w1).alloc _), hE1.alloc _⟩
end Go.Proofs.Ytfpabbhgmncjdaa
