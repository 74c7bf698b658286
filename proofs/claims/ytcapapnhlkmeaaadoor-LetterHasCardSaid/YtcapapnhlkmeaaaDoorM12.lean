/-
  The letters' small tests: within, holds, right, someones.
-/
import Derived.Test.YtcapapnhlkmeaaaDoorM11
import Derived.Test.YtcapapnhlkmeaaaDoorM8
import Derived.Laws.StructEq
namespace Go.Proofs.YtcapapnhlkmeaaaDoor
open Go.RowKit

def inR (n lo hi : Int) : Bool := decide (lo ≤ n) && decide (n ≤ hi)
theorem inR_iff {n lo hi : Int} : inR n lo hi = true ↔ lo ≤ n ∧ n ≤ hi := by simp [inR]
theorem inR_no {n lo hi : Int} : inR n lo hi = false ↔ ¬ (lo ≤ n ∧ n ≤ hi) := by rw [← inR_iff]; simp
theorem within_any (n lo hi : Int) (w : World) : Calls Tryd.prog 41 #[.int .i64 n, .int .i64 lo, .int .i64 hi] w fun e w' => e = .returned (.bool (inR n lo hi)) ∧ w = w' := by
  by_cases h1 : lo ≤ n
  · have hd1 : decide (lo ≤ n) = true := by simpa using h1
    by_cases h2 : n ≤ hi
    · have hd2 : decide (n ≤ hi) = true := by simpa using h2
      have hv : Hid (inR n lo hi = true) := Lib.hid (by simp [inR, h1, h2])
      go_enter Tryd.func41, Tryd.ntmps41
      go_wp2
      go_ret
      exact ⟨by rw [hv.out]; rfl, rfl⟩
    · have hd2 : decide (n ≤ hi) = false := by simpa using h2
      have hv : Hid (inR n lo hi = false) := Lib.hid (by simp [inR, h1, h2])
      go_enter Tryd.func41, Tryd.ntmps41
      go_wp2
      go_ret
      exact ⟨by rw [hv.out]; rfl, rfl⟩
  · have hd1 : decide (lo ≤ n) = false := by simpa using h1
    have hv : Hid (inR n lo hi = false) := Lib.hid (by simp [inR, h1])
    go_enter Tryd.func41, Tryd.ntmps41
    go_wp2
    go_ret
    exact ⟨by rw [hv.out]; rfl, rfl⟩

/-- What holds tells. -/
def holdsV (s : ByteArray) (ok : Bool) : Value := if ok = true then .nilIface else partV s
theorem holds_part (s : ByteArray) (ok : Bool) (w : World) : Calls Tryd.prog 24 #[.string s, .bool ok] w fun e w' => e = .returned (holdsV s ok) ∧ w = w' := by
  cases ok
  all_goals
    go_enter Tryd.func24, Tryd.ntmps24
    go_wp2
    go_ret
    exact ⟨rfl, rfl⟩

def idV (i t k : Int) : Value := .agg #[.int .i64 i, .int .i64 t, .int .i64 k]
def zeroId (i t k : Int) : Bool := i == 0 && (t == 0 && k == 0)
theorem eqId (i t k i' t' k' : Int) (w : World) : (binOp .eql 25 (.agg #[.int .i64 i, .int .i64 t, .int .i64 k]) (.agg #[.int .i64 i', .int .i64 t', .int .i64 k'])).run Tryd.prog w = .ok (.bool (i == i' && (t == t' && k == k'))) w := by
  have hf : Tryd.prog.fieldsOf 25 = Tryd.prog.fieldsOf 25 := rfl
  cases h1 : i == i' <;> cases h2 : t == t' <;> cases h3 : k == k'
  all_goals simp [go_sem, h1, h2, h3, Tryd.underlying25, Tryd.underlying3, Tryd.underlying23]

def rightI (i t k : Int) : Bool := zeroId i t k || (inR i 1 1099511627776 && (inR t 0 1099511627776 && (decide (1 ≤ k) && decide (k ≤ 3))))
set_option maxHeartbeats 600000 in
theorem rightId_any (i t k : Int) (w : World) : Calls Tryd.prog 42 #[idV i t k] w fun e w' => e = .returned (.bool (rightI i t k)) ∧ Ext w w' := by
  have heq := eqId i t k 0 0 0
  unfold idV
  cases h0 : zeroId i t k with
  | true =>
    have hz : (i == 0 && (t == 0 && k == 0)) = true := h0
    have hv : Hid (rightI i t k = true) := Lib.hid (by simp [rightI, h0])
    rw [hz] at heq
    clear hz h0
    go_enter Tryd.func42, Tryd.ntmps42
    go_wp2_with (go_at_call 41; refine (within_any _ _ _ _).mono ?_; rintro e w' ⟨rfl, rfl⟩)
    go_ret
    exact ⟨by rw [hv.out]; rfl, (Ext.refl _).alloc _⟩
  | false =>
    have hz : (i == 0 && (t == 0 && k == 0)) = false := h0
    rw [hz] at heq
    clear hz
    cases h1 : inR i 1 1099511627776 with
    | false =>
      have hv : Hid (rightI i t k = false) := Lib.hid (by simp [rightI, h0, h1])
      clear h0
      go_enter Tryd.func42, Tryd.ntmps42
      go_wp2_with (go_at_call 41; refine (within_any _ _ _ _).mono ?_; rintro e w' ⟨rfl, rfl⟩)
      go_ret
      exact ⟨by rw [hv.out]; rfl, (Ext.refl _).alloc _⟩
    | true =>
      cases h2 : inR t 0 1099511627776 with
      | false =>
        have hv : Hid (rightI i t k = false) := Lib.hid (by simp [rightI, h0, h1, h2])
        clear h0
        go_enter Tryd.func42, Tryd.ntmps42
        go_wp2_with (go_at_call 41; refine (within_any _ _ _ _).mono ?_; rintro e w' ⟨rfl, rfl⟩)
        go_ret
        exact ⟨by rw [hv.out]; rfl, (Ext.refl _).alloc _⟩
      | true =>
        cases h3 : decide (1 ≤ k) with
        | false =>
          have hv : Hid (rightI i t k = false) := Lib.hid (by simp [rightI, h0, h1, h2, h3])
          clear h0
          go_enter Tryd.func42, Tryd.ntmps42
          go_wp2_with (go_at_call 41; refine (within_any _ _ _ _).mono ?_; rintro e w' ⟨rfl, rfl⟩)
          go_ret
          exact ⟨by rw [hv.out]; rfl, (Ext.refl _).alloc _⟩
        | true =>
          cases h4 : decide (k ≤ 3) with
          | false =>
            have hv : Hid (rightI i t k = false) := Lib.hid (by simp [rightI, h0, h1, h2, h3, h4])
            clear h0
            go_enter Tryd.func42, Tryd.ntmps42
            go_wp2_with (go_at_call 41; refine (within_any _ _ _ _).mono ?_; rintro e w' ⟨rfl, rfl⟩)
            go_ret
            exact ⟨by rw [hv.out]; rfl, (Ext.refl _).alloc _⟩
          | true =>
            have hv : Hid (rightI i t k = true) := Lib.hid (by simp [rightI, h0, h1, h2, h3, h4])
            clear h0
            go_enter Tryd.func42, Tryd.ntmps42
            go_wp2_with (go_at_call 41; refine (within_any _ _ _ _).mono ?_; rintro e w' ⟨rfl, rfl⟩)
            go_ret
            exact ⟨by rw [hv.out]; rfl, (Ext.refl _).alloc _⟩

def someI (i t k : Int) : Bool := inR i 1 1099511627776 && rightI i t k
set_option maxHeartbeats 600000 in
theorem someones_any (i t k : Int) (w : World) : Calls Tryd.prog 45 #[idV i t k] w fun e w' => e = .returned (.bool (someI i t k)) ∧ Ext w w' := by
  have hR := fun w => rightId_any i t k w
  unfold idV at hR ⊢
  have HR := Lib.hid hR
  clear hR
  cases h1 : inR i 1 1099511627776 with
  | false =>
    have hv : Hid (someI i t k = false) := Lib.hid (by simp [someI, h1])
    go_enter Tryd.func45, Tryd.ntmps45
    go_wp2_with (go_at_call 41; refine (within_any _ _ _ _).mono ?_; rintro e w' ⟨rfl, rfl⟩)
    go_ret
    exact ⟨by rw [hv.out]; rfl, (Ext.refl _).alloc _⟩
  | true =>
    have hv : Hid (someI i t k = rightI i t k) := Lib.hid (by simp [someI, h1])
    go_enter Tryd.func45, Tryd.ntmps45
    go_wp2_with (first | (go_at_call 41; refine (within_any _ _ _ _).mono ?_; rintro e w' ⟨rfl, rfl⟩) | (go_at_call 42; refine (HR.out _).mono ?_; rintro e w1 ⟨rfl, hE1⟩))
    go_ret
    exact ⟨by rw [hv.out]; rfl, ((Ext.refl _).alloc _).trans hE1⟩
end Go.Proofs.YtcapapnhlkmeaaaDoor
