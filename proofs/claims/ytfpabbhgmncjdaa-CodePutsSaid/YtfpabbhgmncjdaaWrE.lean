/-
  The writer of package code: Right, Entry, Clone, Bytes.
-/
import Derived.Test.YtfpabbhgmncjdaaWrD
namespace Go.Proofs.Ytfpabbhgmncjdaa
open Go.RowKit

def inB (n least : Int) : Bool := decide (least ≤ n) && decide (n ≤ 1099511627776)
theorem inB_iff {n least : Int} : inB n least = true ↔ least ≤ n ∧ n ≤ 1099511627776 := by simp [inB]
theorem inB_any (n least : Int) (w : World) : Calls Try.prog 43 #[.int .i64 n, .int .i64 least] w fun e w' => e = .returned (.bool (inB n least)) ∧ w = w' := by
  by_cases h1 : least ≤ n
  · have hd1 : decide (least ≤ n) = true := by simpa using h1
    by_cases h2 : n ≤ 1099511627776
    · have hd2 : decide (n ≤ 1099511627776) = true := by simpa using h2
      have hv : Hid (inB n least = true) := Lib.hid (by simp [inB, h1, h2])
      go_enter Try.func43, Try.ntmps43
      go_wp2
      go_ret
      exact ⟨by rw [hv.out]; rfl, rfl⟩
    · have hd2 : decide (n ≤ 1099511627776) = false := by simpa using h2
      have hv : Hid (inB n least = false) := Lib.hid (by simp [inB, h1, h2])
      go_enter Try.func43, Try.ntmps43
      go_wp2
      go_ret
      exact ⟨by rw [hv.out]; rfl, rfl⟩
  · have hd1 : decide (least ≤ n) = false := by simpa using h1
    have hv : Hid (inB n least = false) := Lib.hid (by simp [inB, h1])
    go_enter Try.func43, Try.ntmps43
    go_wp2
    go_ret
    exact ⟨by rw [hv.out]; rfl, rfl⟩

def rightE (i t k : Int) (n : Nat) : Bool := inB i 1 && inB t 0 && decide (1 ≤ k) && decide (k ≤ 3) && decide (n ≤ 200)
theorem rightE_iff {i t k : Int} {n : Nat} : rightE i t k n = true ↔ (1 ≤ i ∧ i ≤ 1099511627776) ∧ (0 ≤ t ∧ t ≤ 1099511627776) ∧ 1 ≤ k ∧ k ≤ 3 ∧ n ≤ 200 := by simp [rightE, inB, and_assoc]

set_option maxHeartbeats 600000 in
theorem right_any (i t k : Int) (D : Option Addr) (n d : Nat) (w : World) :
    Calls Try.prog 26 #[.agg #[.int .i64 i, .int .i64 t, .int .i64 k, .slice D n d]] w fun e w' => e = .returned (.bool (rightE i t k n)) ∧ Ext w w' := by
  cases h0 : inB i 1 with
  | false =>
    have hv : Hid (rightE i t k n = false) := Lib.hid (by rw [Bool.eq_false_iff, ne_eq, rightE_iff]; simp [inB] at *; omega)
    go_enter Try.func26, Try.ntmps26
    go_wp2_with (go_at_call 43; refine (inB_any _ _ _).mono ?_; rintro e w' ⟨rfl, rfl⟩)
    go_ret
    exact ⟨by rw [hv.out]; rfl, (Ext.refl _).alloc _⟩
  | true =>
    cases h1 : inB t 0 with
    | false =>
      have hv : Hid (rightE i t k n = false) := Lib.hid (by rw [Bool.eq_false_iff, ne_eq, rightE_iff]; simp [inB] at *; omega)
      go_enter Try.func26, Try.ntmps26
      go_wp2_with (go_at_call 43; refine (inB_any _ _ _).mono ?_; rintro e w' ⟨rfl, rfl⟩)
      go_ret
      exact ⟨by rw [hv.out]; rfl, (Ext.refl _).alloc _⟩
    | true =>
      cases h2 : decide (1 ≤ k) with
      | false =>
        have hv : Hid (rightE i t k n = false) := Lib.hid (by rw [Bool.eq_false_iff, ne_eq, rightE_iff]; simp [inB] at *; omega)
        go_enter Try.func26, Try.ntmps26
        go_wp2_with (go_at_call 43; refine (inB_any _ _ _).mono ?_; rintro e w' ⟨rfl, rfl⟩)
        go_ret
        exact ⟨by rw [hv.out]; rfl, (Ext.refl _).alloc _⟩
      | true =>
        cases h3 : decide (k ≤ 3) with
        | false =>
          have hv : Hid (rightE i t k n = false) := Lib.hid (by rw [Bool.eq_false_iff, ne_eq, rightE_iff]; simp [inB] at *; omega)
          go_enter Try.func26, Try.ntmps26
          go_wp2_with (go_at_call 43; refine (inB_any _ _ _).mono ?_; rintro e w' ⟨rfl, rfl⟩)
          go_ret
          exact ⟨by rw [hv.out]; rfl, (Ext.refl _).alloc _⟩
        | true =>
          cases h4 : decide (n ≤ 200) with
          | false =>
            have hz : decide ((n : Int) ≤ 200) = false := by simp at h4 ⊢; omega
            have hv : Hid (rightE i t k n = false) := Lib.hid (by rw [Bool.eq_false_iff, ne_eq, rightE_iff]; simp [inB] at *; omega)
            go_enter Try.func26, Try.ntmps26
            go_wp2_with (go_at_call 43; refine (inB_any _ _ _).mono ?_; rintro e w' ⟨rfl, rfl⟩)
            go_ret
            exact ⟨by rw [hv.out]; rfl, (Ext.refl _).alloc _⟩
          | true =>
            have hz : decide ((n : Int) ≤ 200) = true := by simp at h4 ⊢; omega
            have hv : Hid (rightE i t k n = true) := Lib.hid (by rw [rightE_iff]; simp [inB] at *; omega)
            go_enter Try.func26, Try.ntmps26
            go_wp2_with (go_at_call 43; refine (inB_any _ _ _).mono ?_; rintro e w' ⟨rfl, rfl⟩)
            go_ret
            exact ⟨by rw [hv.out]; rfl, (Ext.refl _).alloc _⟩

set_option maxHeartbeats 600000 in
theorem rright_any (i t k : Int) (D : Option Addr) (n d : Nat) (w : World) :
    Calls Try.prog 27 #[.agg #[.int .i64 i, .int .i64 t, .int .i64 k, .slice D n d]] w fun e w' => e = .returned (.bool (rightE i t k n)) ∧ Ext w w' := by
  cases h0 : decide (1 ≤ i) with
  | false =>
    have hv : Hid (rightE i t k n = false) := Lib.hid (by rw [Bool.eq_false_iff, ne_eq, rightE_iff]; simp [inB] at *; omega)
    go_enter Try.func27, Try.ntmps27
    go_wp2
    go_ret
    exact ⟨by rw [hv.out]; rfl, (Ext.refl _).alloc _⟩
  | true =>
    cases h1 : decide (i ≤ 1099511627776) with
    | false =>
      have hv : Hid (rightE i t k n = false) := Lib.hid (by rw [Bool.eq_false_iff, ne_eq, rightE_iff]; simp [inB] at *; omega)
      go_enter Try.func27, Try.ntmps27
      go_wp2
      go_ret
      exact ⟨by rw [hv.out]; rfl, (Ext.refl _).alloc _⟩
    | true =>
      cases h2 : decide (0 ≤ t) with
      | false =>
        have hv : Hid (rightE i t k n = false) := Lib.hid (by rw [Bool.eq_false_iff, ne_eq, rightE_iff]; simp [inB] at *; omega)
        go_enter Try.func27, Try.ntmps27
        go_wp2
        go_ret
        exact ⟨by rw [hv.out]; rfl, (Ext.refl _).alloc _⟩
      | true =>
        cases h3 : decide (t ≤ 1099511627776) with
        | false =>
          have hv : Hid (rightE i t k n = false) := Lib.hid (by rw [Bool.eq_false_iff, ne_eq, rightE_iff]; simp [inB] at *; omega)
          go_enter Try.func27, Try.ntmps27
          go_wp2
          go_ret
          exact ⟨by rw [hv.out]; rfl, (Ext.refl _).alloc _⟩
        | true =>
          cases h4 : decide (1 ≤ k) with
          | false =>
            have hv : Hid (rightE i t k n = false) := Lib.hid (by rw [Bool.eq_false_iff, ne_eq, rightE_iff]; simp [inB] at *; omega)
            go_enter Try.func27, Try.ntmps27
            go_wp2
            go_ret
            exact ⟨by rw [hv.out]; rfl, (Ext.refl _).alloc _⟩
          | true =>
            cases h5 : decide (k ≤ 3) with
            | false =>
              have hv : Hid (rightE i t k n = false) := Lib.hid (by rw [Bool.eq_false_iff, ne_eq, rightE_iff]; simp [inB] at *; omega)
              go_enter Try.func27, Try.ntmps27
              go_wp2
              go_ret
              exact ⟨by rw [hv.out]; rfl, (Ext.refl _).alloc _⟩
            | true =>
              cases h6 : decide (n ≤ 200) with
              | false =>
                have hz : decide ((n : Int) ≤ 200) = false := by simp at h6 ⊢; omega
                have hv : Hid (rightE i t k n = false) := Lib.hid (by rw [Bool.eq_false_iff, ne_eq, rightE_iff]; simp [inB] at *; omega)
                go_enter Try.func27, Try.ntmps27
                go_wp2
                go_ret
                exact ⟨by rw [hv.out]; rfl, (Ext.refl _).alloc _⟩
              | true =>
                have hz : decide ((n : Int) ≤ 200) = true := by simp at h6 ⊢; omega
                have hv : Hid (rightE i t k n = true) := Lib.hid (by rw [rightE_iff]; simp [inB] at *; omega)
                go_enter Try.func27, Try.ntmps27
                go_wp2
                go_ret
                exact ⟨by rw [hv.out]; rfl, (Ext.refl _).alloc _⟩
end Go.Proofs.Ytfpabbhgmncjdaa
