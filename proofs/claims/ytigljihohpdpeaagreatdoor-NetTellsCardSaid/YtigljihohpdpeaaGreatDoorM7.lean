/-
  Small words of lists and of memory.
  Whether an entry is right.
-/
import Derived.Test.YtigljihohpdpeaaGreatDoorM6
namespace Go.Proofs.YtigljihohpdpeaaGreatDoor
open Go.RowKit

theorem heap_set {w : World} {v : Value} {cs : Array Value} {g k : Nat} {t : TypeId} (h : w.heap[g]? = some (.cells cs t)) : (w.setCell ⟨g, k, none⟩ v).heap[g]? = some (.cells (cs.setIfInBounds k v) t) := by
  simp [World.setCell, Array.getElem?_modify, h]
theorem set_app {l r : List Value} {n : Nat} (hn : n = l.length) (j : Nat) (u : Value) : (l ++ r).set (n + j) u = l ++ r.set j u := by
  subst hn
  rw [List.set_append_right _ _ (by omega), show l.length + j - l.length = j by omega]
theorem set_app0 {l r : List Value} {n : Nat} (hn : n = l.length) (u : Value) : (l ++ r).set n u = l ++ r.set 0 u := set_app hn 0 u
def isB (wb : Nat) : Nat → Prop := fun i => i = wb
theorem drop_at {α : Type} {l : List α} {k : Nat} {x : α} (h : l[k]? = some x) : l.drop k = x :: l.drop (k + 1) := by
  have hl : k < l.length := by
    rcases Nat.lt_or_ge k l.length with g | g
    · exact g
    · rw [List.getElem?_eq_none g] at h; cases h
  rw [List.drop_eq_getElem_cons hl]
  rw [List.getElem?_eq_getElem hl] at h
  injection h with h
  rw [h]
theorem rd_lit (w : World) (l : List Value) (t : TypeId) : Rd (w.alloc (.cells l.toArray t)) (some ⟨w.heap.size, 0, none⟩) l := fun j u hj => by
  refine ⟨_, rfl, ?_⟩
  rw [add_lit', Nat.zero_add, cell_of_heap (heap_alloc_new w _)]
  simpa using hj

end Go.Proofs.YtigljihohpdpeaaGreatDoor
namespace Go.Proofs.YtigljihohpdpeaaGreatDoor
open Go.RowKit

def inB (n least : Int) : Bool := decide (least ≤ n) && decide (n ≤ 1099511627776)
theorem inB_iff {n least : Int} : inB n least = true ↔ least ≤ n ∧ n ≤ 1099511627776 := by simp [inB]
theorem inB_any (n least : Int) (w : World) : Calls Tryz.prog 84 #[.int .i64 n, .int .i64 least] w fun e w' => e = .returned (.bool (inB n least)) ∧ w = w' := by
  by_cases h1 : least ≤ n
  · have hd1 : decide (least ≤ n) = true := by simpa using h1
    by_cases h2 : n ≤ 1099511627776
    · have hd2 : decide (n ≤ 1099511627776) = true := by simpa using h2
      have hv : Hid (inB n least = true) := Lib.hid (by simp [inB, h1, h2])
      go_enter Tryz.func84, Tryz.ntmps84
      go_wp2
      go_ret
      exact ⟨by rw [hv.out]; rfl, rfl⟩
    · have hd2 : decide (n ≤ 1099511627776) = false := by simpa using h2
      have hv : Hid (inB n least = false) := Lib.hid (by simp [inB, h1, h2])
      go_enter Tryz.func84, Tryz.ntmps84
      go_wp2
      go_ret
      exact ⟨by rw [hv.out]; rfl, rfl⟩
  · have hd1 : decide (least ≤ n) = false := by simpa using h1
    have hv : Hid (inB n least = false) := Lib.hid (by simp [inB, h1])
    go_enter Tryz.func84, Tryz.ntmps84
    go_wp2
    go_ret
    exact ⟨by rw [hv.out]; rfl, rfl⟩

def rightE (i t k : Int) (n : Nat) : Bool := inB i 1 && inB t 0 && decide (1 ≤ k) && decide (k ≤ 3) && decide (n ≤ 200)
theorem rightE_iff {i t k : Int} {n : Nat} : rightE i t k n = true ↔ (1 ≤ i ∧ i ≤ 1099511627776) ∧ (0 ≤ t ∧ t ≤ 1099511627776) ∧ 1 ≤ k ∧ k ≤ 3 ∧ n ≤ 200 := by simp [rightE, inB, and_assoc]

set_option maxHeartbeats 600000 in
theorem right_any (i t k : Int) (D : Option Addr) (n d : Nat) (w : World) :
    Calls Tryz.prog 82 #[.agg #[.int .i64 i, .int .i64 t, .int .i64 k, .slice D n d]] w fun e w' => e = .returned (.bool (rightE i t k n)) ∧ Ext w w' := by
  cases h0 : inB i 1 with
  | false =>
    have hv : Hid (rightE i t k n = false) := Lib.hid (by rw [Bool.eq_false_iff, ne_eq, rightE_iff]; simp [inB] at *; omega)
    go_enter Tryz.func82, Tryz.ntmps82
    go_wp2_with (go_at_call 84; refine (inB_any _ _ _).mono ?_; rintro e w' ⟨rfl, rfl⟩)
    go_ret
    exact ⟨by rw [hv.out]; rfl, (Ext.refl _).alloc _⟩
  | true =>
    cases h1 : inB t 0 with
    | false =>
      have hv : Hid (rightE i t k n = false) := Lib.hid (by rw [Bool.eq_false_iff, ne_eq, rightE_iff]; simp [inB] at *; omega)
      go_enter Tryz.func82, Tryz.ntmps82
      go_wp2_with (go_at_call 84; refine (inB_any _ _ _).mono ?_; rintro e w' ⟨rfl, rfl⟩)
      go_ret
      exact ⟨by rw [hv.out]; rfl, (Ext.refl _).alloc _⟩
    | true =>
      cases h2 : decide (1 ≤ k) with
      | false =>
        have hv : Hid (rightE i t k n = false) := Lib.hid (by rw [Bool.eq_false_iff, ne_eq, rightE_iff]; simp [inB] at *; omega)
        go_enter Tryz.func82, Tryz.ntmps82
        go_wp2_with (go_at_call 84; refine (inB_any _ _ _).mono ?_; rintro e w' ⟨rfl, rfl⟩)
        go_ret
        exact ⟨by rw [hv.out]; rfl, (Ext.refl _).alloc _⟩
      | true =>
        cases h3 : decide (k ≤ 3) with
        | false =>
          have hv : Hid (rightE i t k n = false) := Lib.hid (by rw [Bool.eq_false_iff, ne_eq, rightE_iff]; simp [inB] at *; omega)
          go_enter Tryz.func82, Tryz.ntmps82
          go_wp2_with (go_at_call 84; refine (inB_any _ _ _).mono ?_; rintro e w' ⟨rfl, rfl⟩)
          go_ret
          exact ⟨by rw [hv.out]; rfl, (Ext.refl _).alloc _⟩
        | true =>
          cases h4 : decide (n ≤ 200) with
          | false =>
            have hz : decide ((n : Int) ≤ 200) = false := by simp at h4 ⊢; omega
            have hv : Hid (rightE i t k n = false) := Lib.hid (by rw [Bool.eq_false_iff, ne_eq, rightE_iff]; simp [inB] at *; omega)
            go_enter Tryz.func82, Tryz.ntmps82
            go_wp2_with (go_at_call 84; refine (inB_any _ _ _).mono ?_; rintro e w' ⟨rfl, rfl⟩)
            go_ret
            exact ⟨by rw [hv.out]; rfl, (Ext.refl _).alloc _⟩
          | true =>
            have hz : decide ((n : Int) ≤ 200) = true := by simp at h4 ⊢; omega
            have hv : Hid (rightE i t k n = true) := Lib.hid (by rw [rightE_iff]; simp [inB] at *; omega)
            go_enter Tryz.func82, Tryz.ntmps82
            go_wp2_with (go_at_call 84; refine (inB_any _ _ _).mono ?_; rintro e w' ⟨rfl, rfl⟩)
            go_ret
            exact ⟨by rw [hv.out]; rfl, (Ext.refl _).alloc _⟩
end Go.Proofs.YtigljihohpdpeaaGreatDoor
