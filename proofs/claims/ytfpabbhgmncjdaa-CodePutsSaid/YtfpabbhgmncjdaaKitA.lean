/-
  Contracts of the verifier's small functions: Pick, mark, markByte, SameBytes.
-/
import Derived.Test.YtfpabbhgmncjdaaRows
import Derived.Test.YtfpabbhgmncjdaaApp
import Derived.WalkKit
import Derived.WalkSpells
import Derived.WalkLawsBesides
import Derived.Handy
import Derived.Deep.QuietTactic
import Derived.BigQuiet
import Derived.RegionTactic
import Derived.Deep.RegionWith
import Derived.Deep.RegionHeld3
import Derived.StillTailTactics
import Derived.Deep.DeepCutAuto
import Derived.Lib.Hide
import Derived.Outline
namespace Go.Proofs.Ytfpabbhgmncjdaa
open Go.RowKit

theorem Ext.drewN {a b : World} (h : Ext a b) (n : Nat) : Ext a (b.drewN n) := ⟨h.os, h.tape, h.output, h.size, h.block⟩

theorem tmod_neg (x n : Int) (hn : 1 ≤ n) (h : x.tmod n < 0) : x.tmod n + n = x % n := by
  have h2 := Int.emod_nonneg x (show n ≠ 0 by omega)
  have h3 := Int.tmod_eq_emod (a := x) (b := n)
  rcases Int.lt_or_le x 0 with h1 | h1
  rotate_left
  · have := Int.tmod_nonneg n h1
    omega
  · split at h3
    · omega
    · rw [h3]; omega
theorem tmod_pos (x n : Int) (hn : 1 ≤ n) (h : ¬ x.tmod n < 0) : x.tmod n = x % n := by
  have h2 := Int.emod_lt_of_pos x (show 0 < n by omega)
  have h3 := Int.tmod_eq_emod (a := x) (b := n)
  split at h3
  · omega
  · rw [h3] at h; omega

theorem pick_any (x n : Int) (w : World) (hn : 1 ≤ n) (hn2 : n ≤ 4611686018427387904) :
    Calls Try.prog 16 #[.int .i64 x, .int .i64 n] w fun e w' => e = .returned (.int .i64 (x % n)) ∧ w = w' := by
  have hne : (n == 0) = false := by simp; omega
  have h1 := Int.tmod_lt_of_pos x (show 0 < n by omega)
  have h2 := Int.lt_tmod_of_pos x (show 0 < n by omega)
  have h3 := tmod_neg x n hn
  have h4 := tmod_pos x n hn
  by_cases hlt : x.tmod n < 0
  · have h5 := Lib.hid (h3 hlt)
    clear h3 h4
    go_enter Try.func16, Try.ntmps16
    go_wp2
    go_ret
    exact ⟨by rw [← h5.out]; rfl, rfl⟩
  · have h5 := Lib.hid (h4 hlt)
    clear h3 h4
    go_enter Try.func16, Try.ntmps16
    go_wp2
    go_ret
    exact ⟨by rw [← h5.out]; rfl, rfl⟩

def markI (k i : Nat) : Int := 1000003 * ((k : Int) + 7) + i
theorem mark_any (k i : Nat) (w : World) (hk : k ≤ 1000000) (hi : i ≤ 1000000000000) :
    Calls Try.prog 37 #[.int .i64 k, .int .i64 i] w fun e w' => e = .returned (.int .i64 (markI k i)) ∧ w = w' := by
  go_enter Try.func37, Try.ntmps37
  go_wp2
  go_ret
  exact ⟨rfl, rfl⟩

def markB (k i : Nat) : Int := IntKind.u64.wrap (markI k i * 11400714819323198485) / 72057594037927936 % 256
theorem markByte_any (k i : Nat) (w : World) (hk : k ≤ 1000000) (hi : i ≤ 1000000000000) :
    Calls Try.prog 38 #[.int .i64 k, .int .i64 i] w fun e w' => e = .returned (.int .u8 (markB k i)) ∧ w = w' := by
  have hm1 : 0 ≤ markI k i := by unfold markI; omega
  have hm2 : markI k i ≤ 3000000000000 := by unfold markI; omega
  go_enter Try.func38, Try.ntmps38
  go_wp2_with (go_at_call 37; refine (mark_any _ _ _ (by omega) (by omega)).mono ?_; rintro e w' ⟨rfl, rfl⟩)
  go_ret
  exact ⟨rfl, rfl⟩

theorem take_snoc' {α : Type} {xs : List α} {k : Nat} {x : α} (h : xs[k]? = some x) : xs.take (k + 1) = xs.take k ++ [x] := by
  have hl : k < xs.length := by
    rcases Nat.lt_or_ge k xs.length with g | g
    · exact g
    · rw [List.getElem?_eq_none g] at h; cases h
  rw [List.take_succ_eq_append_getElem hl]
  rw [List.getElem?_eq_getElem hl] at h
  injection h with h
  rw [h]

def SameRel (n : Nat) (xs ys : List Int) (w : World) (i : Value) (wr : World) : Prop := ∃ k : Nat, k ≤ n ∧ i = .int .i64 k ∧ xs.take k = ys.take k ∧ Ext w wr
set_option maxHeartbeats 1000000 in
theorem sameBytes_any (A D : Option Addr) (c d : Nat) (xs ys : List Int) (w : World) (hA : Rd w A (xs.map (.int .u8))) (hD : Rd w D (ys.map (.int .u8))) (hx : xs.length ≤ maxLen) (hy : ys.length ≤ maxLen) :
    Calls Try.prog 11 #[.slice A xs.length c, .slice D ys.length d] w fun e w' => e = .returned (.bool (decide (xs = ys))) ∧ Ext w w' := by
  unfold maxLen at hx hy
  by_cases hl : xs.length = ys.length
  · have hne : ((xs.length : Int) != (ys.length : Int)) = false := by simp [hl]
    have HL := Lib.hid hl
    clear hl
    go_enter Try.func11, Try.ntmps11
    go_wp2
    go_loopw [5] (fun i wr => SameRel xs.length xs ys w i wr) (fun i _ => xs.length - (intOf i).toNat)
    case atStart => exact ⟨0, Nat.zero_le _, rfl, rfl, Ext.refl _⟩
    case round =>
      obtain ⟨k, hk, rfl, ht, hE⟩ := hrel
      have HT := Lib.hid ht
      clear ht
      by_cases hlt : k < xs.length
      · have hlt2 : k < ys.length := by have := HL.out; omega
        obtain ⟨ad, x, rfl, h1, hx1⟩ := (hA.ext hE).int hlt
        obtain ⟨ad2, y, rfl, h2, hy1⟩ := (hD.ext hE).int hlt2
        have HX := Lib.hid hx1
        have HY := Lib.hid hy1
        clear hx1 hy1
        by_cases heq : x = y
        · subst heq
          go_wp2
          go_quiet (fail)
          go_wp2
          exact ⟨⟨k + 1, by omega, by go_num, by rw [take_snoc' HX.out, take_snoc' HY.out, HT.out], hE.drewN _⟩, by simp [intOf]; omega⟩
        · have hb : (x != y) = true := by simpa using heq
          have HQ := Lib.hid heq
          clear heq
          go_wp2
          go_quiet (fail)
          go_wp2
          go_ret
          refine ⟨?_, hE.drewN _⟩
          have hn : ¬ xs = ys := fun h => HQ.out (by have h1 := HX.out; rw [h, HY.out] at h1; injection h1 with h1; exact h1.symm)
          simp [hn]
      · go_wp2
        go_ret
        refine ⟨?_, hE⟩
        have h1 := HT.out
        rw [List.take_of_length_le (by omega), List.take_of_length_le (by have := HL.out; omega)] at h1
        simp [h1]
  · have hne : ((xs.length : Int) != (ys.length : Int)) = true := by simp; omega
    have hn : ¬ xs = ys := fun h => hl (by rw [h])
    have HN := Lib.hid hn
    clear hn hl
    go_enter Try.func11, Try.ntmps11
    go_wp2
    go_ret
    exact ⟨by simp [HN.out], Ext.refl _⟩
end Go.Proofs.Ytfpabbhgmncjdaa
