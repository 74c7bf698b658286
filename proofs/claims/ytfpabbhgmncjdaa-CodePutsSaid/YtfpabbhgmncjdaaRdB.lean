/-
  slices.Backward over two bytes: its contract.
-/
import Derived.Test.YtfpabbhgmncjdaaRdA
import Derived.RangeFuncNested
import Derived.RangeFuncBound
import Derived.RangeFuncCalls
import Derived.RangeFuncLeaves
import Derived.Shelf.Abstract
import Derived.Shelf.RegionOpen
import Derived.OwnWalkIn
import Derived.TacticsInMore
import Derived.LoopNIn
import Derived.LoopIn
namespace Go.Proofs.Ytfpabbhgmncjdaa
open Go.RowKit Go.Shelf
attribute [local go_sem] Oper.semAt_some

/-- Cells outside block g stay. -/
def KpO (g : Nat) (W W' : World) : Prop := ∀ p v, p.block ≠ g → W.cell? p = some v → W'.cell? p = some v
theorem KpO.refl (g : Nat) (W : World) : KpO g W W := fun _ _ _ h => h
theorem KpO.t {g : Nat} {A B C : World} (h : KpO g A B) (k : KpO g B C) : KpO g A C := fun p v hp hc => k p v hp (h p v hp hc)
theorem KpO.b {g : Nat} (W : World) (l : Nat) (o o' : Obj) (h : W.heap[l]? = some o) (ho : o.isCells = false) : KpO g W (W.putObj l o') :=
  fun p v _ hc => cell_kept hc (grownBy_putObj' W l o') (fun r e => by cases e; exact ⟨o, h, ho⟩)
theorem KpO.set {g : Nat} (W : World) (k : Nat) (u : Value) : KpO g W (W.setCell ⟨g, k, none⟩ u) := fun p v hp hc => by
  rw [World.cell?_of_block (Below.heap_setCell W ⟨g, k, none⟩ u p.block hp)]; exact hc
theorem KpO.drewN {g : Nat} (W : World) (n : Nat) : KpO g W (W.drewN n) := fun p v _ hc => hc

/-- What comes: the index and the byte, the last one first. -/
def pr (i x : Int) : Int × Int := (i, x)

set_option maxRecDepth 100000 in
set_option maxHeartbeats 2000000 in
theorem back1_in (F : Fence) (n : Nat) (h6 : F.fn 45) (hro : F.round = none) (hn : 1 ≤ n) (l Bs g b c : Nat) (x0 x1 : Int) (hc : 2 ≤ c) (hBg : Bs ≠ g) (hbg : b ≠ g) (J Jx : List (Int × Int) → World → Prop)
    (hY : ∀ pre x W, J pre W → pre.length < 2 → YieldAt F (n - 1) Try.prog l #[.int .i64 x.1, .int .u8 x.2] W fun e W' =>
      (e = .returned (.bool true) ∧ J (pre ++ [x]) W' ∧ KpO g W W') ∨ (e = .returned (.bool false) ∧ Jx (pre ++ [x]) W'))
    (W : World) (hBs : W.cell? ⟨Bs, 0, none⟩ = some (.slice (some ⟨b, 0, none⟩) 2 c)) (hx0 : W.cell? ⟨b, 0, none⟩ = some (.int .u8 x0)) (hx1 : W.cell? ⟨b, 1, none⟩ = some (.int .u8 x1)) (h0 : J [] W) :
    CallsIn F n Try.prog 45 #[.func (.yield l) #[] #[], .pointer (some ⟨Bs, 0, none⟩)] W fun e W' => (∃ v, e = .returned v) ∧
      ((∃ ys, ys = [(1, x1), (0, x0)] ∧ J ys W') ∨ (∃ pre, True ∧ Jx pre W')) := by
  refine callsIn_of_wp Try.func45 rfl h6 ?_ hro
  simp only [Try.ntmps45, List.size_toArray, List.length_cons, List.length_nil, Nat.reduceAdd, Nat.reduceSub, Array.replicate_succ, Array.replicate_zero, List.push_toArray, List.append_toArray, List.nil_append, List.cons_append]
  gi_wp2
  gi_loopw [3] (fun i wr => KpO g W wr ∧ ((i = .int .i64 1 ∧ J [] wr) ∨ (i = .int .i64 0 ∧ J [(1, x1)] wr) ∨ (i = .int .i64 (-1) ∧ J [(1, x1), (0, x0)] wr))) (fun i _ => (intOf i + 1).toNat)
  case atStart => exact ⟨KpO.refl _ _, .inl ⟨rfl, h0⟩⟩
  case round =>
    obtain ⟨hK, hrel⟩ := hrel
    have c0 := hK _ _ hBg hBs
    have c1 := hK _ _ hbg hx0
    have c2 := hK _ _ hbg hx1
    rcases hrel with ⟨rfl, hJs⟩ | ⟨rfl, hJs⟩ | ⟨rfl, hJs⟩
    · obtain ⟨fn, tmps, assign, body, hy, hR⟩ := hY [] (1, x1) wr hJs (by decide)
      dsimp only at hy
      gi_wp2
      refine hR.mono ?_
      rintro e W3 (⟨rfl, hJ3, hk3⟩ | ⟨rfl, hJx3⟩)
      · gi_wp2
        go_roundw
        case rel => exact ⟨hK.t hk3, .inr (.inl ⟨rfl, hJ3⟩)⟩
        case measure => decide
      · gi_wp2
        refine bodyPost_ret (results_none rfl _ _ _) rfl ?_
        exact ⟨⟨_, rfl⟩, .inr ⟨_, trivial, hJx3⟩⟩
    · obtain ⟨fn, tmps, assign, body, hy, hR⟩ := hY [(1, x1)] (0, x0) wr hJs (by simp)
      dsimp only at hy
      gi_wp2
      refine hR.mono ?_
      rintro e W3 (⟨rfl, hJ3, hk3⟩ | ⟨rfl, hJx3⟩)
      · gi_wp2
        go_roundw
        case rel => exact ⟨hK.t hk3, .inr (.inr ⟨rfl, hJ3⟩)⟩
        case measure => decide
      · gi_wp2
        refine bodyPost_ret (results_none rfl _ _ _) rfl ?_
        exact ⟨⟨_, rfl⟩, .inr ⟨_, trivial, hJx3⟩⟩
    · gi_wp2
      go_end0
      exact ⟨⟨_, rfl⟩, .inl ⟨_, rfl, hJs⟩⟩

theorem back_stops (F : Fence) (n : Nat) (h6 : F.fn 45) (hro : F.round = none) (hn : 1 ≤ n) (Bs g b c : Nat) (x0 x1 : Int) (hc : 2 ≤ c) (hBg : Bs ≠ g) (hbg : b ≠ g) (w : World)
    (hBs : w.cell? ⟨Bs, 0, none⟩ = some (.slice (some ⟨b, 0, none⟩) 2 c)) (hx0 : w.cell? ⟨b, 0, none⟩ = some (.int .u8 x0)) (hx1 : w.cell? ⟨b, 1, none⟩ = some (.int .u8 x1)) :
    SeqStopsK F n Try.prog 45 #[.pointer (some ⟨Bs, 0, none⟩)] (fun x : Int × Int => #[Value.int .i64 x.1, .int .u8 x.2]) (KpO g) (fun ys => ys = [(1, x1), (0, x0)]) (fun _ => True) 2 w := fun l J Jx W hW _ _ hY h0 => by
  have hE : Ext w W := hW
  exact back1_in F n h6 hro hn l Bs g b c x0 x1 hc hBg hbg J Jx hY W (hE.cell hBs) (hE.cell hx0) (hE.cell hx1) h0
end Go.Proofs.Ytfpabbhgmncjdaa
