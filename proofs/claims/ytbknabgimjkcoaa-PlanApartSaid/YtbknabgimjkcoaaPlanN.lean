import Derived.Test.YtbknabgimjkcoaaPlanL
namespace Go.Proofs.Ytbknabgimjkcoaa
open Go.RowKit

/-- The row of n truths in block g: the first c of them are true. -/
def SeenI (w : World) (g n c : Nat) : Prop := (∀ k, k < n → w.cell? ⟨g, k, none⟩ = some (.bool (decide (k < c)))) ∧ ∀ k, w.frozen? ⟨g, k, none⟩ = false
def Box3 (w : World) (b : Nat) (s r p : Int) : Prop := w.cell? ⟨b, 0, none⟩ = some (.int .i64 s) ∧ w.cell? ⟨b, 1, none⟩ = some (.int .i64 r) ∧ w.cell? ⟨b, 2, none⟩ = some (.int .i64 p)
def AInv (w : World) (g n : Nat) (s r p : Int) (c : Nat) (wr : World) : Prop := SeenI wr g n c ∧ Ext w wr ∧ g < wr.heap.size ∧ Box3 wr w.heap.size s r p

theorem SeenI.ext {w w' : World} {g n c : Nat} (h : SeenI w g n c) (hE : Ext w w') (hg : g < w.heap.size) : SeenI w' g n c := ⟨fun k hk => hE.cell (h.1 k hk), fun k => hE.frozen (p := ⟨g, k, none⟩) hg (h.2 k)⟩
theorem AInv.ext {w wr w' : World} {g n : Nat} {s r p : Int} {c : Nat} (h : AInv w g n s r p c wr) (hE : Ext wr w') : AInv w g n s r p c w' :=
  ⟨h.1.ext hE h.2.2.1, h.2.1.trans hE, Nat.lt_of_lt_of_le h.2.2.1 hE.sz, hE.cell h.2.2.2.1, hE.cell h.2.2.2.2.1, hE.cell h.2.2.2.2.2⟩
theorem AInv.next {w wr w' : World} {g n : Nat} {s r p : Int} {c c' : Nat} (h : AInv w g n s r p c wr) (hw : w.heap.size < g) (hB : Below g wr w') (hg : g < w'.heap.size) (hS : SeenI w' g n c') : AInv w g n s r p c' w' := by
  refine ⟨hS, Below.trans h.2.1 (Below.mono hB (by omega)), hg, ?_, ?_, ?_⟩
  · rw [hB.cell (p := ⟨w.heap.size, 0, none⟩) hw]; exact h.2.2.2.1
  · rw [hB.cell (p := ⟨w.heap.size, 1, none⟩) hw]; exact h.2.2.2.2.1
  · rw [hB.cell (p := ⟨w.heap.size, 2, none⟩) hw]; exact h.2.2.2.2.2
theorem SeenI.set {w : World} {g n b : Nat} (h : SeenI w g n b) (hb : b < n) : SeenI (w.setCell ⟨g, b, none⟩ (.bool true)) g n (b + 1) := by
  refine ⟨fun k hk => ?_, fun k => ?_⟩
  · by_cases hkb : k = b
    · subst hkb
      rw [cellSet, h.1 k hk]; simp
    · rw [World.cell?_setCell_other _ _ _ _ (by intro h; injection h with _ h2; exact hkb h2.symm), h.1 k hk]
      congr 2
      rw [decide_eq_decide]; omega
  · have := h.2 k
    simpa [go_sem] using this

set_option maxHeartbeats 2000000 in
theorem lies_any (s r p : Int) (g n cap b : Nat) (k x y : Int) (w : World) (hlt : b < n) (hn : n ≤ 1000000) (hg : g < w.heap.size) (hS : SeenI w g n b) (hW : whatF s r p b = (k, x, y)) :
    Calls Try.prog 28 #[.agg #[.int .i64 s, .int .i64 r, .int .i64 p], .slice (some ⟨g, 0, none⟩) n cap, .int .i64 b, .int .i64 k, .int .i64 x, .int .i64 y] w fun e w' => e = .returned (.bool true) ∧ Below g w w' ∧ g < w'.heap.size ∧ SeenI w' g n (b + 1) := by
  have hE0 : Ext w (w.alloc (.cells #[.int .i64 s, .int .i64 r, .int .i64 p] 23)) := (Ext.refl _).alloc _
  have hS1 := hS.ext hE0 hg
  have q1 := hS1.1 b hlt
  have q2 := hS1.2 b
  rw [show decide (b < b) = false by simp] at q1
  have hne : ¬ g = w.heap.size := by omega
  have hi1 : (b : Int) < (n : Int) := by omega
  have hi0 : (0 : Int) ≤ (b : Int) := by omega
  have HW := Lib.hid hW
  have HS := Lib.hid hS
  clear hW hS1 hS hE0
  go_enter Try.func28, Try.ntmps28
  go_wp2_with fail
  go_call (what_any s r p b) as e w2 ⟨rfl, hx⟩
  rw [HW.out]
  clear q1 q2
  go_wp2_with fail
  go_ret
  have hS2 := (HS.out).set hlt
  have hS3 := hS2.ext ((Ext.refl _).alloc (.cells #[.int .i64 s, .int .i64 r, .int .i64 p] 23)) (by simpa using hg)
  refine ⟨rfl, ?_, ?_, hS3.ext hx (by simp; omega)⟩
  · exact Below.trans (Below.alloc (Below.setCell (Below.refl g w) (p := ⟨g, b, none⟩) (Nat.le_refl _) (.bool true)) (by simp; omega) (.cells #[.int .i64 s, .int .i64 r, .int .i64 p] 23)) (Below.mono hx.below (by simp; omega))
  · have := hx.sz; simp at this; omega

/-! ### What lies where, once more -/
theorem what_at (S R Q b : Nat) (hR : rightB S R Q = true) (c : Cell) (hc : (cellsL S R Q)[b]? = some c) : whatF S R Q b = ((c.1 : Int), (c.2.1 : Int), (c.2.2 : Int)) := by
  have h1 : cellsF S R Q = cellsL S R Q := by simp [cellsF, hR]
  rw [tell_what, rwhatF, if_neg (by omega), Int.toNat_natCast, h1, hc]
theorem blocks_val (S R Q : Nat) (hR : rightB S R Q = true) : blocksF S R Q = ((6 + S * (R + 2) + 2 * (Q + 1) : Nat) : Int) := by
  simp only [blocksF, hR, if_true]; push_cast; rfl
theorem what_end (S R Q : Nat) (hR : rightB S R Q = true) : whatF S R Q ((6 + S * (R + 2) + 2 * (Q + 1) : Nat) : Int) = (0, 0, 0) := by
  unfold whatF; rw [if_pos (.inr (by rw [blocks_val S R Q hR]; omega))]
theorem seen_made {w : World} {g n base : Nat} (h : w.ownsRow base 4 1 (.slice (some ⟨g, 0, none⟩) n n) n (madeCells #[.bool false] (n * 1)).toList) : SeenI w g n 0 := by
  obtain ⟨hl, h⟩ := h
  rcases h with ⟨hv, _⟩ | ⟨g', cap, cur, hv, hg, hh, hn, hm, hc, ht⟩
  · cases hv
  · cases hv
    refine ⟨fun k hk => ?_, fun k => by simp [World.frozen?, hh]⟩
    have : w.cell? ⟨g, k, none⟩ = (madeCells #[.bool false] (n * 1)).toList[k]? := by
      rw [← ht, List.getElem?_take, if_pos (by omega)]
      simp [World.cell?, hh]
    rw [this]
    simp [madeCells, hk, Nat.mod_one]

end Go.Proofs.Ytbknabgimjkcoaa
