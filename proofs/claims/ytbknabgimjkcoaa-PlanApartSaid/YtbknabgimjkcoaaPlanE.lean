import Derived.Test.YtbknabgimjkcoaaPlanD
namespace Go.Proofs.Ytbknabgimjkcoaa
open Go.RowKit

def ofF (s r p b : Int) : Int × Int × Int :=
  if b < 6 then (1 + b / 2, 0, b % 2)
  else if b < 6 + s * (r + 2) then
    (if (b - 6) % (r + 2) = 0 then (4, (b - 6) / (r + 2), 0) else if (b - 6) % (r + 2) = r + 1 then (6, (b - 6) / (r + 2), 0) else (5, (b - 6) / (r + 2), (b - 6) % (r + 2) - 1))
  else
    (if (b - (6 + s * (r + 2))) % (p + 1) = 0 then (8, (b - (6 + s * (r + 2))) / (p + 1), 0) else (7, (b - (6 + s * (r + 2))) / (p + 1), (b - (6 + s * (r + 2))) % (p + 1) - 1))
def whatF (s r p b : Int) : Int × Int × Int := if b < 0 ∨ blocksF s r p ≤ b then (0, 0, 0) else ofF s r p b

theorem of_any (s r p b : Int) (w : World) (hR : rightB s r p = true) (hb0 : 0 ≤ b) (hb1 : b ≤ 1000000) :
    Calls Try.prog 31 #[.agg #[.int .i64 s, .int .i64 r, .int .i64 p], .int .i64 b] w fun e w' => e = .returned (.agg #[.int .i64 (ofF s r p b).1, .int .i64 (ofF s r p b).2.1, .int .i64 (ofF s r p b).2.2]) ∧ Ext w w' := by
  have hR' := rightB_true.1 hR
  obtain ⟨⟨hs1, hs2⟩, ⟨hr1, hr2⟩, hp1, hp2⟩ := hR'
  by_cases h1 : b < 6
  · have hv : ofF s r p b = (1 + b / 2, 0, b % 2) := by unfold ofF; rw [if_pos h1]
    rw [hv]; exact of_low s r p b w hR hb0 h1
  by_cases h2 : b < 6 + s * (r + 2)
  · have hm3 : 0 ≤ (b - 6) % (r + 2) := Int.emod_nonneg _ (by omega)
    have hm4 : (b - 6) % (r + 2) < r + 2 := Int.emod_lt_of_pos _ (by omega)
    by_cases h3 : (b - 6) % (r + 2) = 0
    · have hv : ofF s r p b = (4, (b - 6) / (r + 2), 0) := by unfold ofF; rw [if_neg h1, if_pos h2, if_pos h3]
      rw [hv]; exact of_head s r p b w hR (by omega) h2 h3
    by_cases h4 : (b - 6) % (r + 2) = r + 1
    · have hv : ofF s r p b = (6, (b - 6) / (r + 2), 0) := by unfold ofF; rw [if_neg h1, if_pos h2, if_neg h3, if_pos h4]
      rw [hv]; exact of_foot s r p b w hR (by omega) h2 h4
    · have hv : ofF s r p b = (5, (b - 6) / (r + 2), (b - 6) % (r + 2) - 1) := by unfold ofF; rw [if_neg h1, if_pos h2, if_neg h3, if_neg h4]
      rw [hv]; exact of_rec s r p b _ w hR (by omega) h2 rfl (by omega) (by omega)
  · have hm3 : 0 ≤ (b - (6 + s * (r + 2))) % (p + 1) := Int.emod_nonneg _ (by omega)
    have hm4 : (b - (6 + s * (r + 2))) % (p + 1) < p + 1 := Int.emod_lt_of_pos _ (by omega)
    by_cases h3 : (b - (6 + s * (r + 2))) % (p + 1) = 0
    · have hv : ofF s r p b = (8, (b - (6 + s * (r + 2))) / (p + 1), 0) := by unfold ofF; rw [if_neg h1, if_neg h2, if_pos h3]
      rw [hv]; exact of_snap s r p b w hR (by omega) hb1 h3
    · have hv : ofF s r p b = (7, (b - (6 + s * (r + 2))) / (p + 1), (b - (6 + s * (r + 2))) % (p + 1) - 1) := by unfold ofF; rw [if_neg h1, if_neg h2, if_neg h3]
      rw [hv]; exact of_piece s r p b _ w hR (by omega) hb1 rfl (by omega) (by omega)

theorem blocks_le (s r p : Int) : blocksF s r p ≤ 1000000 ∧ (0 < blocksF s r p → rightB s r p = true) := by
  unfold blocksF
  split
  · rename_i h
    obtain ⟨⟨hs1, hs2⟩, ⟨hr1, hr2⟩, hp1, hp2⟩ := rightB_true.1 h
    obtain ⟨hm1, hm2⟩ := mulB (a := s) (b := r + 2) (A := 16) (B := 34) (by omega) (by omega) (by omega) (by omega)
    exact ⟨by omega, fun _ => h⟩
  · exact ⟨by omega, fun h => by omega⟩

set_option maxHeartbeats 1000000 in
theorem what_any (s r p b : Int) (w : World) :
    Calls Try.prog 14 #[.agg #[.int .i64 s, .int .i64 r, .int .i64 p], .int .i64 b] w fun e w' => e = .returned (.tuple #[.int .i64 (whatF s r p b).1, .int .i64 (whatF s r p b).2.1, .int .i64 (whatF s r p b).2.2]) ∧ Ext w w' := by
  by_cases h0 : b < 0
  · have hv : whatF s r p b = (0, 0, 0) := by unfold whatF; rw [if_pos (.inl h0)]
    rw [hv]
    go_enter Try.func14, Try.ntmps14
    go_wp2
    go_ret3
    exact ⟨rfl, (Ext.refl _).alloc _⟩
  have h0' : 0 ≤ b := by omega
  clear h0
  by_cases h1 : blocksF s r p ≤ b
  · have hv : whatF s r p b = (0, 0, 0) := by unfold whatF; rw [if_pos (.inr h1)]
    rw [hv]
    go_enter Try.func14, Try.ntmps14
    go_wp2_with fail
    go_call (blocks_any s r p) as e w1 ⟨rfl, hb⟩
    go_wp2
    go_ret3
    exact ⟨rfl, ((Ext.refl _).alloc _).trans hb⟩
  · have hv : Hid (whatF s r p b = ofF s r p b) := by show _ = _; unfold whatF; rw [if_neg (by omega)]
    obtain ⟨hl1, hl2⟩ := blocks_le s r p
    have hR := hl2 (by omega)
    have hlt : b ≤ 1000000 := by omega
    clear hl1 hl2
    generalize hT : ofF s r p b = T at hv
    have HT := Lib.hid hT
    clear hT
    go_enter Try.func14, Try.ntmps14
    go_wp2_with fail
    have c0 : (w.alloc (.cells #[.int .i64 s, .int .i64 r, .int .i64 p] 23)).cell? ⟨w.heap.size, 0, none⟩ = some (.int .i64 s) := by simp [go_sem]
    have c1 : (w.alloc (.cells #[.int .i64 s, .int .i64 r, .int .i64 p] 23)).cell? ⟨w.heap.size, 1, none⟩ = some (.int .i64 r) := by simp [go_sem]
    have c2 : (w.alloc (.cells #[.int .i64 s, .int .i64 r, .int .i64 p] 23)).cell? ⟨w.heap.size, 2, none⟩ = some (.int .i64 p) := by simp [go_sem]
    go_call (blocks_any s r p) as e w1 ⟨rfl, hb⟩
    have d0 := hb.cell c0
    have d1 := hb.cell c1
    have d2 := hb.cell c2
    clear c0 c1 c2
    go_wp2_with fail
    go_call (of_any s r p b _ hR h0' hlt) as e w2 ⟨rfl, hb2⟩
    rw [HT.out]
    clear d0 d1 d2
    go_wp2_with fail
    go_quiet (fail)
    go_wp2
    go_ret3
    exact ⟨by rw [hv.out]; rfl, ((((Ext.refl _).alloc _).trans hb).trans hb2).trans (((Ext.refl _).alloc _).trans ⟨rfl, rfl, rfl, Nat.le_refl _, fun _ _ => rfl⟩)⟩

set_option maxHeartbeats 2000000 in
theorem awake_any (w : World) : Calls Try.prog 7 #[] w fun e w' => e = .returned (.bool true) ∧ Ext w w' := by
  have v1 : blocksF 2 3 2 = 22 := by decide
  have v2 : recordF 2 3 2 1 = 7 := by decide
  have v3 : slotF 2 3 2 0 0 = 6 := by decide
  have v4 : slotF 2 3 2 0 (3 + 1) = 10 := by decide
  have v5 : recordF 2 3 2 4 = 12 := by decide
  have v6 : recordF 2 3 2 7 = 7 := by decide
  have v7 : snapF 2 3 2 1 = 19 := by decide
  go_enter Try.func7, Try.ntmps7
  go_wp2_with fail
  have c0 : (w.alloc (.cells #[.int .i64 2, .int .i64 3, .int .i64 2] 23)).cell? ⟨w.heap.size, 0, none⟩ = some (.int .i64 2) := by simp [go_sem]
  have c1 : (w.alloc (.cells #[.int .i64 2, .int .i64 3, .int .i64 2] 23)).cell? ⟨w.heap.size, 1, none⟩ = some (.int .i64 3) := by simp [go_sem]
  have c2 : (w.alloc (.cells #[.int .i64 2, .int .i64 3, .int .i64 2] 23)).cell? ⟨w.heap.size, 2, none⟩ = some (.int .i64 2) := by simp [go_sem]
  have hE : Ext w (w.alloc (.cells #[.int .i64 2, .int .i64 3, .int .i64 2] 23)) := (Ext.refl _).alloc _
  go_call (blocks_any 2 3 2) as e x0 ⟨rfl, hx0⟩
  rw [v1]
  replace c0 := hx0.cell c0
  replace c1 := hx0.cell c1
  replace c2 := hx0.cell c2
  replace hE := hE.trans hx0
  clear hx0
  go_wp2_with fail
  go_call (record_any 2 3 2 1) as e x1 ⟨rfl, hx1⟩
  rw [v2]
  replace c0 := hx1.cell c0
  replace c1 := hx1.cell c1
  replace c2 := hx1.cell c2
  replace hE := hE.trans hx1
  clear hx1
  go_wp2_with fail
  go_call (head_any 2 3 2 0) as e x2 ⟨rfl, hx2⟩
  rw [v3]
  replace c0 := hx2.cell c0
  replace c1 := hx2.cell c1
  replace c2 := hx2.cell c2
  replace hE := hE.trans hx2
  clear hx2
  go_wp2_with fail
  go_call (foot_any 2 3 2 0) as e x3 ⟨rfl, hx3⟩
  rw [v4]
  replace c0 := hx3.cell c0
  replace c1 := hx3.cell c1
  replace c2 := hx3.cell c2
  replace hE := hE.trans hx3
  clear hx3
  go_wp2_with fail
  go_call (record_any 2 3 2 4) as e x4 ⟨rfl, hx4⟩
  rw [v5]
  replace c0 := hx4.cell c0
  replace c1 := hx4.cell c1
  replace c2 := hx4.cell c2
  replace hE := hE.trans hx4
  clear hx4
  go_wp2_with fail
  go_call (record_any 2 3 2 7) as e x5 ⟨rfl, hx5⟩
  rw [v6]
  replace c0 := hx5.cell c0
  replace c1 := hx5.cell c1
  replace c2 := hx5.cell c2
  replace hE := hE.trans hx5
  clear hx5
  go_wp2_with fail
  go_call (snap_any 2 3 2 1) as e x6 ⟨rfl, hx6⟩
  rw [v7]
  replace c0 := hx6.cell c0
  replace c1 := hx6.cell c1
  replace c2 := hx6.cell c2
  replace hE := hE.trans hx6
  clear hx6
  go_wp2_with fail
  go_ret
  exact ⟨rfl, hE⟩

end Go.Proofs.Ytbknabgimjkcoaa
