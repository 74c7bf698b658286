import Derived.Test.YtbknabgimjkcoaaPlanC
import Derived.BigRegion
namespace Go.Proofs.Ytbknabgimjkcoaa
open Go.RowKit

set_option maxHeartbeats 1000000 in
theorem of_low (s r p b : Int) (w : World) (hR : rightB s r p = true) (hb0 : 0 ≤ b) (hb1 : b < 6) :
    Calls Try.prog 31 #[.agg #[.int .i64 s, .int .i64 r, .int .i64 p], .int .i64 b] w fun e w' => e = .returned (.agg #[.int .i64 (1 + b / 2), .int .i64 0, .int .i64 (b % 2)]) ∧ Ext w w' := by
  have hR' := rightB_true.1 hR
  obtain ⟨⟨hs1, hs2⟩, ⟨hr1, hr2⟩, hp1, hp2⟩ := hR'
  clear hR
  go_enter Try.func31, Try.ntmps31
  go_wp2_with fail
  have c1 : ((w.alloc (.cells #[.int .i64 s, .int .i64 r, .int .i64 p] 23)).alloc (.cells #[.int .i64 0, .int .i64 0, .int .i64 0] 40)).cell? ⟨w.heap.size, 1, none⟩ = some (.int .i64 r) := by simp [go_sem]
  have c4 : ∀ k, k < 3 → ((w.alloc (.cells #[.int .i64 s, .int .i64 r, .int .i64 p] 23)).alloc (.cells #[.int .i64 0, .int .i64 0, .int .i64 0] 40)).cell? ⟨w.heap.size + 1, k, none⟩ = some (.int .i64 0) := fun k hk => by
    match k, hk with
    | 0, _ => simp [go_sem]
    | 1, _ => simp [go_sem]
    | 2, _ => simp [go_sem]
  have f4 : ∀ k, ((w.alloc (.cells #[.int .i64 s, .int .i64 r, .int .i64 p] 23)).alloc (.cells #[.int .i64 0, .int .i64 0, .int .i64 0] 40)).frozen? ⟨w.heap.size + 1, k, none⟩ = false := fun k => by simp [go_sem]
  go_call (regions_any s r p _ ⟨⟨hs1, hs2⟩, ⟨hr1, hr2⟩, hp1, hp2⟩) as e w1 ⟨rfl, hx⟩
  have hz : w.heap.size + 1 < w1.heap.size := by have := hx.sz; simp at this; omega
  have d1 := fun o o' => (((Ext.refl _).alloc o).alloc o').cell (hx.cell c1)
  have e0 := fun o o' => (((Ext.refl _).alloc o).alloc o').cell (hx.cell (c4 0 (by omega)))
  have e1 := fun o o' => (((Ext.refl _).alloc o).alloc o').cell (hx.cell (c4 1 (by omega)))
  have e2 := fun o o' => (((Ext.refl _).alloc o).alloc o').cell (hx.cell (c4 2 (by omega)))
  have f0 := fun o o' k => (((Ext.refl _).alloc o).alloc o').frozen (p := ⟨w.heap.size + 1, k, none⟩) (by simp; omega) (hx.frozen (p := ⟨w.heap.size + 1, k, none⟩) (by simp) (f4 k))
  have hE : Hid (∀ o o', Ext w ((w1.alloc o).alloc o')) := fun o o' => (((((Ext.refl w).alloc _).alloc _).trans hx).alloc o).alloc o'
  clear c1 c4 f4 hx
  go_wp2
  refine bodyPost_ret (v := .agg #[.int .i64 (1 + b / 2), .int .i64 0, .int .i64 (b % 2)]) (by simp [results, Try.results31, go_sem, e0, e1, e2]) rfl ⟨rfl, ?_⟩
  exact Ext.set (Ext.set (Ext.set (hE.out _ _) (by simp) _) (by simp) _) (by simp) _

set_option maxHeartbeats 2000000 in
theorem of_head (s r p b : Int) (w : World) (hR : rightB s r p = true) (hb0 : 6 ≤ b) (hb1 : b < 6 + s * (r + 2)) (hat' : (b - 6) % (r + 2) = 0) :
    Calls Try.prog 31 #[.agg #[.int .i64 s, .int .i64 r, .int .i64 p], .int .i64 b] w fun e w' => e = .returned (.agg #[.int .i64 4, .int .i64 ((b - 6) / (r + 2)), .int .i64 0]) ∧ Ext w w' := by
  have hR' := rightB_true.1 hR
  obtain ⟨⟨hs1, hs2⟩, ⟨hr1, hr2⟩, hp1, hp2⟩ := hR'
  clear hR
  obtain ⟨hm1, hm2⟩ := mulB (a := s) (b := r + 2) (A := 16) (B := 34) (by omega) (by omega) (by omega) (by omega)
  have hq := IntWalk.tdiv_le (b - 6) (r + 2) (by omega) (by omega)
  have hm3 : 0 ≤ (b - 6) % (r + 2) := Int.emod_nonneg _ (by omega)
  have hm4 : (b - 6) % (r + 2) < r + 2 := Int.emod_lt_of_pos _ (by omega)
  have hat := Lib.hid hat'
  clear hat'
  go_enter Try.func31, Try.ntmps31
  go_wp2_with fail
  have c1 : ((w.alloc (.cells #[.int .i64 s, .int .i64 r, .int .i64 p] 23)).alloc (.cells #[.int .i64 0, .int .i64 0, .int .i64 0] 40)).cell? ⟨w.heap.size, 1, none⟩ = some (.int .i64 r) := by simp [go_sem]
  have c4 : ∀ k, k < 3 → ((w.alloc (.cells #[.int .i64 s, .int .i64 r, .int .i64 p] 23)).alloc (.cells #[.int .i64 0, .int .i64 0, .int .i64 0] 40)).cell? ⟨w.heap.size + 1, k, none⟩ = some (.int .i64 0) := fun k hk => by
    match k, hk with
    | 0, _ => simp [go_sem]
    | 1, _ => simp [go_sem]
    | 2, _ => simp [go_sem]
  have f4 : ∀ k, ((w.alloc (.cells #[.int .i64 s, .int .i64 r, .int .i64 p] 23)).alloc (.cells #[.int .i64 0, .int .i64 0, .int .i64 0] 40)).frozen? ⟨w.heap.size + 1, k, none⟩ = false := fun k => by simp [go_sem]
  go_call (regions_any s r p _ ⟨⟨hs1, hs2⟩, ⟨hr1, hr2⟩, hp1, hp2⟩) as e w1 ⟨rfl, hx⟩
  have hz : w.heap.size + 1 < w1.heap.size := by have := hx.sz; simp at this; omega
  have d1 := fun o o' => (((Ext.refl _).alloc o).alloc o').cell (hx.cell c1)
  have e0 := fun o o' => (((Ext.refl _).alloc o).alloc o').cell (hx.cell (c4 0 (by omega)))
  have e1 := fun o o' => (((Ext.refl _).alloc o).alloc o').cell (hx.cell (c4 1 (by omega)))
  have e2 := fun o o' => (((Ext.refl _).alloc o).alloc o').cell (hx.cell (c4 2 (by omega)))
  have f0 := fun o o' k => (((Ext.refl _).alloc o).alloc o').frozen (p := ⟨w.heap.size + 1, k, none⟩) (by simp; omega) (hx.frozen (p := ⟨w.heap.size + 1, k, none⟩) (by simp) (f4 k))
  have hE : Hid (∀ o o', Ext w ((w1.alloc o).alloc o')) := fun o o' => (((((Ext.refl w).alloc _).alloc _).trans hx).alloc o).alloc o'
  clear c1 c4 f4 hx
  have hl : ¬ b < 6 := by omega
  go_wp2
  go_region
  refine absW (fun w' => Ext w w' ∧ w.heap.size + 1 < w'.heap.size ∧ (∀ k, w'.frozen? ⟨w.heap.size + 1, k, none⟩ = false) ∧ w'.cell? ⟨w.heap.size, 1, none⟩ = some (.int .i64 r) ∧
    w'.cell? ⟨w.heap.size + 1, 0, none⟩ = some (.int .i64 0) ∧ w'.cell? ⟨w.heap.size + 1, 1, none⟩ = some (.int .i64 ((b - 6) / (r + 2))) ∧ w'.cell? ⟨w.heap.size + 1, 2, none⟩ = some (.int .i64 ((b - 6) % (r + 2)))) ?_ (fun w5 hI => ?_)
  · refine ⟨((Ext.set (Ext.set (hE.out _ _) (by simp) _) (by simp) _)).drew, by simp; omega, ?_⟩
    simp [go_sem, e0, e1, e2, f0, d1]
  obtain ⟨hE', hz', f0', d1', g0, g1, g2⟩ := hI
  clear e0 e1 e2 f0 d1 hE
  rw [hat.out] at g2
  clear hm3 hm4
  go_wp2
  refine bodyPost_ret (v := .agg #[.int .i64 4, .int .i64 ((b - 6) / (r + 2)), .int .i64 0]) (by simp [results, Try.results31, go_sem, g0, g1, g2]) rfl ⟨rfl, ?_⟩
  repeat (refine Ext.set ?_ (by simp) _)
  exact hE'

set_option maxHeartbeats 2000000 in
theorem of_rec (s r p b t : Int) (w : World) (hR : rightB s r p = true) (hb0 : 6 ≤ b) (hb1 : b < 6 + s * (r + 2)) (hat' : (b - 6) % (r + 2) = t) (ht1 : 1 ≤ t) (ht2 : t ≤ r) :
    Calls Try.prog 31 #[.agg #[.int .i64 s, .int .i64 r, .int .i64 p], .int .i64 b] w fun e w' => e = .returned (.agg #[.int .i64 5, .int .i64 ((b - 6) / (r + 2)), .int .i64 (t - 1)]) ∧ Ext w w' := by
  have hR' := rightB_true.1 hR
  obtain ⟨⟨hs1, hs2⟩, ⟨hr1, hr2⟩, hp1, hp2⟩ := hR'
  clear hR
  obtain ⟨hm1, hm2⟩ := mulB (a := s) (b := r + 2) (A := 16) (B := 34) (by omega) (by omega) (by omega) (by omega)
  have hq := IntWalk.tdiv_le (b - 6) (r + 2) (by omega) (by omega)
  have hm3 : 0 ≤ (b - 6) % (r + 2) := Int.emod_nonneg _ (by omega)
  have hm4 : (b - 6) % (r + 2) < r + 2 := Int.emod_lt_of_pos _ (by omega)
  have hat := Lib.hid hat'
  clear hat'
  go_enter Try.func31, Try.ntmps31
  go_wp2_with fail
  have c1 : ((w.alloc (.cells #[.int .i64 s, .int .i64 r, .int .i64 p] 23)).alloc (.cells #[.int .i64 0, .int .i64 0, .int .i64 0] 40)).cell? ⟨w.heap.size, 1, none⟩ = some (.int .i64 r) := by simp [go_sem]
  have c4 : ∀ k, k < 3 → ((w.alloc (.cells #[.int .i64 s, .int .i64 r, .int .i64 p] 23)).alloc (.cells #[.int .i64 0, .int .i64 0, .int .i64 0] 40)).cell? ⟨w.heap.size + 1, k, none⟩ = some (.int .i64 0) := fun k hk => by
    match k, hk with
    | 0, _ => simp [go_sem]
    | 1, _ => simp [go_sem]
    | 2, _ => simp [go_sem]
  have f4 : ∀ k, ((w.alloc (.cells #[.int .i64 s, .int .i64 r, .int .i64 p] 23)).alloc (.cells #[.int .i64 0, .int .i64 0, .int .i64 0] 40)).frozen? ⟨w.heap.size + 1, k, none⟩ = false := fun k => by simp [go_sem]
  go_call (regions_any s r p _ ⟨⟨hs1, hs2⟩, ⟨hr1, hr2⟩, hp1, hp2⟩) as e w1 ⟨rfl, hx⟩
  have hz : w.heap.size + 1 < w1.heap.size := by have := hx.sz; simp at this; omega
  have d1 := fun o o' => (((Ext.refl _).alloc o).alloc o').cell (hx.cell c1)
  have e0 := fun o o' => (((Ext.refl _).alloc o).alloc o').cell (hx.cell (c4 0 (by omega)))
  have e1 := fun o o' => (((Ext.refl _).alloc o).alloc o').cell (hx.cell (c4 1 (by omega)))
  have e2 := fun o o' => (((Ext.refl _).alloc o).alloc o').cell (hx.cell (c4 2 (by omega)))
  have f0 := fun o o' k => (((Ext.refl _).alloc o).alloc o').frozen (p := ⟨w.heap.size + 1, k, none⟩) (by simp; omega) (hx.frozen (p := ⟨w.heap.size + 1, k, none⟩) (by simp) (f4 k))
  have hE : Hid (∀ o o', Ext w ((w1.alloc o).alloc o')) := fun o o' => (((((Ext.refl w).alloc _).alloc _).trans hx).alloc o).alloc o'
  clear c1 c4 f4 hx
  have hl : ¬ b < 6 := by omega
  go_wp2
  go_region
  refine absW (fun w' => Ext w w' ∧ w.heap.size + 1 < w'.heap.size ∧ (∀ k, w'.frozen? ⟨w.heap.size + 1, k, none⟩ = false) ∧ w'.cell? ⟨w.heap.size, 1, none⟩ = some (.int .i64 r) ∧
    w'.cell? ⟨w.heap.size + 1, 0, none⟩ = some (.int .i64 0) ∧ w'.cell? ⟨w.heap.size + 1, 1, none⟩ = some (.int .i64 ((b - 6) / (r + 2))) ∧ w'.cell? ⟨w.heap.size + 1, 2, none⟩ = some (.int .i64 ((b - 6) % (r + 2)))) ?_ (fun w5 hI => ?_)
  · refine ⟨((Ext.set (Ext.set (hE.out _ _) (by simp) _) (by simp) _)).drew, by simp; omega, ?_⟩
    simp [go_sem, e0, e1, e2, f0, d1]
  obtain ⟨hE', hz', f0', d1', g0, g1, g2⟩ := hI
  clear e0 e1 e2 f0 d1 hE
  rw [hat.out] at g2
  clear hm3 hm4
  go_wp2
  refine bodyPost_ret (v := .agg #[.int .i64 5, .int .i64 ((b - 6) / (r + 2)), .int .i64 (t - 1)]) (by simp [results, Try.results31, go_sem, g0, g1, g2]) rfl ⟨rfl, ?_⟩
  repeat (refine Ext.set ?_ (by simp) _)
  exact hE'

set_option maxHeartbeats 2000000 in
theorem of_foot (s r p b : Int) (w : World) (hR : rightB s r p = true) (hb0 : 6 ≤ b) (hb1 : b < 6 + s * (r + 2)) (hat' : (b - 6) % (r + 2) = r + 1) :
    Calls Try.prog 31 #[.agg #[.int .i64 s, .int .i64 r, .int .i64 p], .int .i64 b] w fun e w' => e = .returned (.agg #[.int .i64 6, .int .i64 ((b - 6) / (r + 2)), .int .i64 0]) ∧ Ext w w' := by
  have hR' := rightB_true.1 hR
  obtain ⟨⟨hs1, hs2⟩, ⟨hr1, hr2⟩, hp1, hp2⟩ := hR'
  clear hR
  obtain ⟨hm1, hm2⟩ := mulB (a := s) (b := r + 2) (A := 16) (B := 34) (by omega) (by omega) (by omega) (by omega)
  have hq := IntWalk.tdiv_le (b - 6) (r + 2) (by omega) (by omega)
  have hm3 : 0 ≤ (b - 6) % (r + 2) := Int.emod_nonneg _ (by omega)
  have hm4 : (b - 6) % (r + 2) < r + 2 := Int.emod_lt_of_pos _ (by omega)
  have hat := Lib.hid hat'
  clear hat'
  go_enter Try.func31, Try.ntmps31
  go_wp2_with fail
  have c1 : ((w.alloc (.cells #[.int .i64 s, .int .i64 r, .int .i64 p] 23)).alloc (.cells #[.int .i64 0, .int .i64 0, .int .i64 0] 40)).cell? ⟨w.heap.size, 1, none⟩ = some (.int .i64 r) := by simp [go_sem]
  have c4 : ∀ k, k < 3 → ((w.alloc (.cells #[.int .i64 s, .int .i64 r, .int .i64 p] 23)).alloc (.cells #[.int .i64 0, .int .i64 0, .int .i64 0] 40)).cell? ⟨w.heap.size + 1, k, none⟩ = some (.int .i64 0) := fun k hk => by
    match k, hk with
    | 0, _ => simp [go_sem]
    | 1, _ => simp [go_sem]
    | 2, _ => simp [go_sem]
  have f4 : ∀ k, ((w.alloc (.cells #[.int .i64 s, .int .i64 r, .int .i64 p] 23)).alloc (.cells #[.int .i64 0, .int .i64 0, .int .i64 0] 40)).frozen? ⟨w.heap.size + 1, k, none⟩ = false := fun k => by simp [go_sem]
  go_call (regions_any s r p _ ⟨⟨hs1, hs2⟩, ⟨hr1, hr2⟩, hp1, hp2⟩) as e w1 ⟨rfl, hx⟩
  have hz : w.heap.size + 1 < w1.heap.size := by have := hx.sz; simp at this; omega
  have d1 := fun o o' => (((Ext.refl _).alloc o).alloc o').cell (hx.cell c1)
  have e0 := fun o o' => (((Ext.refl _).alloc o).alloc o').cell (hx.cell (c4 0 (by omega)))
  have e1 := fun o o' => (((Ext.refl _).alloc o).alloc o').cell (hx.cell (c4 1 (by omega)))
  have e2 := fun o o' => (((Ext.refl _).alloc o).alloc o').cell (hx.cell (c4 2 (by omega)))
  have f0 := fun o o' k => (((Ext.refl _).alloc o).alloc o').frozen (p := ⟨w.heap.size + 1, k, none⟩) (by simp; omega) (hx.frozen (p := ⟨w.heap.size + 1, k, none⟩) (by simp) (f4 k))
  have hE : Hid (∀ o o', Ext w ((w1.alloc o).alloc o')) := fun o o' => (((((Ext.refl w).alloc _).alloc _).trans hx).alloc o).alloc o'
  clear c1 c4 f4 hx
  have hl : ¬ b < 6 := by omega
  go_wp2
  go_region
  refine absW (fun w' => Ext w w' ∧ w.heap.size + 1 < w'.heap.size ∧ (∀ k, w'.frozen? ⟨w.heap.size + 1, k, none⟩ = false) ∧ w'.cell? ⟨w.heap.size, 1, none⟩ = some (.int .i64 r) ∧
    w'.cell? ⟨w.heap.size + 1, 0, none⟩ = some (.int .i64 0) ∧ w'.cell? ⟨w.heap.size + 1, 1, none⟩ = some (.int .i64 ((b - 6) / (r + 2))) ∧ w'.cell? ⟨w.heap.size + 1, 2, none⟩ = some (.int .i64 ((b - 6) % (r + 2)))) ?_ (fun w5 hI => ?_)
  · refine ⟨((Ext.set (Ext.set (hE.out _ _) (by simp) _) (by simp) _)).drew, by simp; omega, ?_⟩
    simp [go_sem, e0, e1, e2, f0, d1]
  obtain ⟨hE', hz', f0', d1', g0, g1, g2⟩ := hI
  clear e0 e1 e2 f0 d1 hE
  rw [hat.out] at g2
  clear hm3 hm4
  go_wp2
  refine bodyPost_ret (v := .agg #[.int .i64 6, .int .i64 ((b - 6) / (r + 2)), .int .i64 0]) (by simp [results, Try.results31, go_sem, g0, g1, g2]) rfl ⟨rfl, ?_⟩
  repeat (refine Ext.set ?_ (by simp) _)
  exact hE'

set_option maxHeartbeats 2000000 in
theorem of_snap (s r p b : Int) (w : World) (hR : rightB s r p = true) (hb0 : 6 + s * (r + 2) ≤ b) (hb1 : b ≤ 1000000) (hat' : (b - (6 + s * (r + 2))) % (p + 1) = 0) :
    Calls Try.prog 31 #[.agg #[.int .i64 s, .int .i64 r, .int .i64 p], .int .i64 b] w fun e w' => e = .returned (.agg #[.int .i64 8, .int .i64 ((b - (6 + s * (r + 2))) / (p + 1)), .int .i64 0]) ∧ Ext w w' := by
  have hR' := rightB_true.1 hR
  obtain ⟨⟨hs1, hs2⟩, ⟨hr1, hr2⟩, hp1, hp2⟩ := hR'
  clear hR
  obtain ⟨hm1, hm2⟩ := mulB (a := s) (b := r + 2) (A := 16) (B := 34) (by omega) (by omega) (by omega) (by omega)
  have hq := IntWalk.tdiv_le (b - (6 + s * (r + 2))) (p + 1) (by omega) (by omega)
  have hm3 : 0 ≤ (b - (6 + s * (r + 2))) % (p + 1) := Int.emod_nonneg _ (by omega)
  have hm4 : (b - (6 + s * (r + 2))) % (p + 1) < p + 1 := Int.emod_lt_of_pos _ (by omega)
  have hat := Lib.hid hat'
  clear hat'
  go_enter Try.func31, Try.ntmps31
  go_wp2_with fail
  have c1 : ((w.alloc (.cells #[.int .i64 s, .int .i64 r, .int .i64 p] 23)).alloc (.cells #[.int .i64 0, .int .i64 0, .int .i64 0] 40)).cell? ⟨w.heap.size, 1, none⟩ = some (.int .i64 r) := by simp [go_sem]
  have c4 : ∀ k, k < 3 → ((w.alloc (.cells #[.int .i64 s, .int .i64 r, .int .i64 p] 23)).alloc (.cells #[.int .i64 0, .int .i64 0, .int .i64 0] 40)).cell? ⟨w.heap.size + 1, k, none⟩ = some (.int .i64 0) := fun k hk => by
    match k, hk with
    | 0, _ => simp [go_sem]
    | 1, _ => simp [go_sem]
    | 2, _ => simp [go_sem]
  have f4 : ∀ k, ((w.alloc (.cells #[.int .i64 s, .int .i64 r, .int .i64 p] 23)).alloc (.cells #[.int .i64 0, .int .i64 0, .int .i64 0] 40)).frozen? ⟨w.heap.size + 1, k, none⟩ = false := fun k => by simp [go_sem]
  go_call (regions_any s r p _ ⟨⟨hs1, hs2⟩, ⟨hr1, hr2⟩, hp1, hp2⟩) as e w1 ⟨rfl, hx⟩
  have hz : w.heap.size + 1 < w1.heap.size := by have := hx.sz; simp at this; omega
  have d1 := fun o o' => (((Ext.refl _).alloc o).alloc o').cell (hx.cell c1)
  have e0 := fun o o' => (((Ext.refl _).alloc o).alloc o').cell (hx.cell (c4 0 (by omega)))
  have e1 := fun o o' => (((Ext.refl _).alloc o).alloc o').cell (hx.cell (c4 1 (by omega)))
  have e2 := fun o o' => (((Ext.refl _).alloc o).alloc o').cell (hx.cell (c4 2 (by omega)))
  have f0 := fun o o' k => (((Ext.refl _).alloc o).alloc o').frozen (p := ⟨w.heap.size + 1, k, none⟩) (by simp; omega) (hx.frozen (p := ⟨w.heap.size + 1, k, none⟩) (by simp) (f4 k))
  have hE : Hid (∀ o o', Ext w ((w1.alloc o).alloc o')) := fun o o' => (((((Ext.refl w).alloc _).alloc _).trans hx).alloc o).alloc o'
  clear c1 c4 f4 hx
  have hl : ¬ b < 6 := by omega
  have hl2 : ¬ b < 6 + s * (r + 2) := by omega
  go_wp2
  go_region
  refine absW (fun w' => Ext w w' ∧ w.heap.size + 1 < w'.heap.size ∧ (∀ k, w'.frozen? ⟨w.heap.size + 1, k, none⟩ = false) ∧ w'.cell? ⟨w.heap.size, 1, none⟩ = some (.int .i64 r) ∧
    w'.cell? ⟨w.heap.size + 1, 0, none⟩ = some (.int .i64 0) ∧ w'.cell? ⟨w.heap.size + 1, 1, none⟩ = some (.int .i64 ((b - (6 + s * (r + 2))) / (p + 1))) ∧ w'.cell? ⟨w.heap.size + 1, 2, none⟩ = some (.int .i64 ((b - (6 + s * (r + 2))) % (p + 1)))) ?_ (fun w5 hI => ?_)
  · refine ⟨((Ext.set (Ext.set (hE.out _ _) (by simp) _) (by simp) _)).drew, by simp; omega, ?_⟩
    simp [go_sem, e0, e1, e2, f0, d1]
  obtain ⟨hE', hz', f0', d1', g0, g1, g2⟩ := hI
  clear e0 e1 e2 f0 d1 hE
  rw [hat.out] at g2
  clear hm3 hm4
  go_wp2
  refine bodyPost_ret (v := .agg #[.int .i64 8, .int .i64 ((b - (6 + s * (r + 2))) / (p + 1)), .int .i64 0]) (by simp [results, Try.results31, go_sem, g0, g1, g2]) rfl ⟨rfl, ?_⟩
  repeat (refine Ext.set ?_ (by simp) _)
  exact hE'

set_option maxHeartbeats 2000000 in
theorem of_piece (s r p b t : Int) (w : World) (hR : rightB s r p = true) (hb0 : 6 + s * (r + 2) ≤ b) (hb1 : b ≤ 1000000) (hat' : (b - (6 + s * (r + 2))) % (p + 1) = t) (ht1 : 1 ≤ t) (ht2 : t ≤ p) :
    Calls Try.prog 31 #[.agg #[.int .i64 s, .int .i64 r, .int .i64 p], .int .i64 b] w fun e w' => e = .returned (.agg #[.int .i64 7, .int .i64 ((b - (6 + s * (r + 2))) / (p + 1)), .int .i64 (t - 1)]) ∧ Ext w w' := by
  have hR' := rightB_true.1 hR
  obtain ⟨⟨hs1, hs2⟩, ⟨hr1, hr2⟩, hp1, hp2⟩ := hR'
  clear hR
  obtain ⟨hm1, hm2⟩ := mulB (a := s) (b := r + 2) (A := 16) (B := 34) (by omega) (by omega) (by omega) (by omega)
  have hq := IntWalk.tdiv_le (b - (6 + s * (r + 2))) (p + 1) (by omega) (by omega)
  have hm3 : 0 ≤ (b - (6 + s * (r + 2))) % (p + 1) := Int.emod_nonneg _ (by omega)
  have hm4 : (b - (6 + s * (r + 2))) % (p + 1) < p + 1 := Int.emod_lt_of_pos _ (by omega)
  have hat := Lib.hid hat'
  clear hat'
  go_enter Try.func31, Try.ntmps31
  go_wp2_with fail
  have c1 : ((w.alloc (.cells #[.int .i64 s, .int .i64 r, .int .i64 p] 23)).alloc (.cells #[.int .i64 0, .int .i64 0, .int .i64 0] 40)).cell? ⟨w.heap.size, 1, none⟩ = some (.int .i64 r) := by simp [go_sem]
  have c4 : ∀ k, k < 3 → ((w.alloc (.cells #[.int .i64 s, .int .i64 r, .int .i64 p] 23)).alloc (.cells #[.int .i64 0, .int .i64 0, .int .i64 0] 40)).cell? ⟨w.heap.size + 1, k, none⟩ = some (.int .i64 0) := fun k hk => by
    match k, hk with
    | 0, _ => simp [go_sem]
    | 1, _ => simp [go_sem]
    | 2, _ => simp [go_sem]
  have f4 : ∀ k, ((w.alloc (.cells #[.int .i64 s, .int .i64 r, .int .i64 p] 23)).alloc (.cells #[.int .i64 0, .int .i64 0, .int .i64 0] 40)).frozen? ⟨w.heap.size + 1, k, none⟩ = false := fun k => by simp [go_sem]
  go_call (regions_any s r p _ ⟨⟨hs1, hs2⟩, ⟨hr1, hr2⟩, hp1, hp2⟩) as e w1 ⟨rfl, hx⟩
  have hz : w.heap.size + 1 < w1.heap.size := by have := hx.sz; simp at this; omega
  have d1 := fun o o' => (((Ext.refl _).alloc o).alloc o').cell (hx.cell c1)
  have e0 := fun o o' => (((Ext.refl _).alloc o).alloc o').cell (hx.cell (c4 0 (by omega)))
  have e1 := fun o o' => (((Ext.refl _).alloc o).alloc o').cell (hx.cell (c4 1 (by omega)))
  have e2 := fun o o' => (((Ext.refl _).alloc o).alloc o').cell (hx.cell (c4 2 (by omega)))
  have f0 := fun o o' k => (((Ext.refl _).alloc o).alloc o').frozen (p := ⟨w.heap.size + 1, k, none⟩) (by simp; omega) (hx.frozen (p := ⟨w.heap.size + 1, k, none⟩) (by simp) (f4 k))
  have hE : Hid (∀ o o', Ext w ((w1.alloc o).alloc o')) := fun o o' => (((((Ext.refl w).alloc _).alloc _).trans hx).alloc o).alloc o'
  clear c1 c4 f4 hx
  have hl : ¬ b < 6 := by omega
  have hl2 : ¬ b < 6 + s * (r + 2) := by omega
  go_wp2
  go_region
  refine absW (fun w' => Ext w w' ∧ w.heap.size + 1 < w'.heap.size ∧ (∀ k, w'.frozen? ⟨w.heap.size + 1, k, none⟩ = false) ∧ w'.cell? ⟨w.heap.size, 1, none⟩ = some (.int .i64 r) ∧
    w'.cell? ⟨w.heap.size + 1, 0, none⟩ = some (.int .i64 0) ∧ w'.cell? ⟨w.heap.size + 1, 1, none⟩ = some (.int .i64 ((b - (6 + s * (r + 2))) / (p + 1))) ∧ w'.cell? ⟨w.heap.size + 1, 2, none⟩ = some (.int .i64 ((b - (6 + s * (r + 2))) % (p + 1)))) ?_ (fun w5 hI => ?_)
  · refine ⟨((Ext.set (Ext.set (hE.out _ _) (by simp) _) (by simp) _)).drew, by simp; omega, ?_⟩
    simp [go_sem, e0, e1, e2, f0, d1]
  obtain ⟨hE', hz', f0', d1', g0, g1, g2⟩ := hI
  clear e0 e1 e2 f0 d1 hE
  rw [hat.out] at g2
  clear hm3 hm4
  go_wp2
  refine bodyPost_ret (v := .agg #[.int .i64 7, .int .i64 ((b - (6 + s * (r + 2))) / (p + 1)), .int .i64 (t - 1)]) (by simp [results, Try.results31, go_sem, g0, g1, g2]) rfl ⟨rfl, ?_⟩
  repeat (refine Ext.set ?_ (by simp) _)
  exact hE'

end Go.Proofs.Ytbknabgimjkcoaa
