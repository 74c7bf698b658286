import Derived.Test.YtbknabgimjkcoaaPlanA
import Derived.Test.YtbknabgimjkcoaaStab
import Derived.RegionTactic
import Derived.Deep.QuietTactic
import Derived.BigQuiet
import Derived.Deep.RegionWith
import Derived.Deep.RegionHeld3
import Derived.StillTailTactics
import Derived.Deep.DeepCutAuto
namespace Go.Proofs.Ytbknabgimjkcoaa
open Go.RowKit

def rightB (s r p : Int) : Bool := withinB [(s, 2, 16), (r, 1, 32), (p, 1, 48)]

theorem rightB_true {s r p : Int} : rightB s r p = true ↔ (2 ≤ s ∧ s ≤ 16) ∧ (1 ≤ r ∧ r ≤ 32) ∧ (1 ≤ p ∧ p ≤ 48) := by
  simp [rightB, withinB]

set_option maxHeartbeats 400000 in
theorem right_any (s r p : Int) (w : World) :
    Calls Try.prog 8 #[.agg #[.int .i64 s, .int .i64 r, .int .i64 p]] w fun e w' => e = .returned (.bool (rightB s r p)) ∧ Ext w w' := by
  go_enter Try.func8, Try.ntmps8
  go_wp2_with fail
  go_call (within3 s 2 16 r 1 32 p 1 48) as e w' ⟨rfl, hb⟩
  go_wp2
  go_ret
  exact ⟨rfl, (((Ext.refl _).alloc _).alloc _).trans hb⟩

theorem end_any (f n k : Int) (w : World) (hn : 0 ≤ n) (hn2 : n ≤ 16) (hk : 0 ≤ k) (hk2 : k ≤ 50) (hf : 0 ≤ f) (hf2 : f ≤ 1000) :
    Calls Try.prog 34 #[.agg #[.int .i64 f, .int .i64 n, .int .i64 k]] w fun e w' => e = .returned (.int .i64 (f + n * k)) ∧ Ext w w' := by
  have h1 : 0 ≤ n * k := Int.mul_nonneg hn hk
  have h2 : n * k ≤ 16 * 50 := Int.mul_le_mul hn2 hk2 hk (by omega)
  go_enter Try.func34, Try.ntmps34
  go_wp2
  go_ret
  exact ⟨rfl, (Ext.refl _).alloc _⟩

theorem at_any (f n k row x : Int) (w : World) (hn : 0 ≤ row) (hn2 : row ≤ 16) (hk : 0 ≤ k) (hk2 : k ≤ 50) (hf : 0 ≤ f) (hf2 : f ≤ 1000) (hx : 0 ≤ x) (hx2 : x ≤ 100) :
    Calls Try.prog 37 #[.agg #[.int .i64 f, .int .i64 n, .int .i64 k], .int .i64 row, .int .i64 x] w fun e w' => e = .returned (.int .i64 (f + row * k + x)) ∧ Ext w w' := by
  have h1 : 0 ≤ row * k := Int.mul_nonneg hn hk
  have h2 : row * k ≤ 16 * 50 := Int.mul_le_mul hn2 hk2 hk (by omega)
  go_enter Try.func37, Try.ntmps37
  go_wp2
  go_ret
  exact ⟨rfl, (Ext.refl _).alloc _⟩

set_option maxHeartbeats 1000000 in
theorem regions_any (s r p : Int) (w : World) (hR : (2 ≤ s ∧ s ≤ 16) ∧ (1 ≤ r ∧ r ≤ 32) ∧ (1 ≤ p ∧ p ≤ 48)) :
    Calls Try.prog 33 #[.agg #[.int .i64 s, .int .i64 r, .int .i64 p]] w fun e w' => e = .returned (.tuple #[.agg #[.int .i64 6, .int .i64 s, .int .i64 (r + 2)], .agg #[.int .i64 (6 + s * (r + 2)), .int .i64 2, .int .i64 (p + 1)]]) ∧ Ext w w' := by
  obtain ⟨⟨hs1, hs2⟩, ⟨hr1, hr2⟩, hp1, hp2⟩ := hR
  go_enter Try.func33, Try.ntmps33
  go_wp2_with fail
  go_cut [] (fun w' => Ext w w' ∧ w.heap.size + 1 + 1 < w'.heap.size ∧ (∀ o, w'.frozen? ⟨w.heap.size + 1, o, none⟩ = false) ∧ (∀ o, w'.frozen? ⟨w.heap.size + 1 + 1, o, none⟩ = false) ∧
    w'.cell? ⟨w.heap.size + 1, 0, none⟩ = some (.int .i64 6) ∧ w'.cell? ⟨w.heap.size + 1, 1, none⟩ = some (.int .i64 s) ∧ w'.cell? ⟨w.heap.size + 1, 2, none⟩ = some (.int .i64 (r + 2)) ∧
    w'.cell? ⟨w.heap.size + 1 + 1, 0, none⟩ = some (.int .i64 (6 + s * (r + 2))) ∧ w'.cell? ⟨w.heap.size + 1 + 1, 1, none⟩ = some (.int .i64 2) ∧ w'.cell? ⟨w.heap.size + 1 + 1, 2, none⟩ = some (.int .i64 (p + 1)))
  case first =>
    refine Stab.wp_region_lexTail 6 Ext (Ext _) (fun _ => True) (by kernel_rfl) (by kernel_rfl) (fun _ _ h => h) (fun _ _ h k => Ext.trans h k) (fun _ _ _ _ => trivial) ((Ext.refl _).drew) trivial ?_
    simp only [List.take_succ_cons, List.take_zero, List.drop_succ_cons, List.drop_zero, Stab.zipL, Nat.reduceAdd]
    repeat (first
      | (refine Stab.wpX_val rfl rfl ?_; apply Exists.intro; refine ⟨fun w1 hC _ => ?_, ?_⟩; (obtain ⟨hc, hf⟩ := bcell hC; go_simp; (try simp (disch := omega) only [IntWalk.i64_in]); exact ⟨Ext.refl _, rfl⟩); simp only [Act.put, List.setIfInBounds_toArray, List.set_cons_zero, List.set_cons_succ])
      | (refine Stab.wpX_call1 rfl rfl (fun _ _ _ _ => trivial) ?_; apply Exists.intro; refine ⟨fun w1 hC _ _ => ?_, ?_⟩; (go_simp; refine ⟨rfl, ?_⟩; refine (end_any _ _ _ _ (by omega) (by omega) (by omega) (by omega) (by omega) (by omega)).mono ?_; rintro e w2 ⟨rfl, hb⟩; (first | exact ⟨hb, rfl, trivial⟩ | exact ⟨hb, rfl⟩)); simp only [Act.put, List.setIfInBounds_toArray, List.set_cons_zero, List.set_cons_succ]))
    refine Stab.wpX_end fun w1 hC _ _ => ?_
    obtain ⟨hc, hf⟩ := bcell hC
    have c10 : w1.cell? ⟨w.heap.size + 1, 0, none⟩ = some (.int .i64 6) := by rw [hc _ _ (by simp)]; simp [go_sem]
    have c11 : w1.cell? ⟨w.heap.size + 1, 1, none⟩ = some (.int .i64 s) := by rw [hc _ _ (by simp)]; simp [go_sem]
    have c12 : w1.cell? ⟨w.heap.size + 1, 2, none⟩ = some (.int .i64 (r + 2)) := by rw [hc _ _ (by simp)]; simp [go_sem]
    have c20 : w1.cell? ⟨w.heap.size + 1 + 1, 0, none⟩ = some (.int .i64 0) := by rw [hc _ _ (by simp)]; simp [go_sem]
    have c21 : w1.cell? ⟨w.heap.size + 1 + 1, 1, none⟩ = some (.int .i64 0) := by rw [hc _ _ (by simp)]; simp [go_sem]
    have c22 : w1.cell? ⟨w.heap.size + 1 + 1, 2, none⟩ = some (.int .i64 0) := by rw [hc _ _ (by simp)]; simp [go_sem]
    have f1 : ∀ o, w1.frozen? ⟨w.heap.size + 1, o, none⟩ = false := fun o => by rw [hf _ _ (by simp)]; simp [go_sem]
    have f2 : ∀ o, w1.frozen? ⟨w.heap.size + 1 + 1, o, none⟩ = false := fun o => by rw [hf _ _ (by simp)]; simp [go_sem]
    have hE : Ext w w1 := (((((Ext.refl w).alloc _).alloc _).alloc _)).trans hC
    have hz : w.heap.size + 1 + 1 < w1.heap.size := by have := hC.sz; simp at this; omega
    clear hc hf hC
    go_wp2
    go_meet
    case rel =>
      refine ⟨Ext.set (Ext.set (Ext.set hE (by simp; omega) _) (by simp; omega) _) (by simp; omega) _, by simpa using hz, ?_⟩
      simp [go_sem, c10, c11, c12, c20, c21, c22, f1, f2]
  case rest =>
    obtain ⟨hE, hz, f1, f2, c10, c11, c12, c20, c21, c22⟩ := hcut
    go_wp2
    go_region
    go_wp2
    refine bodyPost_ret (v := .tuple #[.agg #[.int .i64 6, .int .i64 s, .int .i64 (r + 2)], .agg #[.int .i64 (6 + s * (r + 2)), .int .i64 2, .int .i64 (p + 1)]]) (by simp [results, Try.results33, go_sem, c10, c11, c12, c20, c21, c22]) rfl ⟨rfl, ?_⟩
    refine Ext.drew ?_
    repeat (refine Ext.set ?_ (by simp; try omega) _)
    exact hE

end Go.Proofs.Ytbknabgimjkcoaa
