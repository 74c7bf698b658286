import Derived.Test.YtbknabgimjkcoaaPlanB
import Derived.Lib.Hide
namespace Go.Proofs.Ytbknabgimjkcoaa
open Go.RowKit

def inB (x lo hi : Int) : Bool := withinB [(x, lo, hi)]
theorem inB_true {x lo hi : Int} : inB x lo hi = true ↔ lo ≤ x ∧ x ≤ hi := by simp [inB, withinB]
theorem inB_false {x lo hi : Int} : inB x lo hi = false ↔ ¬ (lo ≤ x ∧ x ≤ hi) := by rw [← inB_true]; simp

theorem win1 (x lo hi : Int) (b cap : Nat) (w : World) (hb : b < w.heap.size)
    (h0 : w.cell? ⟨b, 0, none⟩ = some (.int .i64 x)) (h1 : w.cell? ⟨b, 1, none⟩ = some (.int .i64 lo)) (h2 : w.cell? ⟨b, 2, none⟩ = some (.int .i64 hi)) :
    Calls Try.prog 29 #[.slice (some ⟨b, 0, none⟩) 1 cap] w fun e w' => e = .returned (.bool (inB x lo hi)) ∧ Ext w w' := within1 x lo hi b cap w hb h0 h1 h2

/-- What the program tells, as plain functions. -/
def blocksF (s r p : Int) : Int := if rightB s r p then 6 + s * (r + 2) + 2 * (p + 1) else 0
def segF (s r p i : Int) : Int := if rightB s r p && inB i 1 1099511627776 then (i - 1) / r else -1
def firstF (s r p g : Int) : Int := if rightB s r p && inB g 0 1099511627776 then g * r + 1 else -1
def slotF (s r p g k : Int) : Int := if rightB s r p && inB g 0 1099511627776 then 6 + g % s * (r + 2) + k else -1
def recordF (s r p i : Int) : Int := if rightB s r p && inB i 1 1099511627776 then 6 + (i - 1) / r % s * (r + 2) + (1 + (i - 1) % r) else -1
def snapF (s r p a : Int) : Int := if rightB s r p && inB a 0 1 then 6 + s * (r + 2) + a * (p + 1) else -1
def pieceF (s r p a k : Int) : Int := if rightB s r p && inB a 0 1 && inB k 0 (p - 1) then 6 + s * (r + 2) + a * (p + 1) + 1 + k else -1

set_option maxHeartbeats 400000 in
theorem seg_any (s r p i : Int) (w : World) :
    Calls Try.prog 9 #[.agg #[.int .i64 s, .int .i64 r, .int .i64 p], .int .i64 i] w fun e w' => e = .returned (.int .i64 (segF s r p i)) ∧ Ext w w' := by
  cases h : rightB s r p with
  | false =>
    have hv : Hid (segF s r p i = -1) := by show _ = _; simp [segF, h]
    go_enter Try.func9, Try.ntmps9
    go_wp2_with fail
    go_call (right_any s r p) as e w1 ⟨rfl, hb⟩
    go_wp2
    go_ret
    exact ⟨by rw [hv.out]; rfl, ((Ext.refl _).alloc _).trans hb⟩
  | true =>
    obtain ⟨_, ⟨hr1, hr2⟩, _⟩ := rightB_true.1 h
    cases hi : inB i 1 1099511627776 with
    | false =>
      have hv : Hid (segF s r p i = -1) := by show _ = _; simp [segF, h, hi]
      go_enter Try.func9, Try.ntmps9
      go_wp2_with fail
      go_call (right_any s r p) as e w1 ⟨rfl, hb⟩
      go_wp2_with fail
      go_call (win1 i 1 1099511627776) as e w2 ⟨rfl, hb2⟩
      go_wp2
      go_ret
      exact ⟨by rw [hv.out]; rfl, (((Ext.refl _).alloc _).trans hb).trans (((Ext.refl _).alloc _).trans hb2)⟩
    | true =>
      have hv : Hid (segF s r p i = (i - 1) / r) := by show _ = _; simp [segF, h, hi]
      obtain ⟨hi1, hi2⟩ := inB_true.1 hi
      go_enter Try.func9, Try.ntmps9
      go_wp2_with fail
      have c0 : (w.alloc (.cells #[.int .i64 s, .int .i64 r, .int .i64 p] 23)).cell? ⟨w.heap.size, 1, none⟩ = some (.int .i64 r) := by simp [go_sem]
      go_call (right_any s r p) as e w1 ⟨rfl, hb⟩
      go_wp2_with fail
      go_call (win1 i 1 1099511627776) as e w2 ⟨rfl, hb2⟩
      have c1 : w2.cell? ⟨w.heap.size, 1, none⟩ = some (.int .i64 r) := hb2.cell (((Ext.refl _).alloc _).cell (hb.cell c0))
      clear c0
      go_wp2
      go_ret
      exact ⟨by rw [hv.out]; rfl, (((Ext.refl _).alloc _).trans hb).trans (((Ext.refl _).alloc _).trans hb2)⟩

set_option maxHeartbeats 400000 in
theorem first_any (s r p i : Int) (w : World) :
    Calls Try.prog 13 #[.agg #[.int .i64 s, .int .i64 r, .int .i64 p], .int .i64 i] w fun e w' => e = .returned (.int .i64 (firstF s r p i)) ∧ Ext w w' := by
  cases h : rightB s r p with
  | false =>
    have hv : Hid (firstF s r p i = -1) := by show _ = _; simp [firstF, h]
    go_enter Try.func13, Try.ntmps13
    go_wp2_with fail
    go_call (right_any s r p) as e w1 ⟨rfl, hb⟩
    go_wp2
    go_ret
    exact ⟨by rw [hv.out]; rfl, ((Ext.refl _).alloc _).trans hb⟩
  | true =>
    obtain ⟨_, ⟨hr1, hr2⟩, _⟩ := rightB_true.1 h
    cases hi : inB i 0 1099511627776 with
    | false =>
      have hv : Hid (firstF s r p i = -1) := by show _ = _; simp [firstF, h, hi]
      go_enter Try.func13, Try.ntmps13
      go_wp2_with fail
      go_call (right_any s r p) as e w1 ⟨rfl, hb⟩
      go_wp2_with fail
      go_call (win1 i 0 1099511627776) as e w2 ⟨rfl, hb2⟩
      go_wp2
      go_ret
      exact ⟨by rw [hv.out]; rfl, (((Ext.refl _).alloc _).trans hb).trans (((Ext.refl _).alloc _).trans hb2)⟩
    | true =>
      have hv : Hid (firstF s r p i = i * r + 1) := by show _ = _; simp [firstF, h, hi]
      obtain ⟨hi1, hi2⟩ := inB_true.1 hi
      have hm1 : 0 ≤ i * r := Int.mul_nonneg (by omega) (by omega)
      have hm2 : i * r ≤ 1099511627776 * 32 := Int.mul_le_mul hi2 hr2 (by omega) (by omega)
      go_enter Try.func13, Try.ntmps13
      go_wp2_with fail
      have c0 : (w.alloc (.cells #[.int .i64 s, .int .i64 r, .int .i64 p] 23)).cell? ⟨w.heap.size, 1, none⟩ = some (.int .i64 r) := by simp [go_sem]
      go_call (right_any s r p) as e w1 ⟨rfl, hb⟩
      go_wp2_with fail
      go_call (win1 i 0 1099511627776) as e w2 ⟨rfl, hb2⟩
      have c1 : w2.cell? ⟨w.heap.size, 1, none⟩ = some (.int .i64 r) := hb2.cell (((Ext.refl _).alloc _).cell (hb.cell c0))
      clear c0
      go_wp2
      go_ret
      exact ⟨by rw [hv.out]; rfl, (((Ext.refl _).alloc _).trans hb).trans (((Ext.refl _).alloc _).trans hb2)⟩


theorem mulB {a b A B : Int} (h1 : 0 ≤ a) (h2 : a ≤ A) (h3 : 0 ≤ b) (h4 : b ≤ B) : 0 ≤ a * b ∧ a * b ≤ A * B :=
  ⟨Int.mul_nonneg h1 h3, Int.mul_le_mul h2 h4 h3 (by omega)⟩

set_option maxHeartbeats 400000 in
theorem blocks_any (s r p : Int) (w : World) :
    Calls Try.prog 17 #[.agg #[.int .i64 s, .int .i64 r, .int .i64 p]] w fun e w' => e = .returned (.int .i64 (blocksF s r p)) ∧ Ext w w' := by
  cases h : rightB s r p with
  | false =>
    have hv : Hid (blocksF s r p = 0) := by show _ = _; simp [blocksF, h]
    go_enter Try.func17, Try.ntmps17
    go_wp2_with fail
    go_call (right_any s r p) as e w1 ⟨rfl, hb⟩
    go_wp2
    go_ret
    exact ⟨by rw [hv.out]; rfl, ((Ext.refl _).alloc _).trans hb⟩
  | true =>
    have hv : Hid (blocksF s r p = 6 + s * (r + 2) + 2 * (p + 1)) := by show _ = _; simp [blocksF, h]
    have hR := rightB_true.1 h
    obtain ⟨⟨hs1, hs2⟩, ⟨hr1, hr2⟩, hp1, hp2⟩ := hR
    obtain ⟨hm1, hm2⟩ := mulB (a := s) (b := r + 2) (A := 16) (B := 34) (by omega) (by omega) (by omega) (by omega)
    go_enter Try.func17, Try.ntmps17
    go_wp2_with fail
    have c0 : (w.alloc (.cells #[.int .i64 s, .int .i64 r, .int .i64 p] 23)).cell? ⟨w.heap.size, 0, none⟩ = some (.int .i64 s) := by simp [go_sem]
    have c1 : (w.alloc (.cells #[.int .i64 s, .int .i64 r, .int .i64 p] 23)).cell? ⟨w.heap.size, 1, none⟩ = some (.int .i64 r) := by simp [go_sem]
    have c2 : (w.alloc (.cells #[.int .i64 s, .int .i64 r, .int .i64 p] 23)).cell? ⟨w.heap.size, 2, none⟩ = some (.int .i64 p) := by simp [go_sem]
    go_call (right_any s r p) as e w1 ⟨rfl, hb⟩
    have d0 := hb.cell c0
    have d1 := hb.cell c1
    have d2 := hb.cell c2
    clear c0 c1 c2
    go_wp2_with fail
    go_call (regions_any s r p _ ⟨⟨hs1, hs2⟩, ⟨hr1, hr2⟩, hp1, hp2⟩) as e w2 ⟨rfl, hb2⟩
    clear d0 d1 d2
    go_wp2_with fail
    go_call (end_any (6 + s * (r + 2)) 2 (p + 1) _ (by omega) (by omega) (by omega) (by omega) (by omega) (by omega)) as e w3 ⟨rfl, hb3⟩
    go_wp2
    go_ret
    exact ⟨by rw [hv.out]; rfl, (((Ext.refl _).alloc _).trans hb).trans (hb2.trans ((((Ext.refl _).alloc _).alloc _).trans hb3))⟩

set_option maxHeartbeats 1000000 in
theorem in_any (s r p g k : Int) (w : World) (hk : rightB s r p = true → 0 ≤ k ∧ k ≤ 100) :
    Calls Try.prog 30 #[.agg #[.int .i64 s, .int .i64 r, .int .i64 p], .int .i64 g, .int .i64 k] w fun e w' => e = .returned (.int .i64 (slotF s r p g k)) ∧ Ext w w' := by
  cases h : rightB s r p && inB g 0 1099511627776 with
  | false =>
    clear hk
    have hv : Hid (slotF s r p g k = -1) := by show _ = _; simp [slotF, h]
    have hv2 : firstF s r p g = -1 := by simp [firstF, h]
    go_enter Try.func30, Try.ntmps30
    go_wp2_with fail
    go_call (first_any s r p g) as e w1 ⟨rfl, hb⟩
    go_wp2
    go_ret
    exact ⟨by rw [hv.out]; rfl, ((Ext.refl _).alloc _).trans hb⟩
  | true =>
    have hv : Hid (slotF s r p g k = 6 + g % s * (r + 2) + k) := by show _ = _; simp [slotF, h]
    have hv2 : Hid (firstF s r p g = g * r + 1) := by show _ = _; simp [firstF, h]
    obtain ⟨h1, h2⟩ := Bool.and_eq_true_iff.1 h
    obtain ⟨hg1, hg2⟩ := inB_true.1 h2
    obtain ⟨⟨hs1, hs2⟩, ⟨hr1, hr2⟩, hp1, hp2⟩ := rightB_true.1 h1
    have hlt : ¬ firstF s r p g < 0 := by rw [hv2.out]; have := (mulB (a := g) (b := r) (A := 1099511627776) (B := 32) (by omega) (by omega) (by omega) (by omega)).1; omega
    have hmod1 : 0 ≤ g % s := Int.emod_nonneg _ (by omega)
    have hmod2 : g % s < s := Int.emod_lt_of_pos _ (by omega)
    obtain ⟨hk1, hk2⟩ := hk h1
    clear h h1 h2 hv2 hk
    go_enter Try.func30, Try.ntmps30
    go_wp2_with fail
    have c0 : (w.alloc (.cells #[.int .i64 s, .int .i64 r, .int .i64 p] 23)).cell? ⟨w.heap.size, 0, none⟩ = some (.int .i64 s) := by simp [go_sem]
    have c1 : (w.alloc (.cells #[.int .i64 s, .int .i64 r, .int .i64 p] 23)).cell? ⟨w.heap.size, 1, none⟩ = some (.int .i64 r) := by simp [go_sem]
    have c2 : (w.alloc (.cells #[.int .i64 s, .int .i64 r, .int .i64 p] 23)).cell? ⟨w.heap.size, 2, none⟩ = some (.int .i64 p) := by simp [go_sem]
    go_call (first_any s r p g) as e w1 ⟨rfl, hb⟩
    have d0 := hb.cell c0
    have d1 := hb.cell c1
    have d2 := hb.cell c2
    clear c0 c1 c2
    go_wp2_with fail
    go_call (regions_any s r p _ ⟨⟨hs1, hs2⟩, ⟨hr1, hr2⟩, hp1, hp2⟩) as e w2 ⟨rfl, hb2⟩
    have e0 := hb2.cell d0
    clear d0 d1 d2
    go_wp2_with fail
    refine Stab.wp_region_lex Ext (Ext _) (fun _ => True) (by kernel_rfl) (by kernel_rfl) (fun _ _ h => h) (fun _ _ h k => Ext.trans h k) (fun _ _ _ _ => trivial) ((Ext.refl _).drew) trivial ?_
    simp only [Stab.zipL, Nat.reduceAdd]
    repeat (first
      | (refine Stab.wpX_val rfl rfl ?_; apply Exists.intro; refine ⟨fun wx hC _ => ?_, ?_⟩; (have f0 := hC.cell (((((Ext.refl _).alloc _).alloc _)).cell e0); obtain ⟨hc, hf⟩ := bcell hC; go_simp; (try simp (disch := omega) only [↓IntWalk.iteOmega, Stab.yieldsUpon_value, IntWalk.rem_in, IntWalk.i64_quo, IntWalk.i64_in]); exact ⟨Ext.refl _, rfl⟩); simp only [Act.put, List.setIfInBounds_toArray, List.set_cons_zero, List.set_cons_succ])
      | (refine Stab.wpX_call1 rfl rfl (fun _ _ _ _ => trivial) ?_; apply Exists.intro; refine ⟨fun wx hC _ _ => ?_, ?_⟩; (go_simp; refine ⟨rfl, ?_⟩; refine (at_any _ _ _ _ _ _ (by omega) (by omega) (by omega) (by omega) (by omega) (by omega) (by omega) (by omega)).mono ?_; rintro e w9 ⟨rfl, hb9⟩; (first | exact ⟨hb9, rfl, trivial⟩ | exact ⟨hb9, rfl⟩)); simp only [Act.put, List.setIfInBounds_toArray, List.set_cons_zero, List.set_cons_succ]))
    refine Stab.wpX_end fun w8 hC8 _ _ => ?_
    go_wp2
    go_ret
    exact ⟨by rw [hv.out]; rfl, (((Ext.refl _).alloc _).trans hb).trans (hb2.trans ((((Ext.refl _).alloc _).alloc _).trans hC8))⟩

set_option maxHeartbeats 1000000 in
theorem record_any (s r p i : Int) (w : World) :
    Calls Try.prog 10 #[.agg #[.int .i64 s, .int .i64 r, .int .i64 p], .int .i64 i] w fun e w' => e = .returned (.int .i64 (recordF s r p i)) ∧ Ext w w' := by
  cases h : rightB s r p && inB i 1 1099511627776 with
  | false =>
    have hv : Hid (recordF s r p i = -1) := by show _ = _; simp [recordF, h]
    have hv2 : segF s r p i = -1 := by simp [segF, h]
    go_enter Try.func10, Try.ntmps10
    go_wp2_with fail
    go_call (seg_any s r p i) as e w1 ⟨rfl, hb⟩
    go_wp2
    go_ret
    exact ⟨by rw [hv.out]; rfl, ((Ext.refl _).alloc _).trans hb⟩
  | true =>
    obtain ⟨h1, h2⟩ := Bool.and_eq_true_iff.1 h
    obtain ⟨hi1, hi2⟩ := inB_true.1 h2
    obtain ⟨⟨hs1, hs2⟩, ⟨hr1, hr2⟩, hp1, hp2⟩ := rightB_true.1 h1
    have hd := IntWalk.tdiv_le (i - 1) r (by omega) (by omega)
    have hgs : Hid (segF s r p i = (i - 1) / r) := by show _ = _; simp [segF, h]
    have hv : Hid (recordF s r p i = slotF s r p (segF s r p i) (1 + (i - 1) % r)) := by
      show _ = _
      have : inB ((i - 1) / r) 0 1099511627776 = true := inB_true.2 (by omega)
      rw [hgs.out]; simp [recordF, slotF, h1, h2, this]
    have hmod1 : 0 ≤ (i - 1) % r := Int.emod_nonneg _ (by omega)
    have hmod2 : (i - 1) % r < r := Int.emod_lt_of_pos _ (by omega)
    have hge : ¬ segF s r p i < 0 := by rw [hgs.out]; omega
    clear h h1 h2 hgs
    go_enter Try.func10, Try.ntmps10
    go_wp2_with fail
    have c0 : (w.alloc (.cells #[.int .i64 s, .int .i64 r, .int .i64 p] 23)).cell? ⟨w.heap.size, 0, none⟩ = some (.int .i64 s) := by simp [go_sem]
    have c1 : (w.alloc (.cells #[.int .i64 s, .int .i64 r, .int .i64 p] 23)).cell? ⟨w.heap.size, 1, none⟩ = some (.int .i64 r) := by simp [go_sem]
    have c2 : (w.alloc (.cells #[.int .i64 s, .int .i64 r, .int .i64 p] 23)).cell? ⟨w.heap.size, 2, none⟩ = some (.int .i64 p) := by simp [go_sem]
    go_call (seg_any s r p i) as e w1 ⟨rfl, hb⟩
    have d0 := hb.cell c0
    have d1 := hb.cell c1
    have d2 := hb.cell c2
    clear c0 c1 c2
    go_wp2_with fail
    refine Stab.wp_region_lex Ext (Ext _) (fun _ => True) (by kernel_rfl) (by kernel_rfl) (fun _ _ h => h) (fun _ _ h k => Ext.trans h k) (fun _ _ _ _ => trivial) ((Ext.refl _).drew) trivial ?_
    simp only [Stab.zipL, Nat.reduceAdd]
    repeat (first
      | (refine Stab.wpX_val rfl rfl ?_; apply Exists.intro; refine ⟨fun wx hC _ => ?_, ?_⟩; (have f0 := hC.cell d0; have f1 := hC.cell d1; have f2 := hC.cell d2; go_simp; (try simp (disch := omega) only [↓IntWalk.iteOmega, Stab.yieldsUpon_value, IntWalk.rem_in, IntWalk.i64_quo, IntWalk.i64_in]); exact ⟨Ext.refl _, rfl⟩); simp only [Act.put, List.setIfInBounds_toArray, List.set_cons_zero, List.set_cons_succ])
      | (refine Stab.wpX_call1 rfl rfl (fun _ _ _ _ => trivial) ?_; apply Exists.intro; refine ⟨fun wx hC _ _ => ?_, ?_⟩; (go_simp; refine ⟨rfl, ?_⟩; refine (in_any _ _ _ _ _ _ (fun _ => by omega)).mono ?_; rintro e w9 ⟨rfl, hb9⟩; (first | exact ⟨hb9, rfl, trivial⟩ | exact ⟨hb9, rfl⟩)); simp only [Act.put, List.setIfInBounds_toArray, List.set_cons_zero, List.set_cons_succ]))
    refine Stab.wpX_end fun w8 hC8 _ _ => ?_
    go_wp2
    go_ret
    exact ⟨by rw [hv.out]; rfl, (((Ext.refl _).alloc _).trans hb).trans hC8⟩

set_option maxHeartbeats 400000 in
theorem head_any (s r p g : Int) (w : World) :
    Calls Try.prog 11 #[.agg #[.int .i64 s, .int .i64 r, .int .i64 p], .int .i64 g] w fun e w' => e = .returned (.int .i64 (slotF s r p g 0)) ∧ Ext w w' := by
  go_enter Try.func11, Try.ntmps11
  go_wp2_with fail
  go_call (in_any s r p g 0 _ (fun _ => by omega)) as e w1 ⟨rfl, hb⟩
  go_wp2
  go_ret
  exact ⟨rfl, ((Ext.refl _).alloc _).trans hb⟩

set_option maxHeartbeats 400000 in
theorem foot_any (s r p g : Int) (w : World) :
    Calls Try.prog 12 #[.agg #[.int .i64 s, .int .i64 r, .int .i64 p], .int .i64 g] w fun e w' => e = .returned (.int .i64 (slotF s r p g (r + 1))) ∧ Ext w w' := by
  cases h : rightB s r p with
  | false =>
    have hv : Hid (∀ k, slotF s r p g k = -1) := by show ∀ k, _ = _; simp [slotF, h]
    have H := Lib.hid h
    clear h
    go_enter Try.func12, Try.ntmps12
    go_wp2_with fail
    go_call (in_any s r p g (wrap64 (r + 1)) _ (fun h => by rw [H.out] at h; cases h)) as e w1 ⟨rfl, hb⟩
    go_wp2
    go_ret
    exact ⟨by rw [hv.out]; simp [go_sem, hv.out], ((Ext.refl _).alloc _).trans hb⟩
  | true =>
    obtain ⟨⟨hs1, hs2⟩, ⟨hr1, hr2⟩, hp1, hp2⟩ := rightB_true.1 h
    clear h
    go_enter Try.func12, Try.ntmps12
    go_wp2_with fail
    go_call (in_any s r p g (r + 1) _ (fun _ => by omega)) as e w1 ⟨rfl, hb⟩
    go_wp2
    go_ret
    exact ⟨rfl, ((Ext.refl _).alloc _).trans hb⟩

set_option maxHeartbeats 400000 in
theorem snap_any (s r p a : Int) (w : World) :
    Calls Try.prog 24 #[.agg #[.int .i64 s, .int .i64 r, .int .i64 p], .int .i64 a] w fun e w' => e = .returned (.int .i64 (snapF s r p a)) ∧ Ext w w' := by
  cases h : rightB s r p with
  | false =>
    have hv : Hid (snapF s r p a = -1) := by show _ = _; simp [snapF, h]
    go_enter Try.func24, Try.ntmps24
    go_wp2_with fail
    go_call (right_any s r p) as e w1 ⟨rfl, hb⟩
    go_wp2
    go_ret
    exact ⟨by rw [hv.out]; rfl, ((Ext.refl _).alloc _).trans hb⟩
  | true =>
    obtain ⟨⟨hs1, hs2⟩, ⟨hr1, hr2⟩, hp1, hp2⟩ := rightB_true.1 h
    cases hi : inB a 0 1 with
    | false =>
      have hv : Hid (snapF s r p a = -1) := by show _ = _; simp [snapF, h, hi]
      go_enter Try.func24, Try.ntmps24
      go_wp2_with fail
      go_call (right_any s r p) as e w1 ⟨rfl, hb⟩
      go_wp2_with fail
      go_call (win1 a 0 1) as e w2 ⟨rfl, hb2⟩
      go_wp2
      go_ret
      exact ⟨by rw [hv.out]; rfl, (((Ext.refl _).alloc _).trans hb).trans (((Ext.refl _).alloc _).trans hb2)⟩
    | true =>
      obtain ⟨hi1, hi2⟩ := inB_true.1 hi
      obtain ⟨hm1, hm2⟩ := mulB (a := s) (b := r + 2) (A := 16) (B := 34) (by omega) (by omega) (by omega) (by omega)
      have hv : Hid (snapF s r p a = 6 + s * (r + 2) + a * (p + 1)) := by show _ = _; simp [snapF, h, hi]
      go_enter Try.func24, Try.ntmps24
      go_wp2_with fail
      have c0 : (w.alloc (.cells #[.int .i64 s, .int .i64 r, .int .i64 p] 23)).cell? ⟨w.heap.size, 0, none⟩ = some (.int .i64 s) := by simp [go_sem]
      have c1 : (w.alloc (.cells #[.int .i64 s, .int .i64 r, .int .i64 p] 23)).cell? ⟨w.heap.size, 1, none⟩ = some (.int .i64 r) := by simp [go_sem]
      have c2 : (w.alloc (.cells #[.int .i64 s, .int .i64 r, .int .i64 p] 23)).cell? ⟨w.heap.size, 2, none⟩ = some (.int .i64 p) := by simp [go_sem]
      go_call (right_any s r p) as e w1 ⟨rfl, hb⟩
      have d0 := hb.cell c0
      have d1 := hb.cell c1
      have d2 := hb.cell c2
      clear c0 c1 c2
      go_wp2_with fail
      go_call (win1 a 0 1) as e w2 ⟨rfl, hb2⟩
      have e0 := hb2.cell (((Ext.refl _).alloc _).cell d0)
      have e1 := hb2.cell (((Ext.refl _).alloc _).cell d1)
      have e2 := hb2.cell (((Ext.refl _).alloc _).cell d2)
      clear d0 d1 d2
      go_wp2_with fail
      go_call (regions_any s r p _ ⟨⟨hs1, hs2⟩, ⟨hr1, hr2⟩, hp1, hp2⟩) as e w3 ⟨rfl, hb3⟩
      clear e0 e1 e2
      go_wp2_with fail
      go_call (at_any (6 + s * (r + 2)) 2 (p + 1) a 0 _ (by omega) (by omega) (by omega) (by omega) (by omega) (by omega) (by omega) (by omega)) as e w4 ⟨rfl, hb4⟩
      go_wp2
      go_ret
      exact ⟨by rw [hv.out]; rfl, (((Ext.refl _).alloc _).trans hb).trans ((((Ext.refl _).alloc _).trans hb2).trans (hb3.trans ((((Ext.refl _).alloc _).alloc _).trans hb4)))⟩

set_option maxHeartbeats 400000 in
theorem piece_any (s r p a k : Int) (w : World) :
    Calls Try.prog 26 #[.agg #[.int .i64 s, .int .i64 r, .int .i64 p], .int .i64 a, .int .i64 k] w fun e w' => e = .returned (.int .i64 (pieceF s r p a k)) ∧ Ext w w' := by
  cases h : rightB s r p && inB a 0 1 with
  | false =>
    have hv : Hid (pieceF s r p a k = -1) := by show _ = _; simp [pieceF, h]
    have hv2 : snapF s r p a = -1 := by simp [snapF, h]
    go_enter Try.func26, Try.ntmps26
    go_wp2_with fail
    go_call (snap_any s r p a) as e w1 ⟨rfl, hb⟩
    go_wp2
    go_ret
    exact ⟨by rw [hv.out]; rfl, ((Ext.refl _).alloc _).trans hb⟩
  | true =>
    have hv2 : Hid (snapF s r p a = 6 + s * (r + 2) + a * (p + 1)) := by show _ = _; simp [snapF, h]
    obtain ⟨h1, h2⟩ := Bool.and_eq_true_iff.1 h
    obtain ⟨hi1, hi2⟩ := inB_true.1 h2
    obtain ⟨⟨hs1, hs2⟩, ⟨hr1, hr2⟩, hp1, hp2⟩ := rightB_true.1 h1
    obtain ⟨hm1, hm2⟩ := mulB (a := s) (b := r + 2) (A := 16) (B := 34) (by omega) (by omega) (by omega) (by omega)
    obtain ⟨hm3, hm4⟩ := mulB (a := a) (b := p + 1) (A := 1) (B := 49) (by omega) (by omega) (by omega) (by omega)
    have hsn1 : 0 ≤ snapF s r p a := by rw [hv2.out]; omega
    have hsn2 : snapF s r p a ≤ 2000 := by rw [hv2.out]; omega
    cases hk : inB k 0 (p - 1) with
    | false =>
      have hv : Hid (pieceF s r p a k = -1) := by show _ = _; simp [pieceF, hk]
      clear h h1 h2
      go_enter Try.func26, Try.ntmps26
      go_wp2_with fail
      have c2 : (w.alloc (.cells #[.int .i64 s, .int .i64 r, .int .i64 p] 23)).cell? ⟨w.heap.size, 2, none⟩ = some (.int .i64 p) := by simp [go_sem]
      go_call (snap_any s r p a) as e w1 ⟨rfl, hb⟩
      have d2 := hb.cell c2
      clear c2
      go_wp2_with fail
      go_call (win1 k 0 (p - 1)) as e w2 ⟨rfl, hb2⟩
      go_wp2
      go_ret
      exact ⟨by rw [hv.out]; rfl, (((Ext.refl _).alloc _).trans hb).trans (((Ext.refl _).alloc _).trans hb2)⟩
    | true =>
      obtain ⟨hk1, hk2⟩ := inB_true.1 hk
      have hv : Hid (pieceF s r p a k = snapF s r p a + 1 + k) := by show _ = _; rw [hv2.out]; simp [pieceF, hk, h]
      clear h h1 h2
      go_enter Try.func26, Try.ntmps26
      go_wp2_with fail
      have c2 : (w.alloc (.cells #[.int .i64 s, .int .i64 r, .int .i64 p] 23)).cell? ⟨w.heap.size, 2, none⟩ = some (.int .i64 p) := by simp [go_sem]
      go_call (snap_any s r p a) as e w1 ⟨rfl, hb⟩
      have d2 := hb.cell c2
      clear c2
      go_wp2_with fail
      go_call (win1 k 0 (p - 1)) as e w2 ⟨rfl, hb2⟩
      go_wp2
      go_ret
      exact ⟨by rw [hv.out]; rfl, (((Ext.refl _).alloc _).trans hb).trans (((Ext.refl _).alloc _).trans hb2)⟩

end Go.Proofs.Ytbknabgimjkcoaa
