import Derived.Test.YtbknabgimjkcoaaPlanI
namespace Go.Proofs.Ytbknabgimjkcoaa
open Go.RowKit

set_option maxHeartbeats 1000000 in
theorem rblocks_any (s r p : Int) (w : World) :
    Calls Try.prog 18 #[.agg #[.int .i64 s, .int .i64 r, .int .i64 p]] w fun e w' => e = .returned (.int .i64 (blocksF s r p)) ∧ Ext w w' := by
  have hv := Lib.hid (cellsF_length s r p)
  go_enter Try.func18, Try.ntmps18
  go_wp2_with fail
  go_call (cells_any s r p) as e w1 ⟨v, rfl, hx, hrow⟩
  generalize cellsF s r p = l at *
  rcases hrow with ⟨rfl, rfl⟩ | ⟨g, cap, rfl, hc⟩
  · go_wp2
    go_ret
    exact ⟨by rw [← hv.out]; rfl, ((Ext.refl _).alloc _).trans hx⟩
  · have HC := Lib.hid hc
    clear hc
    go_wp2
    go_ret
    exact ⟨by rw [← hv.out]; rfl, ((Ext.refl _).alloc _).trans hx⟩

set_option maxHeartbeats 1000000 in
theorem rseg_any (s r p i : Int) (w : World) :
    Calls Try.prog 19 #[.agg #[.int .i64 s, .int .i64 r, .int .i64 p], .int .i64 i] w fun e w' => e = .returned (.int .i64 (segF s r p i)) ∧ Ext w w' := by
  cases h : rightB s r p with
  | false =>
    have hv : Hid (segF s r p i = -1) := by show _ = _; simp [segF, h]
    go_enter Try.func19, Try.ntmps19
    go_wp2_with fail
    go_call (rright_any s r p) as e w1 ⟨rfl, hb⟩
    go_wp2
    go_ret
    exact ⟨by rw [hv.out]; rfl, ((Ext.refl _).alloc _).trans hb⟩
  | true =>
    obtain ⟨_, ⟨hr1, hr2⟩, _⟩ := rightB_true.1 h
    by_cases hlo : i < 1
    · have hv : Hid (segF s r p i = -1) := by
        have : inB i 1 1099511627776 = false := inB_false.2 (by omega)
        show _ = _; simp [segF, h, this]
      go_enter Try.func19, Try.ntmps19
      go_wp2_with fail
      go_call (rright_any s r p) as e w1 ⟨rfl, hb⟩
      go_wp2
      go_ret
      exact ⟨by rw [hv.out]; rfl, ((Ext.refl _).alloc _).trans hb⟩
    by_cases hhi : 1099511627776 < i
    · have hv : Hid (segF s r p i = -1) := by
        have : inB i 1 1099511627776 = false := inB_false.2 (by omega)
        show _ = _; simp [segF, h, this]
      go_enter Try.func19, Try.ntmps19
      go_wp2_with fail
      go_call (rright_any s r p) as e w1 ⟨rfl, hb⟩
      go_wp2
      go_ret
      exact ⟨by rw [hv.out]; rfl, ((Ext.refl _).alloc _).trans hb⟩
    · have hi1 : 1 ≤ i := by omega
      have hi2 : i ≤ 1099511627776 := by omega
      have hv : Hid (segF s r p i = (i - 1) / r) := by
        have : inB i 1 1099511627776 = true := inB_true.2 ⟨hi1, hi2⟩
        show _ = _; simp [segF, h, this]
      clear hlo hhi
      go_enter Try.func19, Try.ntmps19
      go_wp2_with fail
      have c0 : (w.alloc (.cells #[.int .i64 s, .int .i64 r, .int .i64 p] 23)).cell? ⟨w.heap.size, 0, none⟩ = some (.int .i64 s) := by simp [go_sem]
      have c1 : (w.alloc (.cells #[.int .i64 s, .int .i64 r, .int .i64 p] 23)).cell? ⟨w.heap.size, 1, none⟩ = some (.int .i64 r) := by simp [go_sem]
      have c2 : (w.alloc (.cells #[.int .i64 s, .int .i64 r, .int .i64 p] 23)).cell? ⟨w.heap.size, 2, none⟩ = some (.int .i64 p) := by simp [go_sem]
      have hE : Ext w (w.alloc (.cells #[.int .i64 s, .int .i64 r, .int .i64 p] 23)) := (Ext.refl _).alloc _
      go_call (rright_any s r p) as e w1 ⟨rfl, hb⟩
      rw [h]
      replace c0 := hb.cell c0
      replace c1 := hb.cell c1
      replace c2 := hb.cell c2
      replace hE := hE.trans hb
      clear hb
      go_wp2
      go_ret
      exact ⟨by rw [hv.out]; rfl, hE⟩

set_option maxHeartbeats 1000000 in
theorem rfirst_any (s r p i : Int) (w : World) :
    Calls Try.prog 20 #[.agg #[.int .i64 s, .int .i64 r, .int .i64 p], .int .i64 i] w fun e w' => e = .returned (.int .i64 (firstF s r p i)) ∧ Ext w w' := by
  cases h : rightB s r p with
  | false =>
    have hv : Hid (firstF s r p i = -1) := by show _ = _; simp [firstF, h]
    go_enter Try.func20, Try.ntmps20
    go_wp2_with fail
    go_call (rright_any s r p) as e w1 ⟨rfl, hb⟩
    go_wp2
    go_ret
    exact ⟨by rw [hv.out]; rfl, ((Ext.refl _).alloc _).trans hb⟩
  | true =>
    obtain ⟨_, ⟨hr1, hr2⟩, _⟩ := rightB_true.1 h
    by_cases hlo : i < 0
    · have hv : Hid (firstF s r p i = -1) := by
        have : inB i 0 1099511627776 = false := inB_false.2 (by omega)
        show _ = _; simp [firstF, h, this]
      go_enter Try.func20, Try.ntmps20
      go_wp2_with fail
      go_call (rright_any s r p) as e w1 ⟨rfl, hb⟩
      go_wp2
      go_ret
      exact ⟨by rw [hv.out]; rfl, ((Ext.refl _).alloc _).trans hb⟩
    by_cases hhi : 1099511627776 < i
    · have hv : Hid (firstF s r p i = -1) := by
        have : inB i 0 1099511627776 = false := inB_false.2 (by omega)
        show _ = _; simp [firstF, h, this]
      go_enter Try.func20, Try.ntmps20
      go_wp2_with fail
      go_call (rright_any s r p) as e w1 ⟨rfl, hb⟩
      go_wp2
      go_ret
      exact ⟨by rw [hv.out]; rfl, ((Ext.refl _).alloc _).trans hb⟩
    · have hi1 : 0 ≤ i := by omega
      have hi2 : i ≤ 1099511627776 := by omega
      have hv : Hid (firstF s r p i = i * r + 1) := by
        have : inB i 0 1099511627776 = true := inB_true.2 ⟨hi1, hi2⟩
        show _ = _; simp [firstF, h, this]
      clear hlo hhi
      have hm1 : 0 ≤ i * r := Int.mul_nonneg (by omega) (by omega)
      have hm2 : i * r ≤ 1099511627776 * 32 := Int.mul_le_mul hi2 hr2 (by omega) (by omega)
      go_enter Try.func20, Try.ntmps20
      go_wp2_with fail
      have c0 : (w.alloc (.cells #[.int .i64 s, .int .i64 r, .int .i64 p] 23)).cell? ⟨w.heap.size, 0, none⟩ = some (.int .i64 s) := by simp [go_sem]
      have c1 : (w.alloc (.cells #[.int .i64 s, .int .i64 r, .int .i64 p] 23)).cell? ⟨w.heap.size, 1, none⟩ = some (.int .i64 r) := by simp [go_sem]
      have c2 : (w.alloc (.cells #[.int .i64 s, .int .i64 r, .int .i64 p] 23)).cell? ⟨w.heap.size, 2, none⟩ = some (.int .i64 p) := by simp [go_sem]
      have hE : Ext w (w.alloc (.cells #[.int .i64 s, .int .i64 r, .int .i64 p] 23)) := (Ext.refl _).alloc _
      go_call (rright_any s r p) as e w1 ⟨rfl, hb⟩
      rw [h]
      replace c0 := hb.cell c0
      replace c1 := hb.cell c1
      replace c2 := hb.cell c2
      replace hE := hE.trans hb
      clear hb
      go_wp2
      go_ret
      exact ⟨by rw [hv.out]; rfl, hE⟩

def rrecordF (s r p i : Int) : Int := if rightB s r p && inB i 1 1099511627776 then findF (cellsF s r p) 5 ((i - 1) / r % s) ((i - 1) % r) else -1
def rslotF (s r p g k : Int) : Int := if rightB s r p && inB g 0 1099511627776 then findF (cellsF s r p) k (g % s) 0 else -1

set_option maxHeartbeats 1000000 in
theorem rrecord_any (s r p i : Int) (w : World) :
    Calls Try.prog 21 #[.agg #[.int .i64 s, .int .i64 r, .int .i64 p], .int .i64 i] w fun e w' => e = .returned (.int .i64 (rrecordF s r p i)) ∧ Ext w w' := by
  cases h : rightB s r p && inB i 1 1099511627776 with
  | false =>
    have hv : Hid (rrecordF s r p i = -1) := by show _ = _; simp [rrecordF, h]
    have hv2 : segF s r p i = -1 := by simp [segF, h]
    go_enter Try.func21, Try.ntmps21
    go_wp2_with fail
    go_call (rseg_any s r p i) as e w1 ⟨rfl, hb⟩
    go_wp2
    go_ret
    exact ⟨by rw [hv.out]; rfl, ((Ext.refl _).alloc _).trans hb⟩
  | true =>
    obtain ⟨h1, h2⟩ := Bool.and_eq_true_iff.1 h
    obtain ⟨hi1, hi2⟩ := inB_true.1 h2
    obtain ⟨⟨hs1, hs2⟩, ⟨hr1, hr2⟩, hp1, hp2⟩ := rightB_true.1 h1
    have hd := IntWalk.tdiv_le (i - 1) r (by omega) (by omega)
    have hgs : Hid (segF s r p i = (i - 1) / r) := by show _ = _; simp [segF, h]
    have hv : Hid (rrecordF s r p i = findF (cellsF s r p) 5 (segF s r p i % s) ((i - 1) % r)) := by show _ = _; rw [hgs.out]; simp [rrecordF, h]
    have hge : 0 ≤ segF s r p i := by rw [hgs.out]; omega
    clear h h1 h2 hgs
    go_enter Try.func21, Try.ntmps21
    go_wp2_with fail
    have c0 : (w.alloc (.cells #[.int .i64 s, .int .i64 r, .int .i64 p] 23)).cell? ⟨w.heap.size, 0, none⟩ = some (.int .i64 s) := by simp [go_sem]
    have c1 : (w.alloc (.cells #[.int .i64 s, .int .i64 r, .int .i64 p] 23)).cell? ⟨w.heap.size, 1, none⟩ = some (.int .i64 r) := by simp [go_sem]
    have c2 : (w.alloc (.cells #[.int .i64 s, .int .i64 r, .int .i64 p] 23)).cell? ⟨w.heap.size, 2, none⟩ = some (.int .i64 p) := by simp [go_sem]
    have hE : Ext w (w.alloc (.cells #[.int .i64 s, .int .i64 r, .int .i64 p] 23)) := (Ext.refl _).alloc _
    go_call (rseg_any s r p i) as e w1 ⟨rfl, hb⟩
    replace c0 := hb.cell c0
    replace c1 := hb.cell c1
    replace c2 := hb.cell c2
    replace hE := hE.trans hb
    clear hb
    go_wp2_with fail
    refine Stab.wp_region_lex Ext (Ext _) (fun _ => True) (by kernel_rfl) (by kernel_rfl) (fun _ _ h => h) (fun _ _ h k => Ext.trans h k) (fun _ _ _ _ => trivial) ((Ext.refl _).drew) trivial ?_
    simp only [Stab.zipL, Nat.reduceAdd]
    repeat (first
      | (refine Stab.wpX_val rfl rfl ?_; apply Exists.intro; refine ⟨fun wx hC _ => ?_, ?_⟩; (have f0 := hC.cell c0; have f1 := hC.cell c1; have f2 := hC.cell c2; go_simp; (try simp (disch := omega) only [↓IntWalk.iteOmega, Stab.yieldsUpon_value, IntWalk.rem_in, IntWalk.i64_quo, IntWalk.i64_in]); exact ⟨Ext.refl _, rfl⟩); simp only [Act.put, List.setIfInBounds_toArray, List.set_cons_zero, List.set_cons_succ])
      | (refine Stab.wpX_call1 rfl rfl (fun _ _ _ _ => trivial) ?_; apply Exists.intro; refine ⟨fun wx hC _ _ => ?_, ?_⟩; (go_simp; refine ⟨rfl, ?_⟩; refine (find_any _ _ _ _ _ _ _).mono ?_; rintro e w9 ⟨rfl, hb9⟩; (first | exact ⟨hb9, rfl, trivial⟩ | exact ⟨hb9, rfl⟩)); simp only [Act.put, List.setIfInBounds_toArray, List.set_cons_zero, List.set_cons_succ]))
    refine Stab.wpX_end fun w8 hCw8 _ _ => ?_
    go_wp2
    go_ret
    exact ⟨by rw [hv.out]; rfl, hE.trans hCw8⟩

set_option maxHeartbeats 1000000 in
theorem rend_any (s r p g k : Int) (w : World) :
    Calls Try.prog 36 #[.agg #[.int .i64 s, .int .i64 r, .int .i64 p], .int .i64 g, .int .i64 k] w fun e w' => e = .returned (.int .i64 (rslotF s r p g k)) ∧ Ext w w' := by
  cases h : rightB s r p && inB g 0 1099511627776 with
  | false =>
    have hv : Hid (rslotF s r p g k = -1) := by show _ = _; simp [rslotF, h]
    have hv2 : firstF s r p g = -1 := by simp [firstF, h]
    go_enter Try.func36, Try.ntmps36
    go_wp2_with fail
    go_call (rfirst_any s r p g) as e w1 ⟨rfl, hb⟩
    go_wp2
    go_ret
    exact ⟨by rw [hv.out]; rfl, ((Ext.refl _).alloc _).trans hb⟩
  | true =>
    have hv : Hid (rslotF s r p g k = findF (cellsF s r p) k (g % s) 0) := by show _ = _; simp [rslotF, h]
    have hv2 : Hid (firstF s r p g = g * r + 1) := by show _ = _; simp [firstF, h]
    obtain ⟨h1, h2⟩ := Bool.and_eq_true_iff.1 h
    obtain ⟨hg1, hg2⟩ := inB_true.1 h2
    obtain ⟨⟨hs1, hs2⟩, ⟨hr1, hr2⟩, hp1, hp2⟩ := rightB_true.1 h1
    have hlt : ¬ firstF s r p g < 0 := by rw [hv2.out]; have := (mulB (a := g) (b := r) (A := 1099511627776) (B := 32) (by omega) (by omega) (by omega) (by omega)).1; omega
    clear h h1 h2 hv2
    go_enter Try.func36, Try.ntmps36
    go_wp2_with fail
    have c0 : (w.alloc (.cells #[.int .i64 s, .int .i64 r, .int .i64 p] 23)).cell? ⟨w.heap.size, 0, none⟩ = some (.int .i64 s) := by simp [go_sem]
    have c1 : (w.alloc (.cells #[.int .i64 s, .int .i64 r, .int .i64 p] 23)).cell? ⟨w.heap.size, 1, none⟩ = some (.int .i64 r) := by simp [go_sem]
    have c2 : (w.alloc (.cells #[.int .i64 s, .int .i64 r, .int .i64 p] 23)).cell? ⟨w.heap.size, 2, none⟩ = some (.int .i64 p) := by simp [go_sem]
    have hE : Ext w (w.alloc (.cells #[.int .i64 s, .int .i64 r, .int .i64 p] 23)) := (Ext.refl _).alloc _
    go_call (rfirst_any s r p g) as e w1 ⟨rfl, hb⟩
    replace c0 := hb.cell c0
    replace c1 := hb.cell c1
    replace c2 := hb.cell c2
    replace hE := hE.trans hb
    clear hb
    go_wp2_with fail
    refine Stab.wp_region_lex Ext (Ext _) (fun _ => True) (by kernel_rfl) (by kernel_rfl) (fun _ _ h => h) (fun _ _ h k => Ext.trans h k) (fun _ _ _ _ => trivial) ((Ext.refl _).drew) trivial ?_
    simp only [Stab.zipL, Nat.reduceAdd]
    repeat (first
      | (refine Stab.wpX_val rfl rfl ?_; apply Exists.intro; refine ⟨fun wx hC _ => ?_, ?_⟩; (have f0 := hC.cell c0; have f1 := hC.cell c1; have f2 := hC.cell c2; go_simp; (try simp (disch := omega) only [↓IntWalk.iteOmega, Stab.yieldsUpon_value, IntWalk.rem_in, IntWalk.i64_quo, IntWalk.i64_in]); exact ⟨Ext.refl _, rfl⟩); simp only [Act.put, List.setIfInBounds_toArray, List.set_cons_zero, List.set_cons_succ])
      | (refine Stab.wpX_call1 rfl rfl (fun _ _ _ _ => trivial) ?_; apply Exists.intro; refine ⟨fun wx hC _ _ => ?_, ?_⟩; (go_simp; refine ⟨rfl, ?_⟩; refine (find_any _ _ _ _ _ _ _).mono ?_; rintro e w9 ⟨rfl, hb9⟩; (first | exact ⟨hb9, rfl, trivial⟩ | exact ⟨hb9, rfl⟩)); simp only [Act.put, List.setIfInBounds_toArray, List.set_cons_zero, List.set_cons_succ]))
    refine Stab.wpX_end fun w8 hCw8 _ _ => ?_
    go_wp2
    go_ret
    exact ⟨by rw [hv.out]; rfl, hE.trans hCw8⟩

set_option maxHeartbeats 1000000 in
theorem rhead_any (s r p g : Int) (w : World) :
    Calls Try.prog 22 #[.agg #[.int .i64 s, .int .i64 r, .int .i64 p], .int .i64 g] w fun e w' => e = .returned (.int .i64 (rslotF s r p g 4)) ∧ Ext w w' := by
  go_enter Try.func22, Try.ntmps22
  go_wp2_with fail
  go_call (rend_any s r p g 4) as e w1 ⟨rfl, hb⟩
  go_wp2
  go_ret
  exact ⟨rfl, ((Ext.refl _).alloc _).trans hb⟩

set_option maxHeartbeats 1000000 in
theorem rfoot_any (s r p g : Int) (w : World) :
    Calls Try.prog 23 #[.agg #[.int .i64 s, .int .i64 r, .int .i64 p], .int .i64 g] w fun e w' => e = .returned (.int .i64 (rslotF s r p g 6)) ∧ Ext w w' := by
  go_enter Try.func23, Try.ntmps23
  go_wp2_with fail
  go_call (rend_any s r p g 6) as e w1 ⟨rfl, hb⟩
  go_wp2
  go_ret
  exact ⟨rfl, ((Ext.refl _).alloc _).trans hb⟩

set_option maxHeartbeats 1000000 in
theorem rsnap_any (s r p a : Int) (w : World) :
    Calls Try.prog 25 #[.agg #[.int .i64 s, .int .i64 r, .int .i64 p], .int .i64 a] w fun e w' => e = .returned (.int .i64 (findF (cellsF s r p) 8 a 0)) ∧ Ext w w' := by
  go_enter Try.func25, Try.ntmps25
  go_wp2_with fail
  go_call (find_any s r p 8 a 0) as e w1 ⟨rfl, hb⟩
  go_wp2
  go_ret
  exact ⟨rfl, ((Ext.refl _).alloc _).trans hb⟩

set_option maxHeartbeats 1000000 in
theorem rpiece_any (s r p a k : Int) (w : World) :
    Calls Try.prog 27 #[.agg #[.int .i64 s, .int .i64 r, .int .i64 p], .int .i64 a, .int .i64 k] w fun e w' => e = .returned (.int .i64 (findF (cellsF s r p) 7 a k)) ∧ Ext w w' := by
  go_enter Try.func27, Try.ntmps27
  go_wp2_with fail
  go_call (find_any s r p 7 a k) as e w1 ⟨rfl, hb⟩
  go_wp2
  go_ret
  exact ⟨rfl, ((Ext.refl _).alloc _).trans hb⟩

def rwhatF (s r p b : Int) : Int × Int × Int := if b < 0 then (0, 0, 0) else match (cellsF s r p)[b.toNat]? with | some c => (c.1, c.2.1, c.2.2) | none => (0, 0, 0)

set_option maxHeartbeats 2000000 in
theorem rwhat_any (s r p b : Int) (w : World) :
    Calls Try.prog 15 #[.agg #[.int .i64 s, .int .i64 r, .int .i64 p], .int .i64 b] w fun e w' => e = .returned (.tuple #[.int .i64 (rwhatF s r p b).1, .int .i64 (rwhatF s r p b).2.1, .int .i64 (rwhatF s r p b).2.2]) ∧ Ext w w' := by
  by_cases h0 : b < 0
  · have hv : rwhatF s r p b = (0, 0, 0) := by unfold rwhatF; rw [if_pos h0]
    rw [hv]
    go_enter Try.func15, Try.ntmps15
    go_wp2_with fail
    go_call (cells_any s r p) as e w1 ⟨v, rfl, hx, hrow⟩
    clear hrow
    go_wp2
    go_ret3
    exact ⟨rfl, ((Ext.refl _).alloc _).trans hx⟩
  have hb0 : 0 ≤ b := by omega
  clear h0
  unfold rwhatF
  rw [if_neg (by omega)]
  obtain ⟨B, rfl⟩ := Int.eq_ofNat_of_zero_le hb0
  rw [Int.toNat_natCast]
  cases hB : (cellsF s r p)[B]? with
  | some c =>
    dsimp only
    have HB := Lib.hid hB
    have hle := cellsF_le s r p
    clear hB
    go_enter Try.func15, Try.ntmps15
    go_wp2_with fail
    go_call (cells_any s r p) as e w1 ⟨v, rfl, hx, hrow⟩
    obtain ⟨hlt, hce⟩ := List.getElem?_eq_some_iff.1 HB.out
    rcases hrow with ⟨rfl, hn⟩ | ⟨g, cap, rfl, hc⟩
    · exfalso; rw [hn] at hlt; simp at hlt
    · obtain ⟨g0, g1, g2⟩ := hc B hlt
      rw [hce] at g0 g1 g2
      clear hc hce HB
      generalize (cellsF s r p).length = n at *
      have hi1 : (B : Int) < (n : Int) := by omega
      have hi0 : (0 : Int) ≤ (B : Int) := by omega
      go_wp2_with fail
      go_quiet (fail)
      go_wp2
      go_ret3
      exact ⟨rfl, (((Ext.refl _).alloc _).trans hx).trans ⟨rfl, rfl, rfl, Nat.le_refl _, fun _ _ => rfl⟩⟩
  | none =>
    dsimp only
    have hlt := List.getElem?_eq_none_iff.1 hB
    clear hB
    have hle := cellsF_le s r p
    go_enter Try.func15, Try.ntmps15
    go_wp2_with fail
    go_call (cells_any s r p) as e w1 ⟨v, rfl, hx, hrow⟩
    rcases hrow with ⟨rfl, hn⟩ | ⟨g, cap, rfl, hc⟩
    · clear hn
      go_wp2
      go_ret3
      exact ⟨rfl, ((Ext.refl _).alloc _).trans hx⟩
    · clear hc
      go_wp2
      go_ret3
      exact ⟨rfl, ((Ext.refl _).alloc _).trans hx⟩

end Go.Proofs.Ytbknabgimjkcoaa
