/-
  The kit's marks; LentInts, LentBytes, LentLimbs, KeptInts, KeptBytes, KeptLimbs.
-/
import Derived.Test.YtcapapnhlkmeaaaGreatDoorM14
namespace Go.Proofs.YtcapapnhlkmeaaaGreatDoor
open Go.RowKit

theorem mark_any (k i : Nat) (w : World) (hk : k ≤ 1000000) (hi : i ≤ 1000000000000) :
    Calls Tryz.prog 105 #[.int .i64 k, .int .i64 i] w fun e w' => e = .returned (.int .i64 (markI k i)) ∧ w = w' := by
  go_enter Tryz.func105, Tryz.ntmps105
  go_wp2
  go_ret
  exact ⟨rfl, rfl⟩

theorem markByte_any (k i : Nat) (w : World) (hk : k ≤ 1000000) (hi : i ≤ 1000000000000) :
    Calls Tryz.prog 55 #[.int .i64 k, .int .i64 i] w fun e w' => e = .returned (.int .u8 (markB k i)) ∧ w = w' := by
  have hm1 : 0 ≤ markI k i := by unfold markI; omega
  have hm2 : markI k i ≤ 3000000000000 := by unfold markI; omega
  go_enter Tryz.func55, Tryz.ntmps55
  go_wp2_with (go_at_call 105; refine (mark_any _ _ _ (by omega) (by omega)).mono ?_; rintro e w' ⟨rfl, rfl⟩)
  go_ret
  exact ⟨rfl, rfl⟩

theorem Tryz.infoELimbs : (Tryz.prog.info? 141).map (fun i => (i.zero, i.size, i.bytes)) = some (some (.int .u32 0), 1, 4) := by kernel_rfl
theorem mk0Limbs (n : Nat) (hn : n ≤ 1000000000) (w : World) : (Instr.makeSlice 29 (.int .i64 0) (.int .i64 ((n : Int) + 12))).run Tryz.prog w = .ok (.slice (some ⟨w.heap.size, 0, none⟩) 0 (n + 12)) (w.alloc (.cells (madeCells #[.int .u32 0] (n + 12)) 141)) := by
  obtain ⟨i0, hi, hz0, hz1, hz2⟩ := info_parts Tryz.infoELimbs
  exact run_mk0 (P := Tryz.prog) 29 141 i0 _ Tryz.underlying29 hi hz0 hz1 0 (n + 12) ((n : Int) + 12) (by omega) (by omega) (by omega) (by omega) w
theorem appendLimbs {ops : Array Oper} {rest : List Oper} {o : Oper} {a : Act} {Q : Exit → Act → World → Prop} (w : World) (hgd : o.guard = none) (s x : Operand)
    (ho : o.op = .call { callee := .builtin .append, args := #[s, x], argTypes := #[29, 29] })
    (B : Nat) (A : Option Addr) (n c : Nat) (xs : List Int) (hs : a.eval s = .slice A n c) (hn : n = xs.length) (hown : Own w B 141 A c (xs.map (.int .u32)))
    (D : Option Addr) (m cc : Nat) (news : List Int) (hx : a.eval x = .slice D m cc) (hm : m = news.length) (hr : Rd w D (news.map (.int .u32)))
    (h63 : xs.length + news.length ≤ 10000000000000) (hbase : B ≤ w.heap.size)
    (h : ∀ A' c' m' w', m' = (xs ++ news).length → Own w' B 141 A' c' ((xs ++ news).map (.int .u32)) → Fr (blk A) w w' → (∀ i, blk A' i → blk A i ∨ w.heap.size ≤ i) → wpList Tryz.prog ops Q rest (a.put o.dst (.slice A' m' c')) w') : wpList Tryz.prog ops Q (o :: rest) a w := by
  obtain ⟨i0, hi, hz0, hz1, hz2⟩ := info_parts Tryz.infoELimbs
  refine wpList_append_rd w hgd s x 29 ho 141 i0 _ 4 Tryz.underlying29 hi hz0 hz1 hz2 rfl B A n c (xs.map (.int .u32)) hs (by simpa using hn) hown D m cc (news.map (.int .u32)) hx (by simpa using hm) hr (one_int .u32 news) (by unfold maxLen; simp; omega) (by simp; omega) hbase ?_
  intro A' c' w' h1 h2 h3
  exact h A' c' _ w' (by simp) (by rw [List.map_append]; exact h1) h2 h3

set_option maxHeartbeats 400000 in
theorem lentLimbs_any (A : Option Addr) (c : Nat) (zs : List Int) (w : World) (hA : Rd w A (zs.map (.int .u32))) (hz : zs.length ≤ 1000000000) :
    Calls Tryz.prog 54 #[.slice A zs.length c] w (Lent .u32 (markI 1) zs w) := by
  have hmk := mk0Limbs zs.length hz
  have hm0 := Own.made w w.heap.size 141 (.int .u32 0) (zs.length + 12) (Nat.le_refl _) (by omega)
  go_enter Tryz.func54, Tryz.ntmps54
  go_wp2_with (at_builtin; refine appendLimbs _ rfl _ _ rfl w.heap.size _ _ _ [] rfl rfl hm0 _ _ _ zs rfl rfl (hA.ext ((Ext.refl w).alloc _)) (by simp; omega) (by simp) ?_; intro A1 c1 m1 w1 hm1 hown hfr _; have hE1 : Ext w w1 := own_fresh hm0 ((Ext.refl w).alloc _) hfr; have HM1 := Lib.hid hm1; clear hm1 hfr hm0)
  clear hmk
  go_loopw [3, 4] (fun v i wr => LentRel .u32 141 (markI 1) zs w v i wr) (fun _ i _ => 12 - (intOf i).toNat)
  case atStart => exact ⟨0, _, _, _, by omega, rfl, rfl, by simpa using HM1.out, by simpa [mks] using hown, hE1⟩
  case round =>
    clear hown hE1 HM1
    obtain ⟨k, m, A2, c2, hk, rfl, rfl, hm, hown, hE⟩ := hrel
    have HM := Lib.hid hm
    clear hm
    by_cases hlt : k < 12
    · have hw32 : IntKind.u32.wrap (markI 1 k) = markI 1 k := IntWalk.u32_in _ (by unfold markI; omega)
      go_wp2_with (first | (go_at_call 105; refine (mark_any 1 k _ (by omega) (by omega)).mono ?_; rintro e w' ⟨rfl, rfl⟩) | (at_builtin; refine appendLimbs _ rfl _ _ rfl w.heap.size _ _ _ (zs ++ mks (markI 1) k) rfl (by rw [HM.out]; simp [mks_length]) (hown.ext ((Ext.refl _).alloc _)) _ _ _ [markI 1 k] rfl rfl (rd_one _ _ _) (by simp [mks_length]; omega) (by have := hE.sz; simp; omega) ?_; intro A1 c1 m1 w1 hm1 hown1 hfr _; have HM1 := Lib.hid hm1; have hE1 : Ext w w1 := own_fresh (hown.ext ((Ext.refl _).alloc _)) (hE.alloc _) hfr; have hown2 : Own w1 w.heap.size 141 A1 c1 ((zs ++ mks (markI 1) (k + 1)).map (Value.int .u32)) := (by rw [mks_succ, ← List.append_assoc]; exact hown1); clear hown1 hfr hm1))
      exact ⟨⟨k + 1, _, _, _, by omega, by go_num, rfl, by rw [HM1.out]; simp [mks_length, Nat.add_assoc], hown2, hE1⟩, by simp [intOf]; omega⟩
    · obtain rfl : k = 12 := by omega
      obtain ⟨g, rfl⟩ := hown.some_ (by simp [mks_length])
      have hcap := hown.cap
      have hc1 : zs.length + 12 ≤ c2 := by simpa [mks_length] using hcap.1
      have hc2 := Lib.hid hcap.2
      clear hcap
      obtain rfl := HM.out
      go_wp2
      go_ret
      exact ⟨g, c2, rfl, hc1, hc2.out, (hown.lt (i := g) rfl).1, hown.rd, hE⟩

def KeptRelLimbs (n : Nat) (w : World) (i : Value) (wr : World) : Prop := ∃ k : Nat, k ≤ n + 12 ∧ i = .int .i64 k ∧ Ext w wr
set_option maxHeartbeats 400000 in
theorem keptLimbs_any (g : Nat) (A : Option Addr) (c d : Nat) (zs : List Int) (w : World) (hg : Rd w (some ⟨g, 0, none⟩) ((zs ++ mks (markI 1) 12).map (Value.int .u32))) (hA : Rd w A (zs.map (.int .u32))) (hz : zs.length ≤ 1000000000) (hc : zs.length + 12 ≤ c) :
    Calls Tryz.prog 89 #[.slice (some ⟨g, 0, none⟩) zs.length c, .slice A zs.length d] w fun e w' => e = .returned (.bool true) ∧ Ext w w' := by
  have hne : ((zs.length : Int) != (zs.length : Int)) = false := by simp
  go_enter Tryz.func89, Tryz.ntmps89
  go_wp2
  go_loopw [6] (fun i wr => KeptRelLimbs zs.length w i wr) (fun i _ => zs.length + 12 - (intOf i).toNat)
  case atStart => exact ⟨0, Nat.zero_le _, rfl, Ext.refl _⟩
  case round =>
    obtain ⟨k, hk, rfl, hE⟩ := hrel
    by_cases hlt : k < zs.length + 12
    · obtain ⟨ad, x, had, h1, hx1⟩ := (hg.ext hE).int (i := k) (by simp [mks_length]; omega)
      injection had with had
      subst had
      rw [add_lit', Nat.zero_add] at h1
      by_cases hin : k < zs.length
      · obtain ⟨ad2, y, rfl, h2, hy1⟩ := (hA.ext hE).int hin
        rw [List.getElem?_append_left hin, hy1] at hx1
        injection hx1 with hx1
        subst hx1
        have hd1 : decide (zs.length ≤ k) = false := by simp; omega
        clear hy1
        go_wp2
        go_quiet (fail)
        go_wp2
        exact ⟨⟨k + 1, by omega, by go_num, hE.drewN _⟩, by simp [intOf]; omega⟩
      · rw [List.getElem?_append_right (by omega), mks_get _ (by omega)] at hx1
        injection hx1 with hx1
        subst hx1
        have hd1 : decide (k < zs.length) = false := by simp; omega
        have hd2 : decide (zs.length ≤ k) = true := by simp; omega
        have hw32 : IntKind.u32.wrap (markI 1 (k - zs.length)) = markI 1 (k - zs.length) := IntWalk.u32_in _ (by unfold markI; omega)
        have hw1 : IntKind.i64.wrap ((k : Int) - zs.length) = ((k - zs.length : Nat) : Int) := by rw [IntWalk.i64_in _ (by omega)]; omega
        go_wp2
        go_quiet ((go_at_call 105; exact Calls.quiet_of_same ((mark_any 1 (k - zs.length) _ (by omega) (by omega)).mono fun _ _ h => ⟨h.1, h.2.symm⟩)))
        go_wp2
        exact ⟨⟨k + 1, by omega, by go_num, hE.drewN _⟩, by simp [intOf]; omega⟩
    · obtain rfl : k = zs.length + 12 := by omega
      go_wp2
      go_ret
      exact ⟨rfl, hE⟩

set_option maxHeartbeats 400000 in
theorem lentInts_any (A : Option Addr) (c : Nat) (zs : List Int) (w : World) (hA : Rd w A (zs.map (.int .i64))) (hz : zs.length ≤ 1000000000) :
    Calls Tryz.prog 53 #[.slice A zs.length c] w (Lent .i64 (markI 1) zs w) := by
  have hmk := mk0Ints zs.length hz
  have hm0 := Own.made w w.heap.size 3 (.int .i64 0) (zs.length + 12) (Nat.le_refl _) (by omega)
  go_enter Tryz.func53, Tryz.ntmps53
  go_wp2_with (at_builtin; refine appendInts _ rfl _ _ rfl w.heap.size _ _ _ [] rfl rfl hm0 _ _ _ zs rfl rfl (hA.ext ((Ext.refl w).alloc _)) (by simp; omega) (by simp) ?_; intro A1 c1 m1 w1 hm1 hown hfr _; have hE1 : Ext w w1 := own_fresh hm0 ((Ext.refl w).alloc _) hfr; have HM1 := Lib.hid hm1; clear hm1 hfr hm0)
  clear hmk
  go_loopw [3, 4] (fun v i wr => LentRel .i64 3 (markI 1) zs w v i wr) (fun _ i _ => 12 - (intOf i).toNat)
  case atStart => exact ⟨0, _, _, _, by omega, rfl, rfl, by simpa using HM1.out, by simpa [mks] using hown, hE1⟩
  case round =>
    clear hown hE1 HM1
    obtain ⟨k, m, A2, c2, hk, rfl, rfl, hm, hown, hE⟩ := hrel
    have HM := Lib.hid hm
    clear hm
    by_cases hlt : k < 12
    · go_wp2_with (first | (go_at_call 105; refine (mark_any 1 k _ (by omega) (by omega)).mono ?_; rintro e w' ⟨rfl, rfl⟩) | (at_builtin; refine appendInts _ rfl _ _ rfl w.heap.size _ _ _ (zs ++ mks (markI 1) k) rfl (by rw [HM.out]; simp [mks_length]) (hown.ext ((Ext.refl _).alloc _)) _ _ _ [markI 1 k] rfl rfl (rd_one _ _ _) (by simp [mks_length]; omega) (by have := hE.sz; simp; omega) ?_; intro A1 c1 m1 w1 hm1 hown1 hfr _; have HM1 := Lib.hid hm1; have hE1 : Ext w w1 := own_fresh (hown.ext ((Ext.refl _).alloc _)) (hE.alloc _) hfr; have hown2 : Own w1 w.heap.size 3 A1 c1 ((zs ++ mks (markI 1) (k + 1)).map (Value.int .i64)) := (by rw [mks_succ, ← List.append_assoc]; exact hown1); clear hown1 hfr hm1))
      exact ⟨⟨k + 1, _, _, _, by omega, by go_num, rfl, by rw [HM1.out]; simp [mks_length, Nat.add_assoc], hown2, hE1⟩, by simp [intOf]; omega⟩
    · obtain rfl : k = 12 := by omega
      obtain ⟨g, rfl⟩ := hown.some_ (by simp [mks_length])
      have hcap := hown.cap
      have hc1 : zs.length + 12 ≤ c2 := by simpa [mks_length] using hcap.1
      have hc2 := Lib.hid hcap.2
      clear hcap
      obtain rfl := HM.out
      go_wp2
      go_ret
      exact ⟨g, c2, rfl, hc1, hc2.out, (hown.lt (i := g) rfl).1, hown.rd, hE⟩

set_option maxHeartbeats 400000 in
theorem keptInts_any (g : Nat) (A : Option Addr) (c d : Nat) (zs : List Int) (w : World) (hg : Rd w (some ⟨g, 0, none⟩) ((zs ++ mks (markI 1) 12).map (Value.int .i64))) (hA : Rd w A (zs.map (.int .i64))) (hz : zs.length ≤ 1000000000) (hc : zs.length + 12 ≤ c) :
    Calls Tryz.prog 88 #[.slice (some ⟨g, 0, none⟩) zs.length c, .slice A zs.length d] w fun e w' => e = .returned (.bool true) ∧ Ext w w' := by
  have hne : ((zs.length : Int) != (zs.length : Int)) = false := by simp
  go_enter Tryz.func88, Tryz.ntmps88
  go_wp2
  go_loopw [6] (fun i wr => KeptRelInts zs.length w i wr) (fun i _ => zs.length + 12 - (intOf i).toNat)
  case atStart => exact ⟨0, Nat.zero_le _, rfl, Ext.refl _⟩
  case round =>
    obtain ⟨k, hk, rfl, hE⟩ := hrel
    by_cases hlt : k < zs.length + 12
    · obtain ⟨ad, x, had, h1, hx1⟩ := (hg.ext hE).int (i := k) (by simp [mks_length]; omega)
      injection had with had
      subst had
      rw [add_lit', Nat.zero_add] at h1
      by_cases hin : k < zs.length
      · obtain ⟨ad2, y, rfl, h2, hy1⟩ := (hA.ext hE).int hin
        rw [List.getElem?_append_left hin, hy1] at hx1
        injection hx1 with hx1
        subst hx1
        have hd1 : decide (zs.length ≤ k) = false := by simp; omega
        clear hy1
        go_wp2
        go_quiet (fail)
        go_wp2
        exact ⟨⟨k + 1, by omega, by go_num, hE.drewN _⟩, by simp [intOf]; omega⟩
      · rw [List.getElem?_append_right (by omega), mks_get _ (by omega)] at hx1
        injection hx1 with hx1
        subst hx1
        have hd1 : decide (k < zs.length) = false := by simp; omega
        have hd2 : decide (zs.length ≤ k) = true := by simp; omega
        have hw1 : IntKind.i64.wrap ((k : Int) - zs.length) = ((k - zs.length : Nat) : Int) := by rw [IntWalk.i64_in _ (by omega)]; omega
        go_wp2
        go_quiet ((go_at_call 105; exact Calls.quiet_of_same ((mark_any 1 (k - zs.length) _ (by omega) (by omega)).mono fun _ _ h => ⟨h.1, h.2.symm⟩)))
        go_wp2
        exact ⟨⟨k + 1, by omega, by go_num, hE.drewN _⟩, by simp [intOf]; omega⟩
    · obtain rfl : k = zs.length + 12 := by omega
      go_wp2
      go_ret
      exact ⟨rfl, hE⟩

set_option maxHeartbeats 400000 in
theorem lentBytes_any (A : Option Addr) (c : Nat) (zs : List Int) (w : World) (hA : Rd w A (zs.map (.int .u8))) (hz : zs.length ≤ 1000000000) :
    Calls Tryz.prog 18 #[.slice A zs.length c] w (Lent .u8 (markB 1) zs w) := by
  have hmk := mk0Bytes zs.length hz
  have hm0 := Own.made w w.heap.size 5 (.int .u8 0) (zs.length + 12) (Nat.le_refl _) (by omega)
  go_enter Tryz.func18, Tryz.ntmps18
  go_wp2_with (at_builtin; refine appendBytes _ rfl _ _ rfl w.heap.size _ _ _ [] rfl rfl hm0 _ _ _ zs rfl rfl (hA.ext ((Ext.refl w).alloc _)) (by simp; omega) (by simp) ?_; intro A1 c1 m1 w1 hm1 hown hfr _; have hE1 : Ext w w1 := own_fresh hm0 ((Ext.refl w).alloc _) hfr; have HM1 := Lib.hid hm1; clear hm1 hfr hm0)
  clear hmk
  go_loopw [3, 4] (fun v i wr => LentRel .u8 5 (markB 1) zs w v i wr) (fun _ i _ => 12 - (intOf i).toNat)
  case atStart => exact ⟨0, _, _, _, by omega, rfl, rfl, by simpa using HM1.out, by simpa [mks] using hown, hE1⟩
  case round =>
    clear hown hE1 HM1
    obtain ⟨k, m, A2, c2, hk, rfl, rfl, hm, hown, hE⟩ := hrel
    have HM := Lib.hid hm
    clear hm
    by_cases hlt : k < 12
    · go_wp2_with (first | (go_at_call 55; refine (markByte_any 1 k _ (by omega) (by omega)).mono ?_; rintro e w' ⟨rfl, rfl⟩) | (at_builtin; refine appendBytes _ rfl _ _ rfl w.heap.size _ _ _ (zs ++ mks (markB 1) k) rfl (by rw [HM.out]; simp [mks_length]) (hown.ext ((Ext.refl _).alloc _)) _ _ _ [markB 1 k] rfl rfl (rd_one _ _ _) (by simp [mks_length]; omega) (by have := hE.sz; simp; omega) ?_; intro A1 c1 m1 w1 hm1 hown1 hfr _; have HM1 := Lib.hid hm1; have hE1 : Ext w w1 := own_fresh (hown.ext ((Ext.refl _).alloc _)) (hE.alloc _) hfr; have hown2 : Own w1 w.heap.size 5 A1 c1 ((zs ++ mks (markB 1) (k + 1)).map (Value.int .u8)) := (by rw [mks_succ, ← List.append_assoc]; exact hown1); clear hown1 hfr hm1))
      exact ⟨⟨k + 1, _, _, _, by omega, by go_num, rfl, by rw [HM1.out]; simp [mks_length, Nat.add_assoc], hown2, hE1⟩, by simp [intOf]; omega⟩
    · obtain rfl : k = 12 := by omega
      obtain ⟨g, rfl⟩ := hown.some_ (by simp [mks_length])
      have hcap := hown.cap
      have hc1 : zs.length + 12 ≤ c2 := by simpa [mks_length] using hcap.1
      have hc2 := Lib.hid hcap.2
      clear hcap
      obtain rfl := HM.out
      go_wp2
      go_ret
      exact ⟨g, c2, rfl, hc1, hc2.out, (hown.lt (i := g) rfl).1, hown.rd, hE⟩

set_option maxHeartbeats 400000 in
theorem keptBytes_any (g : Nat) (A : Option Addr) (c d : Nat) (zs : List Int) (w : World) (hg : Rd w (some ⟨g, 0, none⟩) ((zs ++ mks (markB 1) 12).map (Value.int .u8))) (hA : Rd w A (zs.map (.int .u8))) (hz : zs.length ≤ 1000000000) (hc : zs.length + 12 ≤ c) :
    Calls Tryz.prog 47 #[.slice (some ⟨g, 0, none⟩) zs.length c, .slice A zs.length d] w fun e w' => e = .returned (.bool true) ∧ Ext w w' := by
  have hne : ((zs.length : Int) != (zs.length : Int)) = false := by simp
  go_enter Tryz.func47, Tryz.ntmps47
  go_wp2
  go_loopw [6] (fun i wr => KeptRelBytes zs.length w i wr) (fun i _ => zs.length + 12 - (intOf i).toNat)
  case atStart => exact ⟨0, Nat.zero_le _, rfl, Ext.refl _⟩
  case round =>
    obtain ⟨k, hk, rfl, hE⟩ := hrel
    by_cases hlt : k < zs.length + 12
    · obtain ⟨ad, x, had, h1, hx1⟩ := (hg.ext hE).int (i := k) (by simp [mks_length]; omega)
      injection had with had
      subst had
      rw [add_lit', Nat.zero_add] at h1
      by_cases hin : k < zs.length
      · obtain ⟨ad2, y, rfl, h2, hy1⟩ := (hA.ext hE).int hin
        rw [List.getElem?_append_left hin, hy1] at hx1
        injection hx1 with hx1
        subst hx1
        have hd1 : decide (zs.length ≤ k) = false := by simp; omega
        clear hy1
        go_wp2
        go_quiet (fail)
        go_wp2
        exact ⟨⟨k + 1, by omega, by go_num, hE.drewN _⟩, by simp [intOf]; omega⟩
      · rw [List.getElem?_append_right (by omega), mks_get _ (by omega)] at hx1
        injection hx1 with hx1
        subst hx1
        have hd1 : decide (k < zs.length) = false := by simp; omega
        have hd2 : decide (zs.length ≤ k) = true := by simp; omega
        have hw1 : IntKind.i64.wrap ((k : Int) - zs.length) = ((k - zs.length : Nat) : Int) := by rw [IntWalk.i64_in _ (by omega)]; omega
        go_wp2
        go_quiet ((go_at_call 55; exact Calls.quiet_of_same ((markByte_any 1 (k - zs.length) _ (by omega) (by omega)).mono fun _ _ h => ⟨h.1, h.2.symm⟩)))
        go_wp2
        exact ⟨⟨k + 1, by omega, by go_num, hE.drewN _⟩, by simp [intOf]; omega⟩
    · obtain rfl : k = zs.length + 12 := by omega
      go_wp2
      go_ret
      exact ⟨rfl, hE⟩
end Go.Proofs.YtcapapnhlkmeaaaGreatDoor
