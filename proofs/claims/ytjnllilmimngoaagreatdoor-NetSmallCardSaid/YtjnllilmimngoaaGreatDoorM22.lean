/-
  The kit's marks; LentInts, LentBytes, LentLimbs, KeptInts, KeptBytes, KeptLimbs.
  The document's entries: within, someones, ident, Of, Right, Members, Good.
-/
import Derived.Test.YtjnllilmimngoaaGreatDoorM6
namespace Go.Proofs.YtjnllilmimngoaaGreatDoor
open Go.RowKit

theorem mark_any (k i : Nat) (w : World) (hk : k ≤ 1000000) (hi : i ≤ 1000000000000) :
    Calls Tryz.prog 98 #[.int .i64 k, .int .i64 i] w fun e w' => e = .returned (.int .i64 (markI k i)) ∧ w = w' := by
  go_enter Tryz.func98, Tryz.ntmps98
  go_wp2
  go_ret
  exact ⟨rfl, rfl⟩

theorem markByte_any (k i : Nat) (w : World) (hk : k ≤ 1000000) (hi : i ≤ 1000000000000) :
    Calls Tryz.prog 58 #[.int .i64 k, .int .i64 i] w fun e w' => e = .returned (.int .u8 (markB k i)) ∧ w = w' := by
  have hm1 : 0 ≤ markI k i := by unfold markI; omega
  have hm2 : markI k i ≤ 3000000000000 := by unfold markI; omega
  go_enter Tryz.func58, Tryz.ntmps58
  go_wp2_with (go_at_call 98; refine (mark_any _ _ _ (by omega) (by omega)).mono ?_; rintro e w' ⟨rfl, rfl⟩)
  go_ret
  exact ⟨rfl, rfl⟩

theorem Tryz.infoELimbs : (Tryz.prog.info? 145).map (fun i => (i.zero, i.size, i.bytes)) = some (some (.int .u32 0), 1, 4) := by kernel_rfl
theorem mk0Limbs (n : Nat) (hn : n ≤ 1000000000) (w : World) : (Instr.makeSlice 30 (.int .i64 0) (.int .i64 ((n : Int) + 12))).run Tryz.prog w = .ok (.slice (some ⟨w.heap.size, 0, none⟩) 0 (n + 12)) (w.alloc (.cells (madeCells #[.int .u32 0] (n + 12)) 145)) := by
  obtain ⟨i0, hi, hz0, hz1, hz2⟩ := info_parts Tryz.infoELimbs
  exact run_mk0 (P := Tryz.prog) 30 145 i0 _ Tryz.underlying30 hi hz0 hz1 0 (n + 12) ((n : Int) + 12) (by omega) (by omega) (by omega) (by omega) w
theorem appendLimbs {ops : Array Oper} {rest : List Oper} {o : Oper} {a : Act} {Q : Exit → Act → World → Prop} (w : World) (hgd : o.guard = none) (s x : Operand)
    (ho : o.op = .call { callee := .builtin .append, args := #[s, x], argTypes := #[30, 30] })
    (B : Nat) (A : Option Addr) (n c : Nat) (xs : List Int) (hs : a.eval s = .slice A n c) (hn : n = xs.length) (hown : Own w B 145 A c (xs.map (.int .u32)))
    (D : Option Addr) (m cc : Nat) (news : List Int) (hx : a.eval x = .slice D m cc) (hm : m = news.length) (hr : Rd w D (news.map (.int .u32)))
    (h63 : xs.length + news.length ≤ 10000000000000) (hbase : B ≤ w.heap.size)
    (h : ∀ A' c' m' w', m' = (xs ++ news).length → Own w' B 145 A' c' ((xs ++ news).map (.int .u32)) → Fr (blk A) w w' → (∀ i, blk A' i → blk A i ∨ w.heap.size ≤ i) → wpList Tryz.prog ops Q rest (a.put o.dst (.slice A' m' c')) w') : wpList Tryz.prog ops Q (o :: rest) a w := by
  obtain ⟨i0, hi, hz0, hz1, hz2⟩ := info_parts Tryz.infoELimbs
  refine wpList_append_rd w hgd s x 30 ho 145 i0 _ 4 Tryz.underlying30 hi hz0 hz1 hz2 rfl B A n c (xs.map (.int .u32)) hs (by simpa using hn) hown D m cc (news.map (.int .u32)) hx (by simpa using hm) hr (one_int .u32 news) (by unfold maxLen; simp; omega) (by simp; omega) hbase ?_
  intro A' c' w' h1 h2 h3
  exact h A' c' _ w' (by simp) (by rw [List.map_append]; exact h1) h2 h3

set_option maxHeartbeats 400000 in
theorem lentLimbs_any (A : Option Addr) (c : Nat) (zs : List Int) (w : World) (hA : Rd w A (zs.map (.int .u32))) (hz : zs.length ≤ 1000000000) :
    Calls Tryz.prog 140 #[.slice A zs.length c] w (Lent .u32 (markI 1) zs w) := by
  have hmk := mk0Limbs zs.length hz
  have hm0 := Own.made w w.heap.size 145 (.int .u32 0) (zs.length + 12) (Nat.le_refl _) (by omega)
  go_enter Tryz.func140, Tryz.ntmps140
  go_wp2_with (at_builtin; refine appendLimbs _ rfl _ _ rfl w.heap.size _ _ _ [] rfl rfl hm0 _ _ _ zs rfl rfl (hA.ext ((Ext.refl w).alloc _)) (by simp; omega) (by simp) ?_; intro A1 c1 m1 w1 hm1 hown hfr _; have hE1 : Ext w w1 := own_fresh hm0 ((Ext.refl w).alloc _) hfr; have HM1 := Lib.hid hm1; clear hm1 hfr hm0)
  clear hmk
  go_loopw [3, 4] (fun v i wr => LentRel .u32 145 (markI 1) zs w v i wr) (fun _ i _ => 12 - (intOf i).toNat)
  case atStart => exact ⟨0, _, _, _, by omega, rfl, rfl, by simpa using HM1.out, by simpa [mks] using hown, hE1⟩
  case round =>
    clear hown hE1 HM1
    obtain ⟨k, m, A2, c2, hk, rfl, rfl, hm, hown, hE⟩ := hrel
    have HM := Lib.hid hm
    clear hm
    by_cases hlt : k < 12
    · have hw32 : IntKind.u32.wrap (markI 1 k) = markI 1 k := IntWalk.u32_in _ (by unfold markI; omega)
      go_wp2_with (first | (go_at_call 98; refine (mark_any 1 k _ (by omega) (by omega)).mono ?_; rintro e w' ⟨rfl, rfl⟩) | (at_builtin; refine appendLimbs _ rfl _ _ rfl w.heap.size _ _ _ (zs ++ mks (markI 1) k) rfl (by rw [HM.out]; simp [mks_length]) (hown.ext ((Ext.refl _).alloc _)) _ _ _ [markI 1 k] rfl rfl (rd_one _ _ _) (by simp [mks_length]; omega) (by have := hE.sz; simp; omega) ?_; intro A1 c1 m1 w1 hm1 hown1 hfr _; have HM1 := Lib.hid hm1; have hE1 : Ext w w1 := own_fresh (hown.ext ((Ext.refl _).alloc _)) (hE.alloc _) hfr; have hown2 : Own w1 w.heap.size 145 A1 c1 ((zs ++ mks (markI 1) (k + 1)).map (Value.int .u32)) := (by rw [mks_succ, ← List.append_assoc]; exact hown1); clear hown1 hfr hm1))
      exact ⟨⟨k + 1, _, _, _, by omega, by go_num, rfl, by rw [HM1.out]; simp [mks_length], hown2, hE1⟩, by simp [intOf]; omega⟩
    · obtain rfl : k = 12 := by omega
      obtain ⟨g, rfl⟩ := hown.some_ (by simp [mks_length])
      have hcap := hown.cap
      have hc1 : zs.length + 12 ≤ c2 := by simpa [mks_length] using hcap.1
      have hc2 := Lib.hid hcap.2
      clear hcap
      obtain rfl := HM.out
      go_wp2
      go_ret
      exact ⟨g, c2, rfl, hc1, hc2.out, (hown.lt (i := g) rfl).1, ⟨hown.rd, HasRow.own hown⟩, hE⟩

def KeptRelLimbs (n : Nat) (w : World) (i : Value) (wr : World) : Prop := ∃ k : Nat, k ≤ n + 12 ∧ i = .int .i64 k ∧ Ext w wr
set_option maxHeartbeats 400000 in
theorem keptLimbs_any (g : Nat) (A : Option Addr) (c d : Nat) (zs : List Int) (w : World) (hg : Rd w (some ⟨g, 0, none⟩) ((zs ++ mks (markI 1) 12).map (Value.int .u32))) (hA : Rd w A (zs.map (.int .u32))) (hz : zs.length ≤ 1000000000) (hc : zs.length + 12 ≤ c) :
    Calls Tryz.prog 148 #[.slice (some ⟨g, 0, none⟩) zs.length c, .slice A zs.length d] w fun e w' => e = .returned (.bool true) ∧ Ext w w' := by
  have hne : ((zs.length : Int) != (zs.length : Int)) = false := by simp
  go_enter Tryz.func148, Tryz.ntmps148
  go_wp2
  go_loopw [6] (fun i wr => KeptRelLimbs zs.length w i wr) (fun i _ => zs.length + 12 - (intOf i).toNat)
  case atStart => exact ⟨0, Nat.zero_le _, rfl, Ext.refl _⟩
  case round =>
    obtain ⟨k, hk, rfl, hE⟩ := hrel
    by_cases hlt : k < zs.length + 12
    · obtain ⟨ad, x, had, h1, hx1⟩ := (hg.ext hE).int (i := k) (by simp [mks_length]; omega)
      injection had with had
      subst had
      rw [add_lit', Nat.zero_add] at h1
      by_cases hin : k < zs.length
      · obtain ⟨ad2, y, rfl, h2, hy1⟩ := (hA.ext hE).int hin
        rw [List.getElem?_append_left hin, hy1] at hx1
        injection hx1 with hx1
        subst hx1
        have hd1 : decide (zs.length ≤ k) = false := by simp; omega
        clear hy1
        go_wp2
        go_quiet (fail)
        go_wp2
        exact ⟨⟨k + 1, by omega, by go_num, hE.drewN _⟩, by simp [intOf]; omega⟩
      · rw [List.getElem?_append_right (by omega), mks_get _ (by omega)] at hx1
        injection hx1 with hx1
        subst hx1
        have hd1 : decide (k < zs.length) = false := by simp; omega
        have hd2 : decide (zs.length ≤ k) = true := by simp; omega
        have hw32 : IntKind.u32.wrap (markI 1 (k - zs.length)) = markI 1 (k - zs.length) := IntWalk.u32_in _ (by unfold markI; omega)
        have hw1 : IntKind.i64.wrap ((k : Int) - zs.length) = ((k - zs.length : Nat) : Int) := by rw [IntWalk.i64_in _ (by omega)]; omega
        go_wp2
        go_quiet ((go_at_call 98; exact Calls.quiet_of_same ((mark_any 1 (k - zs.length) _ (by omega) (by omega)).mono fun _ _ h => ⟨h.1, h.2.symm⟩)))
        go_wp2
        exact ⟨⟨k + 1, by omega, by go_num, hE.drewN _⟩, by simp [intOf]; omega⟩
    · obtain rfl : k = zs.length + 12 := by omega
      go_wp2
      go_ret
      exact ⟨rfl, hE⟩

set_option maxHeartbeats 400000 in
theorem lentInts_any (A : Option Addr) (c : Nat) (zs : List Int) (w : World) (hA : Rd w A (zs.map (.int .i64))) (hz : zs.length ≤ 1000000000) :
    Calls Tryz.prog 139 #[.slice A zs.length c] w (Lent .i64 (markI 1) zs w) := by
  have hmk := mk0Ints zs.length hz
  have hm0 := Own.made w w.heap.size 3 (.int .i64 0) (zs.length + 12) (Nat.le_refl _) (by omega)
  go_enter Tryz.func139, Tryz.ntmps139
  go_wp2_with (at_builtin; refine appendInts _ rfl _ _ rfl w.heap.size _ _ _ [] rfl rfl hm0 _ _ _ zs rfl rfl (hA.ext ((Ext.refl w).alloc _)) (by simp; omega) (by simp) ?_; intro A1 c1 m1 w1 hm1 hown hfr _; have hE1 : Ext w w1 := own_fresh hm0 ((Ext.refl w).alloc _) hfr; have HM1 := Lib.hid hm1; clear hm1 hfr hm0)
  clear hmk
  go_loopw [3, 4] (fun v i wr => LentRel .i64 3 (markI 1) zs w v i wr) (fun _ i _ => 12 - (intOf i).toNat)
  case atStart => exact ⟨0, _, _, _, by omega, rfl, rfl, by simpa using HM1.out, by simpa [mks] using hown, hE1⟩
  case round =>
    clear hown hE1 HM1
    obtain ⟨k, m, A2, c2, hk, rfl, rfl, hm, hown, hE⟩ := hrel
    have HM := Lib.hid hm
    clear hm
    by_cases hlt : k < 12
    · go_wp2_with (first | (go_at_call 98; refine (mark_any 1 k _ (by omega) (by omega)).mono ?_; rintro e w' ⟨rfl, rfl⟩) | (at_builtin; refine appendInts _ rfl _ _ rfl w.heap.size _ _ _ (zs ++ mks (markI 1) k) rfl (by rw [HM.out]; simp [mks_length]) (hown.ext ((Ext.refl _).alloc _)) _ _ _ [markI 1 k] rfl rfl (rd_one _ _ _) (by simp [mks_length]; omega) (by have := hE.sz; simp; omega) ?_; intro A1 c1 m1 w1 hm1 hown1 hfr _; have HM1 := Lib.hid hm1; have hE1 : Ext w w1 := own_fresh (hown.ext ((Ext.refl _).alloc _)) (hE.alloc _) hfr; have hown2 : Own w1 w.heap.size 3 A1 c1 ((zs ++ mks (markI 1) (k + 1)).map (Value.int .i64)) := (by rw [mks_succ, ← List.append_assoc]; exact hown1); clear hown1 hfr hm1))
      exact ⟨⟨k + 1, _, _, _, by omega, by go_num, rfl, by rw [HM1.out]; simp [mks_length], hown2, hE1⟩, by simp [intOf]; omega⟩
    · obtain rfl : k = 12 := by omega
      obtain ⟨g, rfl⟩ := hown.some_ (by simp [mks_length])
      have hcap := hown.cap
      have hc1 : zs.length + 12 ≤ c2 := by simpa [mks_length] using hcap.1
      have hc2 := Lib.hid hcap.2
      clear hcap
      obtain rfl := HM.out
      go_wp2
      go_ret
      exact ⟨g, c2, rfl, hc1, hc2.out, (hown.lt (i := g) rfl).1, ⟨hown.rd, HasRow.own hown⟩, hE⟩

set_option maxHeartbeats 400000 in
theorem keptInts_any (g : Nat) (A : Option Addr) (c d : Nat) (zs : List Int) (w : World) (hg : Rd w (some ⟨g, 0, none⟩) ((zs ++ mks (markI 1) 12).map (Value.int .i64))) (hA : Rd w A (zs.map (.int .i64))) (hz : zs.length ≤ 1000000000) (hc : zs.length + 12 ≤ c) :
    Calls Tryz.prog 147 #[.slice (some ⟨g, 0, none⟩) zs.length c, .slice A zs.length d] w fun e w' => e = .returned (.bool true) ∧ Ext w w' := by
  have hne : ((zs.length : Int) != (zs.length : Int)) = false := by simp
  go_enter Tryz.func147, Tryz.ntmps147
  go_wp2
  go_loopw [6] (fun i wr => KeptRelInts zs.length w i wr) (fun i _ => zs.length + 12 - (intOf i).toNat)
  case atStart => exact ⟨0, Nat.zero_le _, rfl, Ext.refl _⟩
  case round =>
    obtain ⟨k, hk, rfl, hE⟩ := hrel
    by_cases hlt : k < zs.length + 12
    · obtain ⟨ad, x, had, h1, hx1⟩ := (hg.ext hE).int (i := k) (by simp [mks_length]; omega)
      injection had with had
      subst had
      rw [add_lit', Nat.zero_add] at h1
      by_cases hin : k < zs.length
      · obtain ⟨ad2, y, rfl, h2, hy1⟩ := (hA.ext hE).int hin
        rw [List.getElem?_append_left hin, hy1] at hx1
        injection hx1 with hx1
        subst hx1
        have hd1 : decide (zs.length ≤ k) = false := by simp; omega
        clear hy1
        go_wp2
        go_quiet (fail)
        go_wp2
        exact ⟨⟨k + 1, by omega, by go_num, hE.drewN _⟩, by simp [intOf]; omega⟩
      · rw [List.getElem?_append_right (by omega), mks_get _ (by omega)] at hx1
        injection hx1 with hx1
        subst hx1
        have hd1 : decide (k < zs.length) = false := by simp; omega
        have hd2 : decide (zs.length ≤ k) = true := by simp; omega
        have hw1 : IntKind.i64.wrap ((k : Int) - zs.length) = ((k - zs.length : Nat) : Int) := by rw [IntWalk.i64_in _ (by omega)]; omega
        go_wp2
        go_quiet ((go_at_call 98; exact Calls.quiet_of_same ((mark_any 1 (k - zs.length) _ (by omega) (by omega)).mono fun _ _ h => ⟨h.1, h.2.symm⟩)))
        go_wp2
        exact ⟨⟨k + 1, by omega, by go_num, hE.drewN _⟩, by simp [intOf]; omega⟩
    · obtain rfl : k = zs.length + 12 := by omega
      go_wp2
      go_ret
      exact ⟨rfl, hE⟩

set_option maxHeartbeats 400000 in
theorem lentBytes_any (A : Option Addr) (c : Nat) (zs : List Int) (w : World) (hA : Rd w A (zs.map (.int .u8))) (hz : zs.length ≤ 1000000000) :
    Calls Tryz.prog 102 #[.slice A zs.length c] w (Lent .u8 (markB 1) zs w) := by
  have hmk := mk0Bytes zs.length hz
  have hm0 := Own.made w w.heap.size 5 (.int .u8 0) (zs.length + 12) (Nat.le_refl _) (by omega)
  go_enter Tryz.func102, Tryz.ntmps102
  go_wp2_with (at_builtin; refine appendBytes _ rfl _ _ rfl w.heap.size _ _ _ [] rfl rfl hm0 _ _ _ zs rfl rfl (hA.ext ((Ext.refl w).alloc _)) (by simp; omega) (by simp) ?_; intro A1 c1 m1 w1 hm1 hown hfr _; have hE1 : Ext w w1 := own_fresh hm0 ((Ext.refl w).alloc _) hfr; have HM1 := Lib.hid hm1; clear hm1 hfr hm0)
  clear hmk
  go_loopw [3, 4] (fun v i wr => LentRel .u8 5 (markB 1) zs w v i wr) (fun _ i _ => 12 - (intOf i).toNat)
  case atStart => exact ⟨0, _, _, _, by omega, rfl, rfl, by simpa using HM1.out, by simpa [mks] using hown, hE1⟩
  case round =>
    clear hown hE1 HM1
    obtain ⟨k, m, A2, c2, hk, rfl, rfl, hm, hown, hE⟩ := hrel
    have HM := Lib.hid hm
    clear hm
    by_cases hlt : k < 12
    · go_wp2_with (first | (go_at_call 58; refine (markByte_any 1 k _ (by omega) (by omega)).mono ?_; rintro e w' ⟨rfl, rfl⟩) | (at_builtin; refine appendBytes _ rfl _ _ rfl w.heap.size _ _ _ (zs ++ mks (markB 1) k) rfl (by rw [HM.out]; simp [mks_length]) (hown.ext ((Ext.refl _).alloc _)) _ _ _ [markB 1 k] rfl rfl (rd_one _ _ _) (by simp [mks_length]; omega) (by have := hE.sz; simp; omega) ?_; intro A1 c1 m1 w1 hm1 hown1 hfr _; have HM1 := Lib.hid hm1; have hE1 : Ext w w1 := own_fresh (hown.ext ((Ext.refl _).alloc _)) (hE.alloc _) hfr; have hown2 : Own w1 w.heap.size 5 A1 c1 ((zs ++ mks (markB 1) (k + 1)).map (Value.int .u8)) := (by rw [mks_succ, ← List.append_assoc]; exact hown1); clear hown1 hfr hm1))
      exact ⟨⟨k + 1, _, _, _, by omega, by go_num, rfl, by rw [HM1.out]; simp [mks_length], hown2, hE1⟩, by simp [intOf]; omega⟩
    · obtain rfl : k = 12 := by omega
      obtain ⟨g, rfl⟩ := hown.some_ (by simp [mks_length])
      have hcap := hown.cap
      have hc1 : zs.length + 12 ≤ c2 := by simpa [mks_length] using hcap.1
      have hc2 := Lib.hid hcap.2
      clear hcap
      obtain rfl := HM.out
      go_wp2
      go_ret
      exact ⟨g, c2, rfl, hc1, hc2.out, (hown.lt (i := g) rfl).1, ⟨hown.rd, HasRow.own hown⟩, hE⟩

set_option maxHeartbeats 400000 in
theorem keptBytes_any (g : Nat) (A : Option Addr) (c d : Nat) (zs : List Int) (w : World) (hg : Rd w (some ⟨g, 0, none⟩) ((zs ++ mks (markB 1) 12).map (Value.int .u8))) (hA : Rd w A (zs.map (.int .u8))) (hz : zs.length ≤ 1000000000) (hc : zs.length + 12 ≤ c) :
    Calls Tryz.prog 115 #[.slice (some ⟨g, 0, none⟩) zs.length c, .slice A zs.length d] w fun e w' => e = .returned (.bool true) ∧ Ext w w' := by
  have hne : ((zs.length : Int) != (zs.length : Int)) = false := by simp
  go_enter Tryz.func115, Tryz.ntmps115
  go_wp2
  go_loopw [6] (fun i wr => KeptRelBytes zs.length w i wr) (fun i _ => zs.length + 12 - (intOf i).toNat)
  case atStart => exact ⟨0, Nat.zero_le _, rfl, Ext.refl _⟩
  case round =>
    obtain ⟨k, hk, rfl, hE⟩ := hrel
    by_cases hlt : k < zs.length + 12
    · obtain ⟨ad, x, had, h1, hx1⟩ := (hg.ext hE).int (i := k) (by simp [mks_length]; omega)
      injection had with had
      subst had
      rw [add_lit', Nat.zero_add] at h1
      by_cases hin : k < zs.length
      · obtain ⟨ad2, y, rfl, h2, hy1⟩ := (hA.ext hE).int hin
        rw [List.getElem?_append_left hin, hy1] at hx1
        injection hx1 with hx1
        subst hx1
        have hd1 : decide (zs.length ≤ k) = false := by simp; omega
        clear hy1
        go_wp2
        go_quiet (fail)
        go_wp2
        exact ⟨⟨k + 1, by omega, by go_num, hE.drewN _⟩, by simp [intOf]; omega⟩
      · rw [List.getElem?_append_right (by omega), mks_get _ (by omega)] at hx1
        injection hx1 with hx1
        subst hx1
        have hd1 : decide (k < zs.length) = false := by simp; omega
        have hd2 : decide (zs.length ≤ k) = true := by simp; omega
        have hw1 : IntKind.i64.wrap ((k : Int) - zs.length) = ((k - zs.length : Nat) : Int) := by rw [IntWalk.i64_in _ (by omega)]; omega
        go_wp2
        go_quiet ((go_at_call 58; exact Calls.quiet_of_same ((markByte_any 1 (k - zs.length) _ (by omega) (by omega)).mono fun _ _ h => ⟨h.1, h.2.symm⟩)))
        go_wp2
        exact ⟨⟨k + 1, by omega, by go_num, hE.drewN _⟩, by simp [intOf]; omega⟩
    · obtain rfl : k = zs.length + 12 := by omega
      go_wp2
      go_ret
      exact ⟨rfl, hE⟩
end Go.Proofs.YtjnllilmimngoaaGreatDoor
namespace Go.Proofs.YtjnllilmimngoaaGreatDoor
open Go.RowKit

theorem rwithin_any (n lo hi : Int) (w : World) : Calls Tryz.prog 103 #[.int .i64 n, .int .i64 lo, .int .i64 hi] w fun e w' => e = .returned (.bool (inR n lo hi)) ∧ w = w' := by
  by_cases h1 : lo ≤ n
  · have hd1 : decide (lo ≤ n) = true := by simpa using h1
    by_cases h2 : n ≤ hi
    · have hd2 : decide (n ≤ hi) = true := by simpa using h2
      have hv : Hid (inR n lo hi = true) := Lib.hid (by simp [inR, h1, h2])
      go_enter Tryz.func103, Tryz.ntmps103
      go_wp2
      go_ret
      exact ⟨by rw [hv.out]; rfl, rfl⟩
    · have hd2 : decide (n ≤ hi) = false := by simpa using h2
      have hv : Hid (inR n lo hi = false) := Lib.hid (by simp [inR, h1, h2])
      go_enter Tryz.func103, Tryz.ntmps103
      go_wp2
      go_ret
      exact ⟨by rw [hv.out]; rfl, rfl⟩
  · have hd1 : decide (lo ≤ n) = false := by simpa using h1
    have hv : Hid (inR n lo hi = false) := Lib.hid (by simp [inR, h1])
    go_enter Tryz.func103, Tryz.ntmps103
    go_wp2
    go_ret
    exact ⟨by rw [hv.out]; rfl, rfl⟩

theorem someI_eq (i t k : Int) : someI i t k = (inR i 1 1099511627776 && (inR t 0 1099511627776 && inR k 1 3)) := by
  unfold someI rightI
  cases h : inR i 1 1099511627776 with
  | false => rfl
  | true =>
    have hi := inR_iff.1 h
    have hz : zeroId i t k = false := by
      have h0 : (i == 0) = false := by rw [beq_eq_false_iff_ne]; omega
      simp [zeroId, h0]
    simp [hz, inR]
theorem rightI_eq (i t k : Int) : rightI i t k = (someI i t k || zeroId i t k) := by
  rw [someI_eq]
  simp only [rightI, inR]
  cases zeroId i t k <;> simp
set_option maxHeartbeats 600000 in
theorem rsomeones_any (i t k : Int) (w : World) : Calls Tryz.prog 108 #[idV i t k] w fun e w' => e = .returned (.bool (someI i t k)) ∧ Ext w w' := by
  rw [someI_eq]
  unfold idV
  cases h1 : inR i 1 1099511627776 with
  | false =>
    go_enter Tryz.func108, Tryz.ntmps108
    go_wp2_with (go_at_call 103; refine (rwithin_any _ _ _ _).mono ?_; rintro e w' ⟨rfl, rfl⟩)
    go_ret
    exact ⟨rfl, (Ext.refl _).alloc _⟩
  | true =>
    cases h2 : inR t 0 1099511627776 with
    | false =>
      go_enter Tryz.func108, Tryz.ntmps108
      go_wp2_with (go_at_call 103; refine (rwithin_any _ _ _ _).mono ?_; rintro e w' ⟨rfl, rfl⟩)
      go_ret
      exact ⟨rfl, (Ext.refl _).alloc _⟩
    | true =>
      go_enter Tryz.func108, Tryz.ntmps108
      go_wp2_with (go_at_call 103; refine (rwithin_any _ _ _ _).mono ?_; rintro e w' ⟨rfl, rfl⟩)
      go_ret
      exact ⟨rfl, (Ext.refl _).alloc _⟩
set_option maxHeartbeats 600000 in
theorem rident_any (i t k : Int) (w : World) : Calls Tryz.prog 104 #[idV i t k] w fun e w' => e = .returned (.bool (rightI i t k)) ∧ Ext w w' := by
  rw [rightI_eq]
  have HS := Lib.hid (fun w => rsomeones_any i t k w)
  unfold idV at HS ⊢
  cases h1 : someI i t k with
  | true =>
    simp only [h1] at HS
    go_enter Tryz.func104, Tryz.ntmps104
    go_wp2_with (go_at_call 108; refine (HS.out _).mono ?_; rintro e w1 ⟨rfl, hE1⟩)
    go_ret
    exact ⟨rfl, ((Ext.refl _).alloc _).trans hE1⟩
  | false =>
    simp only [h1] at HS
    have heq := eqId i t k 0 0 0
    have hz : (i == 0 && (t == 0 && k == 0)) = zeroId i t k := rfl
    rw [hz] at heq
    clear hz
    have HB := Lib.hid (heap_alloc_new w (.cells #[.int .i64 i, .int .i64 t, .int .i64 k] 26))
    go_enter Tryz.func104, Tryz.ntmps104
    go_wp2_with (go_at_call 108; refine (HS.out _).mono ?_; rintro e w1 ⟨rfl, hE1⟩; have g := hE1.blk HB.out; have r0 := cell_of_heap g 0; have r1 := cell_of_heap g 1; have r2 := cell_of_heap g 2; simp at r0 r1 r2; clear g)
    go_ret
    exact ⟨by simp, ((Ext.refl _).alloc _).trans hE1⟩
theorem rof_any (i t k : Int) (x : Value) (w : World) : Calls Tryz.prog 165 #[.agg #[.int .i64 i, .int .i64 t, .int .i64 k, x]] w fun e w' => e = .returned (idV i t k) ∧ Ext w w' := by
  unfold idV
  go_enter Tryz.func165, Tryz.ntmps165
  go_wp2
  exact bodyPost_ret (v := .agg #[.int .i64 i, .int .i64 t, .int .i64 k]) (by simp [results, Tryz.results165, go_sem]) rfl ⟨rfl, ((Ext.refl _).alloc _).alloc _⟩

theorem mem_get {α : Type} {l : List α} {k : Nat} {x : α} (h : l[k]? = some x) : x ∈ l := by
  obtain ⟨hk, rfl⟩ := List.getElem?_eq_some_iff.1 h
  exact List.getElem_mem hk
def prevM (ms : List Int) (k : Nat) : Int := if k = 0 then 0 else ms.getD (k - 1) 0
theorem memAt_prev (ms : List Int) (k : Nat) {x : Int} (hx : ms.getD k 0 = x) (hp : ∀ j, j < k → memAt ms j = true) : memAt ms k = (decide (prevM ms k < x) && decide (x ≤ 7)) := by
  unfold memAt prevM inR
  rw [hx]
  rcases k with _ | q
  · simp only [Nat.zero_sub, decide_true, Bool.true_or, Bool.and_true, if_true]
    congr 1
  · rw [if_neg (by omega), Nat.add_sub_cancel]
    have h := hp q (by omega)
    unfold memAt inR at h
    simp only [Bool.and_eq_true, decide_eq_true_eq] at h
    have h1 := h.1.1
    simp only [Nat.add_eq_zero_iff, Nat.succ_ne_self, and_false, decide_false, Bool.false_or]
    by_cases hlt : ms.getD q 0 < x
    · have e1 : decide (1 ≤ x) = true := decide_eq_true (by omega)
      rw [e1, decide_eq_true hlt, Bool.true_and, Bool.and_true]
    · rw [decide_eq_false hlt, Bool.and_false, Bool.false_and]
def RmRel (ms : List Int) (l i : Value) : Prop := ∃ k : Nat, k ≤ ms.length ∧ i = .int .i64 k ∧ l = .int .i64 (prevM ms k) ∧ ∀ j, j < k → memAt ms j = true
set_option maxHeartbeats 1000000 in
theorem rmembers_any (A : Option Addr) (c : Nat) (ms : List Int) (w : World) (hA : Rd w A (ms.map (.int .i64))) (hl : ms.length ≤ maxLen) :
    Calls Tryz.prog 166 #[.slice A ms.length c] w fun e w' => e = .returned (.bool (memR ms)) ∧ w = w' := by
  unfold maxLen at hl
  go_enter Tryz.func166, Tryz.ntmps166
  go_wp2
  go_loop [3, 4] (fun l i => RmRel ms l i) (fun _ i => ms.length - (intOf i).toNat)
  case atStart => exact ⟨0, Nat.zero_le _, rfl, rfl, fun j hj => by omega⟩
  case round =>
    obtain ⟨k, hk, rfl, rfl, hr⟩ := hrel
    have HR := Lib.hid hr
    clear hr
    by_cases hlt : k < ms.length
    · obtain ⟨ad, x, rfl, hc, hx⟩ := hA.int hlt
      have HX := Lib.hid (getD_of (d := 0) hx)
      have HM := Lib.hid (memAt_prev ms k (getD_of (d := 0) hx) HR.out)
      have HP : Hid (prevM ms (k + 1) = x) := Lib.hid (by unfold prevM; rw [if_neg (by omega), Nat.add_sub_cancel]; exact HX.out)
      clear hx
      by_cases h1 : prevM ms k < x
      · have d1 : decide (x ≤ prevM ms k) = false := by simp; omega
        by_cases h7 : x ≤ 7
        · have d7 : decide (7 < x) = false := by simp; omega
          have hM : Hid (memAt ms k = true) := Lib.hid (by rw [HM.out]; simp [h1, h7])
          go_wp2
          go_round
          case rel => exact ⟨k + 1, by omega, by go_num, by rw [HP.out], fun j hj => by
            by_cases e : j = k
            · rw [e]; exact hM.out
            · exact HR.out j (by omega)⟩
          case measure => simp [intOf]; omega
        · have d7 : decide (7 < x) = true := by simp; omega
          have hM : Hid (memAt ms k = false) := Lib.hid (by rw [HM.out]; simp [h7])
          go_wp2
          go_ret
          exact ⟨by rw [memR_no hlt hM.out]; rfl, rfl⟩
      · have d1 : decide (x ≤ prevM ms k) = true := by simp; omega
        have hM : Hid (memAt ms k = false) := Lib.hid (by rw [HM.out]; simp [h1])
        go_wp2
        go_ret
        exact ⟨by rw [memR_no hlt hM.out]; rfl, rfl⟩
    · obtain rfl : k = ms.length := by omega
      by_cases h0 : 0 < ms.length
      · have d0 : decide ((0 : Int) < (ms.length : Int)) = true := by simp; omega
        go_wp2
        go_ret
        exact ⟨by rw [memR_yes h0 HR.out]; rfl, rfl⟩
      · have d0 : decide ((0 : Int) < (ms.length : Int)) = false := decide_eq_false (by omega)
        go_wp2
        go_ret
        exact ⟨by rw [show memR ms = false by unfold memR; rw [decide_eq_false h0, Bool.false_and]]; rfl, rfl⟩
theorem memR_ge {ms : List Int} (h : memR ms = true) : ∀ j, j < ms.length → (j : Int) + 1 ≤ ms.getD j 0 ∧ ms.getD j 0 ≤ 7 := by
  simp only [memR, Bool.and_eq_true, List.all_eq_true, List.mem_range] at h
  intro j
  induction j with
  | zero =>
    intro hj
    have := h.2 0 hj
    simp only [memAt, Bool.and_eq_true, inR_iff] at this
    omega
  | succ j ih =>
    intro hj
    have h1 := ih (by omega)
    have := h.2 (j + 1) hj
    simp only [memAt, Bool.and_eq_true, inR_iff, Bool.or_eq_true, decide_eq_true_eq, Nat.add_sub_cancel] at this
    omega
theorem memR_len {ms : List Int} (h : memR ms = true) : ms.length ≤ 7 := by
  have hp : 0 < ms.length := by
    simp only [memR, Bool.and_eq_true, decide_eq_true_eq] at h; exact h.1
  have := memR_ge h (ms.length - 1) (by omega)
  omega
theorem memR_take (bs : List Int) : memR (bs.take 8) = memsB bs := by
  unfold memsB
  by_cases h7 : bs.length ≤ 7
  · rw [List.take_of_length_le (by omega)]; simp [h7]
  · have : memR (bs.take 8) = false := by
      cases h : memR (bs.take 8) with
      | false => rfl
      | true => have := memR_len h; rw [List.length_take] at this; omega
    rw [this]; simp [h7]
def RMemRel (bs : List Int) (w : World) (v i : Value) (wr : World) : Prop :=
  ∃ (k m : Nat) (A : Option Addr) (c : Nat), k ≤ bs.length ∧ k ≤ 8 ∧ i = .int .i64 k ∧ m = (bs.take k).length ∧ v = .slice A m c ∧ Own wr w.heap.size 3 A c ((bs.take k).map (.int .i64)) ∧ Ext w wr
set_option maxHeartbeats 1000000 in
theorem rofBytes_any (D : Option Addr) (d : Nat) (bs : List Int) (w : World) (hD : Rd w D (bs.map (.int .u8))) (hb : okBytes bs) (hl : bs.length ≤ maxLen) :
    Calls Tryz.prog 168 #[.slice D bs.length d] w (MemPost (memsB bs) w) := by
  unfold maxLen at hl
  go_enter Tryz.func168, Tryz.ntmps168
  go_wp2
  go_loopw [4, 5] (fun v i wr => RMemRel bs w v i wr) (fun _ i _ => bs.length - (intOf i).toNat)
  case atStart => exact ⟨0, 0, none, 0, Nat.zero_le _, by omega, rfl, by simp, rfl, Own.nil _ _ _, Ext.refl _⟩
  case round =>
    obtain ⟨k, m, A, c, hk, hk8, rfl, hm, rfl, hO, hE⟩ := hrel
    have HM := Lib.hid hm
    clear hm
    by_cases hlt : k < bs.length ∧ k < 8
    · obtain ⟨hlt, h8⟩ := hlt
      obtain ⟨ad, x, rfl, hc, hx⟩ := (hD.ext hE).int hlt
      have hxb := hb x (mem_get hx)
      have hcv : IntKind.i64.wrap x = x := IntWalk.i64_in x (by omega)
      have d7 : decide ((k : Int) ≤ 7) = true := by simp; omega
      have HT := Lib.hid (take_snoc' hx)
      clear hx
      go_wp2_with (at_builtin; refine appendInts _ rfl _ _ rfl w.heap.size _ _ _ (bs.take k) rfl HM.out (hO.ext ((Ext.refl _).alloc _)) _ _ _ [x] rfl rfl (rd_one _ _ _) (by simp; omega) (by have := hE.sz; simp; omega) ?_; intro A1 c1 m1 w1 hm1 hown1 hfr _; have HM1 := Lib.hid hm1; have hE1 : Ext w w1 := own_fresh (hO.ext ((Ext.refl _).alloc _)) (hE.alloc _) hfr; clear hm1 hfr hO)
      go_roundw
      case rel => exact ⟨k + 1, m1, A1, c1, by omega, by omega, by go_num, by rw [HT.out]; exact HM1.out, rfl, by rw [HT.out]; exact hown1, hE1⟩
      case measure => simp [intOf]; omega
    · have htk : bs.take k = bs.take 8 := by
        by_cases h1 : k = 8
        · rw [h1]
        · rw [List.take_of_length_le (by omega), List.take_of_length_le (by omega)]
      have HT := Lib.hid htk
      have hR := fun c w' (hr : Rd w' A ((bs.take k).map (.int .i64))) => rmembers_any A c (bs.take k) w' hr (by unfold maxLen; rw [List.length_take]; omega)
      rw [htk, memR_take] at hR
      have hmm : m = (bs.take 8).length := by rw [← HT.out]; exact HM.out
      rw [← hmm] at hR
      rw [htk] at hO
      have HRR := Lib.hid (hR c wr hO.rd)
      have hend : (k : Int) < (bs.length : Int) ∧ (7 : Int) < k ∨ ¬ ((k : Int) < (bs.length : Int)) := by omega
      clear hR hmm htk
      have HB : Hid (∃ b, memsB bs = b) := Lib.hid ⟨_, rfl⟩
      rcases hend with ⟨h1, h2⟩ | h1
      · have d1 : decide ((k : Int) < (bs.length : Int)) = true := by simpa using h1
        have d7 : decide ((k : Int) ≤ 7) = false := by simp; omega
        cases hbm : memsB bs with
        | true =>
          rw [hbm] at HRR
          go_wp2_with (go_at_call 166; refine HRR.out.mono ?_; rintro e w' ⟨rfl, rfl⟩)
          go_ret2
          exact ⟨_, by rw [hbm]; rfl, hE⟩
        | false =>
          rw [hbm] at HRR
          go_wp2_with (go_at_call 166; refine HRR.out.mono ?_; rintro e w' ⟨rfl, rfl⟩)
          go_ret2
          exact ⟨_, by rw [hbm]; rfl, hE⟩
      · have d1 : decide ((k : Int) < (bs.length : Int)) = false := by simpa using h1
        cases hbm : memsB bs with
        | true =>
          rw [hbm] at HRR
          go_wp2_with (go_at_call 166; refine HRR.out.mono ?_; rintro e w' ⟨rfl, rfl⟩)
          go_ret2
          exact ⟨_, by rw [hbm]; rfl, hE⟩
        | false =>
          rw [hbm] at HRR
          go_wp2_with (go_at_call 166; refine HRR.out.mono ?_; rintro e w' ⟨rfl, rfl⟩)
          go_ret2
          exact ⟨_, by rw [hbm]; rfl, hE⟩

set_option maxRecDepth 100000 in
set_option maxHeartbeats 1000000 in
theorem rgood_any (i t k : Int) (D : Option Addr) (d : Nat) (bs : List Int) (w : World) (hD : Rd w D (bs.map (.int .u8))) (hb : okBytes bs) (hl : bs.length ≤ maxLen) :
    Calls Tryz.prog 145 #[.agg #[.int .i64 i, .int .i64 t, .int .i64 k, .slice D bs.length d]] w fun e w' => e = .returned (.bool (goodE i t k bs)) ∧ Ext w w' := by
  have HMB := Lib.hid (fun w' (h : Ext w w') => rofBytes_any D d bs w' (hD.ext h) hb hl)
  clear hb hD hl
  by_cases h0 : 1 ≤ i
  case neg =>
    have hv : Hid (goodE i t k bs = false) := Lib.hid (by
      have hr : rightE i t k bs.length = false := by rw [Bool.eq_false_iff, ne_eq, rightE_iff]; omega
      simp [goodE, hr])
    have d0 : decide (i < 1) = true := by simp; omega
    rw [hv.out]
    go_enter Tryz.func145, Tryz.ntmps145
    go_wp2
    go_ret
    exact ⟨rfl, (Ext.refl _).alloc _⟩
  have d0 : decide (i < 1) = false := by simp; omega
  by_cases h1 : i ≤ 1099511627776
  case neg =>
    have hv : Hid (goodE i t k bs = false) := Lib.hid (by
      have hr : rightE i t k bs.length = false := by rw [Bool.eq_false_iff, ne_eq, rightE_iff]; omega
      simp [goodE, hr])
    have d1 : decide (1099511627776 < i) = true := by simp; omega
    rw [hv.out]
    go_enter Tryz.func145, Tryz.ntmps145
    go_wp2
    go_ret
    exact ⟨rfl, (Ext.refl _).alloc _⟩
  have d1 : decide (1099511627776 < i) = false := by simp; omega
  by_cases h2 : 0 ≤ t
  case neg =>
    have hv : Hid (goodE i t k bs = false) := Lib.hid (by
      have hr : rightE i t k bs.length = false := by rw [Bool.eq_false_iff, ne_eq, rightE_iff]; omega
      simp [goodE, hr])
    have d2 : decide (t < 0) = true := by simp; omega
    rw [hv.out]
    go_enter Tryz.func145, Tryz.ntmps145
    go_wp2
    go_ret
    exact ⟨rfl, (Ext.refl _).alloc _⟩
  have d2 : decide (t < 0) = false := by simp; omega
  by_cases h3 : t ≤ 1099511627776
  case neg =>
    have hv : Hid (goodE i t k bs = false) := Lib.hid (by
      have hr : rightE i t k bs.length = false := by rw [Bool.eq_false_iff, ne_eq, rightE_iff]; omega
      simp [goodE, hr])
    have d3 : decide (1099511627776 < t) = true := by simp; omega
    rw [hv.out]
    go_enter Tryz.func145, Tryz.ntmps145
    go_wp2
    go_ret
    exact ⟨rfl, (Ext.refl _).alloc _⟩
  have d3 : decide (1099511627776 < t) = false := by simp; omega
  by_cases h4 : bs.length ≤ 200
  case neg =>
    have hv : Hid (goodE i t k bs = false) := Lib.hid (by
      have hr : rightE i t k bs.length = false := by rw [Bool.eq_false_iff, ne_eq, rightE_iff]; omega
      simp [goodE, hr])
    have d4 : decide ((200 : Int) < (bs.length : Int)) = true := by simp; omega
    rw [hv.out]
    go_enter Tryz.func145, Tryz.ntmps145
    go_wp2
    go_ret
    exact ⟨rfl, (Ext.refl _).alloc _⟩
  have d4 : decide ((200 : Int) < (bs.length : Int)) = false := by simp; omega
  have hr0 : ∀ h1 : 1 ≤ k ∧ k ≤ 3, rightE i t k bs.length = true := fun h1 => rightE_iff.2 ⟨⟨h0, by assumption⟩, ⟨by assumption, by assumption⟩, h1.1, h1.2, by assumption⟩
  by_cases k1 : k = 1
  · subst k1
    have hr := hr0 (by omega)
    have hv : Hid (goodE i t 1 bs = decide (bs.length = 0)) := Lib.hid (by simp [goodE, hr])
    have HZ : Hid (((bs.length : Int) == 0) = decide (bs.length = 0)) := Lib.hid (by by_cases h : bs.length = 0 <;> simp [h])
    rw [hv.out, ← HZ.out]
    clear hr hr0
    go_enter Tryz.func145, Tryz.ntmps145
    go_wp2
    go_ret
    exact ⟨rfl, (Ext.refl _).alloc _⟩
  by_cases k2 : k = 2
  · subst k2
    have hr := hr0 (by omega)
    have hv : Hid (goodE i t 2 bs = true) := Lib.hid (by simp [goodE, hr])
    rw [hv.out]
    clear hr hr0
    go_enter Tryz.func145, Tryz.ntmps145
    go_wp2
    go_ret
    exact ⟨rfl, (Ext.refl _).alloc _⟩
  by_cases k3 : k = 3
  · subst k3
    have hr := hr0 (by omega)
    have hv : Hid (goodE i t 3 bs = memsB bs) := Lib.hid (by simp [goodE, hr])
    rw [hv.out]
    clear hr hr0
    cases hbm : memsB bs with
    | true =>
      simp only [hbm] at HMB
      go_enter Tryz.func145, Tryz.ntmps145
      go_wp2_with (go_at_call 168; refine (HMB.out _ ((Ext.refl _).alloc _)).mono ?_; rintro e w' ⟨v, rfl, hE1⟩)
      go_ret
      exact ⟨rfl, ((Ext.refl _).alloc _).trans hE1⟩
    | false =>
      simp only [hbm] at HMB
      go_enter Tryz.func145, Tryz.ntmps145
      go_wp2_with (go_at_call 168; refine (HMB.out _ ((Ext.refl _).alloc _)).mono ?_; rintro e w' ⟨v, rfl, hE1⟩)
      go_ret
      exact ⟨rfl, ((Ext.refl _).alloc _).trans hE1⟩
  · have b1 : (k == 1) = false := by rw [beq_eq_false_iff_ne]; exact k1
    have b2 : (k == 2) = false := by rw [beq_eq_false_iff_ne]; exact k2
    have b3 : (k == 3) = false := by rw [beq_eq_false_iff_ne]; exact k3
    have hv : Hid (goodE i t k bs = false) := Lib.hid (by
      have hr : rightE i t k bs.length = false := by rw [Bool.eq_false_iff, ne_eq, rightE_iff]; omega
      simp [goodE, hr])
    rw [hv.out]
    clear hr0
    go_enter Tryz.func145, Tryz.ntmps145
    go_wp2
    go_ret
    exact ⟨rfl, (Ext.refl _).alloc _⟩
end Go.Proofs.YtjnllilmimngoaaGreatDoor
