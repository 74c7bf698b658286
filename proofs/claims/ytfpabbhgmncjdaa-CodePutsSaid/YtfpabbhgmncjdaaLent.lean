/-
  Contracts of LentInts, LentBytes, KeptInts, KeptBytes.
-/
import Derived.Test.YtfpabbhgmncjdaaKitA
namespace Go.Proofs.Ytfpabbhgmncjdaa
open Go.RowKit

theorem run_mk0 {P : Program} (t e : TypeId) (i : TypeInfo) (z : Value) (ht : P.underlying t = some (.slice e)) (hi : P.info? e = some i) (hz : i.zero = some z) (hs : i.size = 1)
    (n c : Nat) (x : Int) (hx : x = c) (hnc : n ≤ c) (hb : i.bytes ≤ 64) (hc : c ≤ 1000000000000) (w : World) :
    (Instr.makeSlice t (.int .i64 (n : Int)) (.int .i64 x)).run P w = .ok (.slice (some ⟨w.heap.size, 0, none⟩) n c) (w.alloc (.cells (madeCells z.cells c) e)) := by
  subst hx
  have h : i.bytes * c ≤ 64 * 1000000000000 := Nat.mul_le_mul hb hc
  have h' : ((i.bytes * c : Nat) : Int) ≤ 281474976710656 := by omega
  rw [Int.natCast_mul] at h'
  have hr := run_make (P := P) w t e i z ht hi hz .i64 .i64 n c (by omega) (by omega) h' (by omega)
  simpa [hs] using hr

theorem Own.made (w : World) (B : Nat) (e : TypeId) (z : Value) (c : Nat) (hB : B ≤ w.heap.size) (hc : c ≤ 1000000000000) : Own (w.alloc (.cells (madeCells z.cells c) e)) B e (some ⟨w.heap.size, 0, none⟩) c [] :=
  Own.mk hB (heap_alloc_new w _) (by simp) (by unfold maxLen; omega) (size_madeCells _ _) rfl

def mks (mk : Nat → Int) (k : Nat) : List Int := (List.range k).map mk
theorem mks_succ (mk : Nat → Int) (k : Nat) : mks mk (k + 1) = mks mk k ++ [mk k] := by simp [mks, List.range_succ]
theorem mks_length (mk : Nat → Int) (k : Nat) : (mks mk k).length = k := by simp [mks]
theorem mks_get (mk : Nat → Int) {k n : Nat} (h : k < n) : (mks mk n)[k]? = some (mk k) := by simp [mks, h]

/-- What a Lent leaves: a new row with marks behind. -/
def Lent (kd : IntKind) (mk : Nat → Int) (zs : List Int) (w : World) (e : Ending) (w' : World) : Prop :=
  ∃ g c', e = .returned (.slice (some ⟨g, 0, none⟩) zs.length c') ∧ zs.length + 12 ≤ c' ∧ c' ≤ maxLen ∧ w.heap.size ≤ g ∧ Rd w' (some ⟨g, 0, none⟩) ((zs ++ mks mk 12).map (Value.int kd)) ∧ Ext w w'

def LentRel (kd : IntKind) (et : TypeId) (mk : Nat → Int) (zs : List Int) (w : World) (v i : Value) (wr : World) : Prop :=
  ∃ (k m : Nat) (A : Option Addr) (c : Nat), k ≤ 12 ∧ i = .int .i64 k ∧ v = .slice A m c ∧ m = zs.length + k ∧ Own wr w.heap.size et A c ((zs ++ mks mk k).map (Value.int kd)) ∧ Ext w wr
theorem own_fresh {w w1 w2 : World} {et : TypeId} {A : Option Addr} {c : Nat} {xs : List Value} (h : Own w1 w.heap.size et A c xs) (hE : Ext w w1) (hf : Fr (blk A) w1 w2) : Ext w w2 := by
  have h1 : Below w.heap.size w1 w2 := hf.below hE.sz (fun i hi => (h.lt hi).1)
  exact Below.trans hE h1
theorem one_int (kd : IntKind) (l : List Int) : ∀ u ∈ l.map (Value.int kd), u.oneCell' = true := ints_oneCell kd l
theorem rd_one (w : World) (x : Value) (t : TypeId) : Rd (w.alloc (.cells #[x] t)) (some ⟨w.heap.size, 0, none⟩) [x] := fun j u hj => by
  match j, hj with
  | 0, hj =>
    simp at hj
    subst hj
    exact ⟨_, rfl, by simp [Addr.add]⟩

theorem Try.infoEInts : (Try.prog.info? 3).map (fun i => (i.zero, i.size, i.bytes)) = some (some (.int .i64 0), 1, 8) := by kernel_rfl
theorem mk0Ints (n : Nat) (hn : n ≤ 1000000000) (w : World) : (Instr.makeSlice 29 (.int .i64 0) (.int .i64 ((n : Int) + 12))).run Try.prog w = .ok (.slice (some ⟨w.heap.size, 0, none⟩) 0 (n + 12)) (w.alloc (.cells (madeCells #[.int .i64 0] (n + 12)) 3)) := by
  obtain ⟨i0, hi, hz0, hz1, hz2⟩ := info_parts Try.infoEInts
  exact run_mk0 (P := Try.prog) 29 3 i0 _ Try.underlying29 hi hz0 hz1 0 (n + 12) ((n : Int) + 12) (by omega) (by omega) (by omega) (by omega) w
theorem appendInts {ops : Array Oper} {rest : List Oper} {o : Oper} {a : Act} {Q : Exit → Act → World → Prop} (w : World) (hgd : o.guard = none) (s x : Operand)
    (ho : o.op = .call { callee := .builtin .append, args := #[s, x], argTypes := #[29, 29] })
    (B : Nat) (A : Option Addr) (n c : Nat) (xs : List Int) (hs : a.eval s = .slice A n c) (hn : n = xs.length) (hown : Own w B 3 A c (xs.map (.int .i64)))
    (D : Option Addr) (m cc : Nat) (news : List Int) (hx : a.eval x = .slice D m cc) (hm : m = news.length) (hr : Rd w D (news.map (.int .i64)))
    (h63 : xs.length + news.length ≤ 10000000000000) (hbase : B ≤ w.heap.size)
    (h : ∀ A' c' m' w', m' = (xs ++ news).length → Own w' B 3 A' c' ((xs ++ news).map (.int .i64)) → Fr (blk A) w w' → (∀ i, blk A' i → blk A i ∨ w.heap.size ≤ i) → wpList Try.prog ops Q rest (a.put o.dst (.slice A' m' c')) w') : wpList Try.prog ops Q (o :: rest) a w := by
  obtain ⟨i0, hi, hz0, hz1, hz2⟩ := info_parts Try.infoEInts
  refine wpList_append_rd w hgd s x 29 ho 3 i0 _ 8 Try.underlying29 hi hz0 hz1 hz2 rfl B A n c (xs.map (.int .i64)) hs (by simpa using hn) hown D m cc (news.map (.int .i64)) hx (by simpa using hm) hr (one_int .i64 news) (by unfold maxLen; simp; omega) (by simp; omega) hbase ?_
  intro A' c' w' h1 h2 h3
  exact h A' c' _ w' (by simp) (by rw [List.map_append]; exact h1) h2 h3

set_option maxHeartbeats 400000 in
theorem lentInts_any (A : Option Addr) (c : Nat) (zs : List Int) (w : World) (hA : Rd w A (zs.map (.int .i64))) (hz : zs.length ≤ 1000000000) :
    Calls Try.prog 14 #[.slice A zs.length c] w (Lent .i64 (markI 1) zs w) := by
  have hmk := mk0Ints zs.length hz
  have hm0 := Own.made w w.heap.size 3 (.int .i64 0) (zs.length + 12) (Nat.le_refl _) (by omega)
  go_enter Try.func14, Try.ntmps14
  go_wp2_with (at_builtin; refine appendInts _ rfl _ _ rfl w.heap.size _ _ _ [] rfl rfl hm0 _ _ _ zs rfl rfl (hA.ext ((Ext.refl w).alloc _)) (by simp; omega) (by simp) ?_; intro A1 c1 m1 w1 hm1 hown hfr _; have hE1 : Ext w w1 := own_fresh hm0 ((Ext.refl w).alloc _) hfr; have HM1 := Lib.hid hm1; clear hm1 hfr hm0)
  clear hmk
  go_loopw [3, 4] (fun v i wr => LentRel .i64 3 (markI 1) zs w v i wr) (fun _ i _ => 12 - (intOf i).toNat)
  case atStart => exact ⟨0, _, _, _, by omega, rfl, rfl, by simpa using HM1.out, by simpa [mks] using hown, hE1⟩
  case round =>
    clear hown hE1 HM1
    obtain ⟨k, m, A2, c2, hk, rfl, rfl, hm, hown, hE⟩ := hrel
    have HM := Lib.hid hm
    clear hm
    by_cases hlt : k < 12
    · go_wp2_with (first | (go_at_call 37; refine (mark_any 1 k _ (by omega) (by omega)).mono ?_; rintro e w' ⟨rfl, rfl⟩) | (at_builtin; refine appendInts _ rfl _ _ rfl w.heap.size _ _ _ (zs ++ mks (markI 1) k) rfl (by rw [HM.out]; simp [mks_length]) (hown.ext ((Ext.refl _).alloc _)) _ _ _ [markI 1 k] rfl rfl (rd_one _ _ _) (by simp [mks_length]; omega) (by have := hE.sz; simp; omega) ?_; intro A1 c1 m1 w1 hm1 hown1 hfr _; have HM1 := Lib.hid hm1; have hE1 : Ext w w1 := own_fresh (hown.ext ((Ext.refl _).alloc _)) (hE.alloc _) hfr; have hown2 : Own w1 w.heap.size 3 A1 c1 ((zs ++ mks (markI 1) (k + 1)).map (Value.int .i64)) := (by rw [mks_succ, ← List.append_assoc]; exact hown1); clear hown1 hfr hm1))
      exact ⟨⟨k + 1, _, _, _, by omega, by go_num, rfl, by rw [HM1.out]; simp [mks_length, Nat.add_assoc], hown2, hE1⟩, by simp [intOf]; omega⟩
    · obtain rfl : k = 12 := by omega
      obtain ⟨g, rfl⟩ := hown.some_ (by simp [mks_length])
      have hcap := hown.cap
      have hc1 : zs.length + 12 ≤ c2 := by simpa [mks_length] using hcap.1
      have hc2 := Lib.hid hcap.2
      clear hcap
      obtain rfl := HM.out
      go_wp2
      go_ret
      exact ⟨g, c2, rfl, hc1, hc2.out, (hown.lt (i := g) rfl).1, hown.rd, hE⟩

def KeptRelInts (n : Nat) (w : World) (i : Value) (wr : World) : Prop := ∃ k : Nat, k ≤ n + 12 ∧ i = .int .i64 k ∧ Ext w wr
set_option maxHeartbeats 400000 in
theorem keptInts_any (g : Nat) (A : Option Addr) (c d : Nat) (zs : List Int) (w : World) (hg : Rd w (some ⟨g, 0, none⟩) ((zs ++ mks (markI 1) 12).map (Value.int .i64))) (hA : Rd w A (zs.map (.int .i64))) (hz : zs.length ≤ 1000000000) (hc : zs.length + 12 ≤ c) :
    Calls Try.prog 24 #[.slice (some ⟨g, 0, none⟩) zs.length c, .slice A zs.length d] w fun e w' => e = .returned (.bool true) ∧ Ext w w' := by
  have hne : ((zs.length : Int) != (zs.length : Int)) = false := by simp
  go_enter Try.func24, Try.ntmps24
  go_wp2
  go_loopw [6] (fun i wr => KeptRelInts zs.length w i wr) (fun i _ => zs.length + 12 - (intOf i).toNat)
  case atStart => exact ⟨0, Nat.zero_le _, rfl, Ext.refl _⟩
  case round =>
    obtain ⟨k, hk, rfl, hE⟩ := hrel
    by_cases hlt : k < zs.length + 12
    · obtain ⟨ad, x, had, h1, hx1⟩ := (hg.ext hE).int (i := k) (by simp [mks_length]; omega)
      injection had with had
      subst had
      rw [add_lit', Nat.zero_add] at h1
      by_cases hin : k < zs.length
      · obtain ⟨ad2, y, rfl, h2, hy1⟩ := (hA.ext hE).int hin
        rw [List.getElem?_append_left hin, hy1] at hx1
        injection hx1 with hx1
        subst hx1
        have hd1 : decide (zs.length ≤ k) = false := by simp; omega
        clear hy1
        go_wp2
        go_quiet (fail)
        go_wp2
        exact ⟨⟨k + 1, by omega, by go_num, hE.drewN _⟩, by simp [intOf]; omega⟩
      · rw [List.getElem?_append_right (by omega), mks_get _ (by omega)] at hx1
        injection hx1 with hx1
        subst hx1
        have hd1 : decide (k < zs.length) = false := by simp; omega
        have hd2 : decide (zs.length ≤ k) = true := by simp; omega
        have hw1 : IntKind.i64.wrap ((k : Int) - zs.length) = ((k - zs.length : Nat) : Int) := by rw [IntWalk.i64_in _ (by omega)]; omega
        go_wp2
        go_quiet ((go_at_call 37; exact Calls.quiet_of_same ((mark_any 1 (k - zs.length) _ (by omega) (by omega)).mono fun _ _ h => ⟨h.1, h.2.symm⟩)))
        go_wp2
        exact ⟨⟨k + 1, by omega, by go_num, hE.drewN _⟩, by simp [intOf]; omega⟩
    · obtain rfl : k = zs.length + 12 := by omega
      go_wp2
      go_ret
      exact ⟨rfl, hE⟩

theorem Try.infoEBytes : (Try.prog.info? 5).map (fun i => (i.zero, i.size, i.bytes)) = some (some (.int .u8 0), 1, 1) := by kernel_rfl
theorem mk0Bytes (n : Nat) (hn : n ≤ 1000000000) (w : World) : (Instr.makeSlice 25 (.int .i64 0) (.int .i64 ((n : Int) + 12))).run Try.prog w = .ok (.slice (some ⟨w.heap.size, 0, none⟩) 0 (n + 12)) (w.alloc (.cells (madeCells #[.int .u8 0] (n + 12)) 5)) := by
  obtain ⟨i0, hi, hz0, hz1, hz2⟩ := info_parts Try.infoEBytes
  exact run_mk0 (P := Try.prog) 25 5 i0 _ Try.underlying25 hi hz0 hz1 0 (n + 12) ((n : Int) + 12) (by omega) (by omega) (by omega) (by omega) w
theorem appendBytes {ops : Array Oper} {rest : List Oper} {o : Oper} {a : Act} {Q : Exit → Act → World → Prop} (w : World) (hgd : o.guard = none) (s x : Operand)
    (ho : o.op = .call { callee := .builtin .append, args := #[s, x], argTypes := #[25, 25] })
    (B : Nat) (A : Option Addr) (n c : Nat) (xs : List Int) (hs : a.eval s = .slice A n c) (hn : n = xs.length) (hown : Own w B 5 A c (xs.map (.int .u8)))
    (D : Option Addr) (m cc : Nat) (news : List Int) (hx : a.eval x = .slice D m cc) (hm : m = news.length) (hr : Rd w D (news.map (.int .u8)))
    (h63 : xs.length + news.length ≤ 10000000000000) (hbase : B ≤ w.heap.size)
    (h : ∀ A' c' m' w', m' = (xs ++ news).length → Own w' B 5 A' c' ((xs ++ news).map (.int .u8)) → Fr (blk A) w w' → (∀ i, blk A' i → blk A i ∨ w.heap.size ≤ i) → wpList Try.prog ops Q rest (a.put o.dst (.slice A' m' c')) w') : wpList Try.prog ops Q (o :: rest) a w := by
  obtain ⟨i0, hi, hz0, hz1, hz2⟩ := info_parts Try.infoEBytes
  refine wpList_append_rd w hgd s x 25 ho 5 i0 _ 1 Try.underlying25 hi hz0 hz1 hz2 rfl B A n c (xs.map (.int .u8)) hs (by simpa using hn) hown D m cc (news.map (.int .u8)) hx (by simpa using hm) hr (one_int .u8 news) (by unfold maxLen; simp; omega) (by simp; omega) hbase ?_
  intro A' c' w' h1 h2 h3
  exact h A' c' _ w' (by simp) (by rw [List.map_append]; exact h1) h2 h3

set_option maxHeartbeats 400000 in
theorem lentBytes_any (A : Option Addr) (c : Nat) (zs : List Int) (w : World) (hA : Rd w A (zs.map (.int .u8))) (hz : zs.length ≤ 1000000000) :
    Calls Try.prog 15 #[.slice A zs.length c] w (Lent .u8 (markB 1) zs w) := by
  have hmk := mk0Bytes zs.length hz
  have hm0 := Own.made w w.heap.size 5 (.int .u8 0) (zs.length + 12) (Nat.le_refl _) (by omega)
  go_enter Try.func15, Try.ntmps15
  go_wp2_with (at_builtin; refine appendBytes _ rfl _ _ rfl w.heap.size _ _ _ [] rfl rfl hm0 _ _ _ zs rfl rfl (hA.ext ((Ext.refl w).alloc _)) (by simp; omega) (by simp) ?_; intro A1 c1 m1 w1 hm1 hown hfr _; have hE1 : Ext w w1 := own_fresh hm0 ((Ext.refl w).alloc _) hfr; have HM1 := Lib.hid hm1; clear hm1 hfr hm0)
  clear hmk
  go_loopw [3, 4] (fun v i wr => LentRel .u8 5 (markB 1) zs w v i wr) (fun _ i _ => 12 - (intOf i).toNat)
  case atStart => exact ⟨0, _, _, _, by omega, rfl, rfl, by simpa using HM1.out, by simpa [mks] using hown, hE1⟩
  case round =>
    clear hown hE1 HM1
    obtain ⟨k, m, A2, c2, hk, rfl, rfl, hm, hown, hE⟩ := hrel
    have HM := Lib.hid hm
    clear hm
    by_cases hlt : k < 12
    · go_wp2_with (first | (go_at_call 38; refine (markByte_any 1 k _ (by omega) (by omega)).mono ?_; rintro e w' ⟨rfl, rfl⟩) | (at_builtin; refine appendBytes _ rfl _ _ rfl w.heap.size _ _ _ (zs ++ mks (markB 1) k) rfl (by rw [HM.out]; simp [mks_length]) (hown.ext ((Ext.refl _).alloc _)) _ _ _ [markB 1 k] rfl rfl (rd_one _ _ _) (by simp [mks_length]; omega) (by have := hE.sz; simp; omega) ?_; intro A1 c1 m1 w1 hm1 hown1 hfr _; have HM1 := Lib.hid hm1; have hE1 : Ext w w1 := own_fresh (hown.ext ((Ext.refl _).alloc _)) (hE.alloc _) hfr; have hown2 : Own w1 w.heap.size 5 A1 c1 ((zs ++ mks (markB 1) (k + 1)).map (Value.int .u8)) := (by rw [mks_succ, ← List.append_assoc]; exact hown1); clear hown1 hfr hm1))
      exact ⟨⟨k + 1, _, _, _, by omega, by go_num, rfl, by rw [HM1.out]; simp [mks_length, Nat.add_assoc], hown2, hE1⟩, by simp [intOf]; omega⟩
    · obtain rfl : k = 12 := by omega
      obtain ⟨g, rfl⟩ := hown.some_ (by simp [mks_length])
      have hcap := hown.cap
      have hc1 : zs.length + 12 ≤ c2 := by simpa [mks_length] using hcap.1
      have hc2 := Lib.hid hcap.2
      clear hcap
      obtain rfl := HM.out
      go_wp2
      go_ret
      exact ⟨g, c2, rfl, hc1, hc2.out, (hown.lt (i := g) rfl).1, hown.rd, hE⟩

def KeptRelBytes (n : Nat) (w : World) (i : Value) (wr : World) : Prop := ∃ k : Nat, k ≤ n + 12 ∧ i = .int .i64 k ∧ Ext w wr
set_option maxHeartbeats 400000 in
theorem keptBytes_any (g : Nat) (A : Option Addr) (c d : Nat) (zs : List Int) (w : World) (hg : Rd w (some ⟨g, 0, none⟩) ((zs ++ mks (markB 1) 12).map (Value.int .u8))) (hA : Rd w A (zs.map (.int .u8))) (hz : zs.length ≤ 1000000000) (hc : zs.length + 12 ≤ c) :
    Calls Try.prog 25 #[.slice (some ⟨g, 0, none⟩) zs.length c, .slice A zs.length d] w fun e w' => e = .returned (.bool true) ∧ Ext w w' := by
  have hne : ((zs.length : Int) != (zs.length : Int)) = false := by simp
  go_enter Try.func25, Try.ntmps25
  go_wp2
  go_loopw [6] (fun i wr => KeptRelBytes zs.length w i wr) (fun i _ => zs.length + 12 - (intOf i).toNat)
  case atStart => exact ⟨0, Nat.zero_le _, rfl, Ext.refl _⟩
  case round =>
    obtain ⟨k, hk, rfl, hE⟩ := hrel
    by_cases hlt : k < zs.length + 12
    · obtain ⟨ad, x, had, h1, hx1⟩ := (hg.ext hE).int (i := k) (by simp [mks_length]; omega)
      injection had with had
      subst had
      rw [add_lit', Nat.zero_add] at h1
      by_cases hin : k < zs.length
      · obtain ⟨ad2, y, rfl, h2, hy1⟩ := (hA.ext hE).int hin
        rw [List.getElem?_append_left hin, hy1] at hx1
        injection hx1 with hx1
        subst hx1
        have hd1 : decide (zs.length ≤ k) = false := by simp; omega
        clear hy1
        go_wp2
        go_quiet (fail)
        go_wp2
        exact ⟨⟨k + 1, by omega, by go_num, hE.drewN _⟩, by simp [intOf]; omega⟩
      · rw [List.getElem?_append_right (by omega), mks_get _ (by omega)] at hx1
        injection hx1 with hx1
        subst hx1
        have hd1 : decide (k < zs.length) = false := by simp; omega
        have hd2 : decide (zs.length ≤ k) = true := by simp; omega
        have hw1 : IntKind.i64.wrap ((k : Int) - zs.length) = ((k - zs.length : Nat) : Int) := by rw [IntWalk.i64_in _ (by omega)]; omega
        go_wp2
        go_quiet ((go_at_call 38; exact Calls.quiet_of_same ((markByte_any 1 (k - zs.length) _ (by omega) (by omega)).mono fun _ _ h => ⟨h.1, h.2.symm⟩)))
        go_wp2
        exact ⟨⟨k + 1, by omega, by go_num, hE.drewN _⟩, by simp [intOf]; omega⟩
    · obtain rfl : k = zs.length + 12 := by omega
      go_wp2
      go_ret
      exact ⟨rfl, hE⟩
end Go.Proofs.Ytfpabbhgmncjdaa
