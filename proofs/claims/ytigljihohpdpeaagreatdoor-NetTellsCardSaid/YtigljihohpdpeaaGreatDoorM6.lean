/-
  Contracts of the verifier's small functions: Pick, mark, markByte, SameBytes.
  Contracts of LentInts, LentBytes, KeptInts, KeptBytes.
-/
import Derived.Test.YtigljihohpdpeaaGreatDoorRows
import Derived.Test.YtigljihohpdpeaaGreatDoorApp
import Derived.WalkKit
import Derived.WalkSpells
import Derived.WalkLawsBesides
import Derived.Handy
import Derived.Deep.QuietTactic
import Derived.BigQuiet
import Derived.RegionTactic
import Derived.Deep.RegionWith
import Derived.Deep.RegionHeld3
import Derived.StillTailTactics
import Derived.Deep.DeepCutAuto
import Derived.Lib.Hide
import Derived.Outline
namespace Go.Proofs.YtigljihohpdpeaaGreatDoor
open Go.RowKit

theorem Ext.drewN {a b : World} (h : Ext a b) (n : Nat) : Ext a (b.drewN n) := ⟨h.os, h.tape, h.output, h.size, h.block⟩

theorem tmod_neg (x n : Int) (hn : 1 ≤ n) (h : x.tmod n < 0) : x.tmod n + n = x % n := by
  have h2 := Int.emod_nonneg x (show n ≠ 0 by omega)
  have h3 := Int.tmod_eq_emod (a := x) (b := n)
  rcases Int.lt_or_le x 0 with h1 | h1
  rotate_left
  · have := Int.tmod_nonneg n h1
    omega
  · split at h3
    · omega
    · rw [h3]; omega
theorem tmod_pos (x n : Int) (hn : 1 ≤ n) (h : ¬ x.tmod n < 0) : x.tmod n = x % n := by
  have h2 := Int.emod_lt_of_pos x (show 0 < n by omega)
  have h3 := Int.tmod_eq_emod (a := x) (b := n)
  split at h3
  · omega
  · rw [h3] at h; omega

def markI (k i : Nat) : Int := 1000003 * ((k : Int) + 7) + i
def markB (k i : Nat) : Int := IntKind.u64.wrap (markI k i * 11400714819323198485) / 72057594037927936 % 256
theorem take_snoc' {α : Type} {xs : List α} {k : Nat} {x : α} (h : xs[k]? = some x) : xs.take (k + 1) = xs.take k ++ [x] := by
  have hl : k < xs.length := by
    rcases Nat.lt_or_ge k xs.length with g | g
    · exact g
    · rw [List.getElem?_eq_none g] at h; cases h
  rw [List.take_succ_eq_append_getElem hl]
  rw [List.getElem?_eq_getElem hl] at h
  injection h with h
  rw [h]

def SameRel (n : Nat) (xs ys : List Int) (w : World) (i : Value) (wr : World) : Prop := ∃ k : Nat, k ≤ n ∧ i = .int .i64 k ∧ xs.take k = ys.take k ∧ Ext w wr
set_option maxHeartbeats 1000000 in
theorem sameBytes_any (A D : Option Addr) (c d : Nat) (xs ys : List Int) (w : World) (hA : Rd w A (xs.map (.int .u8))) (hD : Rd w D (ys.map (.int .u8))) (hx : xs.length ≤ maxLen) (hy : ys.length ≤ maxLen) :
    Calls Tryz.prog 51 #[.slice A xs.length c, .slice D ys.length d] w fun e w' => e = .returned (.bool (decide (xs = ys))) ∧ Ext w w' := by
  unfold maxLen at hx hy
  by_cases hl : xs.length = ys.length
  · have hne : ((xs.length : Int) != (ys.length : Int)) = false := by simp [hl]
    have HL := Lib.hid hl
    clear hl
    go_enter Tryz.func51, Tryz.ntmps51
    go_wp2
    go_loopw [5] (fun i wr => SameRel xs.length xs ys w i wr) (fun i _ => xs.length - (intOf i).toNat)
    case atStart => exact ⟨0, Nat.zero_le _, rfl, rfl, Ext.refl _⟩
    case round =>
      obtain ⟨k, hk, rfl, ht, hE⟩ := hrel
      have HT := Lib.hid ht
      clear ht
      by_cases hlt : k < xs.length
      · have hlt2 : k < ys.length := by have := HL.out; omega
        obtain ⟨ad, x, rfl, h1, hx1⟩ := (hA.ext hE).int hlt
        obtain ⟨ad2, y, rfl, h2, hy1⟩ := (hD.ext hE).int hlt2
        have HX := Lib.hid hx1
        have HY := Lib.hid hy1
        clear hx1 hy1
        by_cases heq : x = y
        · subst heq
          go_wp2
          go_quiet (fail)
          go_wp2
          exact ⟨⟨k + 1, by omega, by go_num, by rw [take_snoc' HX.out, take_snoc' HY.out, HT.out], hE.drewN _⟩, by simp [intOf]; omega⟩
        · have hb : (x != y) = true := by simpa using heq
          have HQ := Lib.hid heq
          clear heq
          go_wp2
          go_quiet (fail)
          go_wp2
          go_ret
          refine ⟨?_, hE.drewN _⟩
          have hn : ¬ xs = ys := fun h => HQ.out (by have h1 := HX.out; rw [h, HY.out] at h1; injection h1 with h1; exact h1.symm)
          simp [hn]
      · go_wp2
        go_ret
        refine ⟨?_, hE⟩
        have h1 := HT.out
        rw [List.take_of_length_le (by omega), List.take_of_length_le (by have := HL.out; omega)] at h1
        simp [h1]
  · have hne : ((xs.length : Int) != (ys.length : Int)) = true := by simp; omega
    have hn : ¬ xs = ys := fun h => hl (by rw [h])
    have HN := Lib.hid hn
    clear hn hl
    go_enter Tryz.func51, Tryz.ntmps51
    go_wp2
    go_ret
    exact ⟨by simp [HN.out], Ext.refl _⟩
end Go.Proofs.YtigljihohpdpeaaGreatDoor
namespace Go.Proofs.YtigljihohpdpeaaGreatDoor
open Go.RowKit

theorem run_mk0 {P : Program} (t e : TypeId) (i : TypeInfo) (z : Value) (ht : P.underlying t = some (.slice e)) (hi : P.info? e = some i) (hz : i.zero = some z) (hs : i.size = 1)
    (n c : Nat) (x : Int) (hx : x = c) (hnc : n ≤ c) (hb : i.bytes ≤ 64) (hc : c ≤ 1000000000000) (w : World) :
    (Instr.makeSlice t (.int .i64 (n : Int)) (.int .i64 x)).run P w = .ok (.slice (some ⟨w.heap.size, 0, none⟩) n c) (w.alloc (.cells (madeCells z.cells c) e)) := by
  subst hx
  have h : i.bytes * c ≤ 64 * 1000000000000 := Nat.mul_le_mul hb hc
  have h' : ((i.bytes * c : Nat) : Int) ≤ 281474976710656 := by omega
  rw [Int.natCast_mul] at h'
  have hr := run_make (P := P) w t e i z ht hi hz .i64 .i64 n c (by omega) (by omega) h' (by omega)
  simpa [hs] using hr

theorem Own.made (w : World) (B : Nat) (e : TypeId) (z : Value) (c : Nat) (hB : B ≤ w.heap.size) (hc : c ≤ 1000000000000) : Own (w.alloc (.cells (madeCells z.cells c) e)) B e (some ⟨w.heap.size, 0, none⟩) c [] :=
  Own.mk hB (heap_alloc_new w _) (by simp) (by unfold maxLen; omega) (size_madeCells _ _) rfl

def mks (mk : Nat → Int) (k : Nat) : List Int := (List.range k).map mk
theorem mks_succ (mk : Nat → Int) (k : Nat) : mks mk (k + 1) = mks mk k ++ [mk k] := by simp [mks, List.range_succ]
theorem mks_length (mk : Nat → Int) (k : Nat) : (mks mk k).length = k := by simp [mks]
theorem mks_get (mk : Nat → Int) {k n : Nat} (h : k < n) : (mks mk n)[k]? = some (mk k) := by simp [mks, h]

/-- What a Lent leaves: a new row with marks behind. -/
def Lent (kd : IntKind) (mk : Nat → Int) (zs : List Int) (w : World) (e : Ending) (w' : World) : Prop :=
  ∃ g c', e = .returned (.slice (some ⟨g, 0, none⟩) zs.length c') ∧ zs.length + 12 ≤ c' ∧ c' ≤ maxLen ∧ w.heap.size ≤ g ∧ Rd w' (some ⟨g, 0, none⟩) ((zs ++ mks mk 12).map (Value.int kd)) ∧ Ext w w'

def LentRel (kd : IntKind) (et : TypeId) (mk : Nat → Int) (zs : List Int) (w : World) (v i : Value) (wr : World) : Prop :=
  ∃ (k m : Nat) (A : Option Addr) (c : Nat), k ≤ 12 ∧ i = .int .i64 k ∧ v = .slice A m c ∧ m = zs.length + k ∧ Own wr w.heap.size et A c ((zs ++ mks mk k).map (Value.int kd)) ∧ Ext w wr
theorem own_fresh {w w1 w2 : World} {et : TypeId} {A : Option Addr} {c : Nat} {xs : List Value} (h : Own w1 w.heap.size et A c xs) (hE : Ext w w1) (hf : Fr (blk A) w1 w2) : Ext w w2 := by
  have h1 : Below w.heap.size w1 w2 := hf.below hE.sz (fun i hi => (h.lt hi).1)
  exact Below.trans hE h1
theorem one_int (kd : IntKind) (l : List Int) : ∀ u ∈ l.map (Value.int kd), u.oneCell' = true := ints_oneCell kd l
theorem rd_one (w : World) (x : Value) (t : TypeId) : Rd (w.alloc (.cells #[x] t)) (some ⟨w.heap.size, 0, none⟩) [x] := fun j u hj => by
  match j, hj with
  | 0, hj =>
    simp at hj
    subst hj
    exact ⟨_, rfl, by simp [Addr.add]⟩

theorem Tryz.infoEInts : (Tryz.prog.info? 3).map (fun i => (i.zero, i.size, i.bytes)) = some (some (.int .i64 0), 1, 8) := by kernel_rfl
theorem mk0Ints (n : Nat) (hn : n ≤ 1000000000) (w : World) : (Instr.makeSlice 38 (.int .i64 0) (.int .i64 ((n : Int) + 12))).run Tryz.prog w = .ok (.slice (some ⟨w.heap.size, 0, none⟩) 0 (n + 12)) (w.alloc (.cells (madeCells #[.int .i64 0] (n + 12)) 3)) := by
  obtain ⟨i0, hi, hz0, hz1, hz2⟩ := info_parts Tryz.infoEInts
  exact run_mk0 (P := Tryz.prog) 38 3 i0 _ Tryz.underlying38 hi hz0 hz1 0 (n + 12) ((n : Int) + 12) (by omega) (by omega) (by omega) (by omega) w
theorem appendInts {ops : Array Oper} {rest : List Oper} {o : Oper} {a : Act} {Q : Exit → Act → World → Prop} (w : World) (hgd : o.guard = none) (s x : Operand)
    (ho : o.op = .call { callee := .builtin .append, args := #[s, x], argTypes := #[38, 38] })
    (B : Nat) (A : Option Addr) (n c : Nat) (xs : List Int) (hs : a.eval s = .slice A n c) (hn : n = xs.length) (hown : Own w B 3 A c (xs.map (.int .i64)))
    (D : Option Addr) (m cc : Nat) (news : List Int) (hx : a.eval x = .slice D m cc) (hm : m = news.length) (hr : Rd w D (news.map (.int .i64)))
    (h63 : xs.length + news.length ≤ 10000000000000) (hbase : B ≤ w.heap.size)
    (h : ∀ A' c' m' w', m' = (xs ++ news).length → Own w' B 3 A' c' ((xs ++ news).map (.int .i64)) → Fr (blk A) w w' → (∀ i, blk A' i → blk A i ∨ w.heap.size ≤ i) → wpList Tryz.prog ops Q rest (a.put o.dst (.slice A' m' c')) w') : wpList Tryz.prog ops Q (o :: rest) a w := by
  obtain ⟨i0, hi, hz0, hz1, hz2⟩ := info_parts Tryz.infoEInts
  refine wpList_append_rd w hgd s x 38 ho 3 i0 _ 8 Tryz.underlying38 hi hz0 hz1 hz2 rfl B A n c (xs.map (.int .i64)) hs (by simpa using hn) hown D m cc (news.map (.int .i64)) hx (by simpa using hm) hr (one_int .i64 news) (by unfold maxLen; simp; omega) (by simp; omega) hbase ?_
  intro A' c' w' h1 h2 h3
  exact h A' c' _ w' (by simp) (by rw [List.map_append]; exact h1) h2 h3

def KeptRelInts (n : Nat) (w : World) (i : Value) (wr : World) : Prop := ∃ k : Nat, k ≤ n + 12 ∧ i = .int .i64 k ∧ Ext w wr
theorem Tryz.infoEBytes : (Tryz.prog.info? 5).map (fun i => (i.zero, i.size, i.bytes)) = some (some (.int .u8 0), 1, 1) := by kernel_rfl
theorem mk0Bytes (n : Nat) (hn : n ≤ 1000000000) (w : World) : (Instr.makeSlice 42 (.int .i64 0) (.int .i64 ((n : Int) + 12))).run Tryz.prog w = .ok (.slice (some ⟨w.heap.size, 0, none⟩) 0 (n + 12)) (w.alloc (.cells (madeCells #[.int .u8 0] (n + 12)) 5)) := by
  obtain ⟨i0, hi, hz0, hz1, hz2⟩ := info_parts Tryz.infoEBytes
  exact run_mk0 (P := Tryz.prog) 42 5 i0 _ Tryz.underlying42 hi hz0 hz1 0 (n + 12) ((n : Int) + 12) (by omega) (by omega) (by omega) (by omega) w
theorem appendBytes {ops : Array Oper} {rest : List Oper} {o : Oper} {a : Act} {Q : Exit → Act → World → Prop} (w : World) (hgd : o.guard = none) (s x : Operand)
    (ho : o.op = .call { callee := .builtin .append, args := #[s, x], argTypes := #[42, 42] })
    (B : Nat) (A : Option Addr) (n c : Nat) (xs : List Int) (hs : a.eval s = .slice A n c) (hn : n = xs.length) (hown : Own w B 5 A c (xs.map (.int .u8)))
    (D : Option Addr) (m cc : Nat) (news : List Int) (hx : a.eval x = .slice D m cc) (hm : m = news.length) (hr : Rd w D (news.map (.int .u8)))
    (h63 : xs.length + news.length ≤ 10000000000000) (hbase : B ≤ w.heap.size)
    (h : ∀ A' c' m' w', m' = (xs ++ news).length → Own w' B 5 A' c' ((xs ++ news).map (.int .u8)) → Fr (blk A) w w' → (∀ i, blk A' i → blk A i ∨ w.heap.size ≤ i) → wpList Tryz.prog ops Q rest (a.put o.dst (.slice A' m' c')) w') : wpList Tryz.prog ops Q (o :: rest) a w := by
  obtain ⟨i0, hi, hz0, hz1, hz2⟩ := info_parts Tryz.infoEBytes
  refine wpList_append_rd w hgd s x 42 ho 5 i0 _ 1 Tryz.underlying42 hi hz0 hz1 hz2 rfl B A n c (xs.map (.int .u8)) hs (by simpa using hn) hown D m cc (news.map (.int .u8)) hx (by simpa using hm) hr (one_int .u8 news) (by unfold maxLen; simp; omega) (by simp; omega) hbase ?_
  intro A' c' w' h1 h2 h3
  exact h A' c' _ w' (by simp) (by rw [List.map_append]; exact h1) h2 h3

def KeptRelBytes (n : Nat) (w : World) (i : Value) (wr : World) : Prop := ∃ k : Nat, k ≤ n + 12 ∧ i = .int .i64 k ∧ Ext w wr
end Go.Proofs.YtigljihohpdpeaaGreatDoor
