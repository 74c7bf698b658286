/-
  The letters' small tests: within, holds, right, someones.
  Members: entry.Right.
  Members of bytes; what a good entry is.
-/
import Derived.Test.YtcapapnhlkmeaaaGreatDoorM8
import Derived.Test.YtcapapnhlkmeaaaGreatDoorM6
import Derived.Laws.StructEq
namespace Go.Proofs.YtcapapnhlkmeaaaGreatDoor
open Go.RowKit

def inR (n lo hi : Int) : Bool := decide (lo ≤ n) && decide (n ≤ hi)
theorem inR_iff {n lo hi : Int} : inR n lo hi = true ↔ lo ≤ n ∧ n ≤ hi := by simp [inR]
theorem inR_no {n lo hi : Int} : inR n lo hi = false ↔ ¬ (lo ≤ n ∧ n ≤ hi) := by rw [← inR_iff]; simp
theorem within_any (n lo hi : Int) (w : World) : Calls Tryz.prog 108 #[.int .i64 n, .int .i64 lo, .int .i64 hi] w fun e w' => e = .returned (.bool (inR n lo hi)) ∧ w = w' := by
  by_cases h1 : lo ≤ n
  · have hd1 : decide (lo ≤ n) = true := by simpa using h1
    by_cases h2 : n ≤ hi
    · have hd2 : decide (n ≤ hi) = true := by simpa using h2
      have hv : Hid (inR n lo hi = true) := Lib.hid (by simp [inR, h1, h2])
      go_enter Tryz.func108, Tryz.ntmps108
      go_wp2
      go_ret
      exact ⟨by rw [hv.out]; rfl, rfl⟩
    · have hd2 : decide (n ≤ hi) = false := by simpa using h2
      have hv : Hid (inR n lo hi = false) := Lib.hid (by simp [inR, h1, h2])
      go_enter Tryz.func108, Tryz.ntmps108
      go_wp2
      go_ret
      exact ⟨by rw [hv.out]; rfl, rfl⟩
  · have hd1 : decide (lo ≤ n) = false := by simpa using h1
    have hv : Hid (inR n lo hi = false) := Lib.hid (by simp [inR, h1])
    go_enter Tryz.func108, Tryz.ntmps108
    go_wp2
    go_ret
    exact ⟨by rw [hv.out]; rfl, rfl⟩

/-- What holds tells. -/
def holdsV (s : ByteArray) (ok : Bool) : Value := if ok = true then .nilIface else partV s
theorem holds_part (s : ByteArray) (ok : Bool) (w : World) : Calls Tryz.prog 62 #[.string s, .bool ok] w fun e w' => e = .returned (holdsV s ok) ∧ w = w' := by
  cases ok
  all_goals
    go_enter Tryz.func62, Tryz.ntmps62
    go_wp2
    go_ret
    exact ⟨rfl, rfl⟩

def idV (i t k : Int) : Value := .agg #[.int .i64 i, .int .i64 t, .int .i64 k]
def zeroId (i t k : Int) : Bool := i == 0 && (t == 0 && k == 0)
theorem eqId (i t k i' t' k' : Int) (w : World) : (binOp .eql 25 (.agg #[.int .i64 i, .int .i64 t, .int .i64 k]) (.agg #[.int .i64 i', .int .i64 t', .int .i64 k'])).run Tryz.prog w = .ok (.bool (i == i' && (t == t' && k == k'))) w := by
  have hf : Tryz.prog.fieldsOf 25 = Tryz.prog.fieldsOf 25 := rfl
  cases h1 : i == i' <;> cases h2 : t == t' <;> cases h3 : k == k'
  all_goals simp [go_sem, h1, h2, h3, Tryz.underlying25, Tryz.underlying3, Tryz.underlying23]

def rightI (i t k : Int) : Bool := zeroId i t k || (inR i 1 1099511627776 && (inR t 0 1099511627776 && (decide (1 ≤ k) && decide (k ≤ 3))))
set_option maxHeartbeats 600000 in
theorem rightId_any (i t k : Int) (w : World) : Calls Tryz.prog 109 #[idV i t k] w fun e w' => e = .returned (.bool (rightI i t k)) ∧ Ext w w' := by
  have heq := eqId i t k 0 0 0
  unfold idV
  cases h0 : zeroId i t k with
  | true =>
    have hz : (i == 0 && (t == 0 && k == 0)) = true := h0
    have hv : Hid (rightI i t k = true) := Lib.hid (by simp [rightI, h0])
    rw [hz] at heq
    clear hz h0
    go_enter Tryz.func109, Tryz.ntmps109
    go_wp2_with (go_at_call 108; refine (within_any _ _ _ _).mono ?_; rintro e w' ⟨rfl, rfl⟩)
    go_ret
    exact ⟨by rw [hv.out]; rfl, (Ext.refl _).alloc _⟩
  | false =>
    have hz : (i == 0 && (t == 0 && k == 0)) = false := h0
    rw [hz] at heq
    clear hz
    cases h1 : inR i 1 1099511627776 with
    | false =>
      have hv : Hid (rightI i t k = false) := Lib.hid (by simp [rightI, h0, h1])
      clear h0
      go_enter Tryz.func109, Tryz.ntmps109
      go_wp2_with (go_at_call 108; refine (within_any _ _ _ _).mono ?_; rintro e w' ⟨rfl, rfl⟩)
      go_ret
      exact ⟨by rw [hv.out]; rfl, (Ext.refl _).alloc _⟩
    | true =>
      cases h2 : inR t 0 1099511627776 with
      | false =>
        have hv : Hid (rightI i t k = false) := Lib.hid (by simp [rightI, h0, h1, h2])
        clear h0
        go_enter Tryz.func109, Tryz.ntmps109
        go_wp2_with (go_at_call 108; refine (within_any _ _ _ _).mono ?_; rintro e w' ⟨rfl, rfl⟩)
        go_ret
        exact ⟨by rw [hv.out]; rfl, (Ext.refl _).alloc _⟩
      | true =>
        cases h3 : decide (1 ≤ k) with
        | false =>
          have hv : Hid (rightI i t k = false) := Lib.hid (by simp [rightI, h0, h1, h2, h3])
          clear h0
          go_enter Tryz.func109, Tryz.ntmps109
          go_wp2_with (go_at_call 108; refine (within_any _ _ _ _).mono ?_; rintro e w' ⟨rfl, rfl⟩)
          go_ret
          exact ⟨by rw [hv.out]; rfl, (Ext.refl _).alloc _⟩
        | true =>
          cases h4 : decide (k ≤ 3) with
          | false =>
            have hv : Hid (rightI i t k = false) := Lib.hid (by simp [rightI, h0, h1, h2, h3, h4])
            clear h0
            go_enter Tryz.func109, Tryz.ntmps109
            go_wp2_with (go_at_call 108; refine (within_any _ _ _ _).mono ?_; rintro e w' ⟨rfl, rfl⟩)
            go_ret
            exact ⟨by rw [hv.out]; rfl, (Ext.refl _).alloc _⟩
          | true =>
            have hv : Hid (rightI i t k = true) := Lib.hid (by simp [rightI, h0, h1, h2, h3, h4])
            clear h0
            go_enter Tryz.func109, Tryz.ntmps109
            go_wp2_with (go_at_call 108; refine (within_any _ _ _ _).mono ?_; rintro e w' ⟨rfl, rfl⟩)
            go_ret
            exact ⟨by rw [hv.out]; rfl, (Ext.refl _).alloc _⟩

def someI (i t k : Int) : Bool := inR i 1 1099511627776 && rightI i t k
set_option maxHeartbeats 600000 in
theorem someones_any (i t k : Int) (w : World) : Calls Tryz.prog 113 #[idV i t k] w fun e w' => e = .returned (.bool (someI i t k)) ∧ Ext w w' := by
  have hR := fun w => rightId_any i t k w
  unfold idV at hR ⊢
  have HR := Lib.hid hR
  clear hR
  cases h1 : inR i 1 1099511627776 with
  | false =>
    have hv : Hid (someI i t k = false) := Lib.hid (by simp [someI, h1])
    go_enter Tryz.func113, Tryz.ntmps113
    go_wp2_with (go_at_call 108; refine (within_any _ _ _ _).mono ?_; rintro e w' ⟨rfl, rfl⟩)
    go_ret
    exact ⟨by rw [hv.out]; rfl, (Ext.refl _).alloc _⟩
  | true =>
    have hv : Hid (someI i t k = rightI i t k) := Lib.hid (by simp [someI, h1])
    go_enter Tryz.func113, Tryz.ntmps113
    go_wp2_with (first | (go_at_call 108; refine (within_any _ _ _ _).mono ?_; rintro e w' ⟨rfl, rfl⟩) | (go_at_call 109; refine (HR.out _).mono ?_; rintro e w1 ⟨rfl, hE1⟩))
    go_ret
    exact ⟨by rw [hv.out]; rfl, ((Ext.refl _).alloc _).trans hE1⟩
end Go.Proofs.YtcapapnhlkmeaaaGreatDoor
namespace Go.Proofs.YtcapapnhlkmeaaaGreatDoor
open Go.RowKit

def memAt (ms : List Int) (k : Nat) : Bool := inR (ms.getD k 0) 1 7 && (decide (k = 0) || decide (ms.getD (k - 1) 0 < ms.getD k 0))
def memR (ms : List Int) : Bool := decide (0 < ms.length) && (List.range ms.length).all (memAt ms)
theorem memR_yes {ms : List Int} (h0 : 0 < ms.length) (h : ∀ j, j < ms.length → memAt ms j = true) : memR ms = true := by
  simp only [memR, Bool.and_eq_true, decide_eq_true_eq, List.all_eq_true, List.mem_range]
  exact ⟨h0, h⟩
theorem memR_no {ms : List Int} {k : Nat} (hk : k < ms.length) (h : memAt ms k = false) : memR ms = false := by
  rw [Bool.eq_false_iff]
  intro hm
  simp only [memR, Bool.and_eq_true, decide_eq_true_eq, List.all_eq_true, List.mem_range] at hm
  rw [hm.2 k hk] at h
  cases h
theorem getD_of {α : Type} {l : List α} {k : Nat} {x d : α} (h : l[k]? = some x) : l.getD k d = x := by simp [List.getD, h]

set_option maxHeartbeats 1000000 in
theorem members_any (A : Option Addr) (c : Nat) (ms : List Int) (w : World) (hA : Rd w A (ms.map (.int .i64))) (hl : ms.length ≤ maxLen) :
    Calls Tryz.prog 144 #[.slice A ms.length c] w fun e w' => e = .returned (.bool (memR ms)) ∧ w = w' := by
  unfold maxLen at hl
  go_enter Tryz.func144, Tryz.ntmps144
  go_wp2
  go_loop [7] (fun i => ∃ k : Nat, k ≤ ms.length ∧ i = .int .i64 k ∧ ∀ j, j < k → memAt ms j = true) (fun i => ms.length - (intOf i).toNat)
  case atStart => exact ⟨0, Nat.zero_le _, rfl, fun j hj => by omega⟩
  case round =>
    obtain ⟨k, hk, rfl, hr⟩ := hrel
    have HR := Lib.hid hr
    clear hr
    by_cases hlt : k < ms.length
    · obtain ⟨ad, x, rfl, hc, hx⟩ := hA.int hlt
      have HX := Lib.hid (getD_of (d := 0) hx)
      clear hx
      by_cases h1 : 1 ≤ x
      · have d1 : decide (x < 1) = false := by simp; omega
        by_cases h7 : x ≤ 7
        · have d7 : decide (7 < x) = false := by simp; omega
          rcases k with _ | q
          · have hc0 : w.cell? ad = some (.int .i64 x) := by simpa [Addr.add] using hc
            have hM : Hid (memAt ms 0 = true) := Lib.hid (by unfold memAt; rw [HX.out]; simp [inR, h1, h7])
            go_wp2
            go_round
            case rel => exact ⟨1, by omega, by go_num, fun j hj => by obtain rfl : j = 0 := (by omega); exact hM.out⟩
            case measure => simp [intOf]; omega
          · have hc1 : w.cell? ⟨ad.block, ad.off + (q + 1), none⟩ = some (.int .i64 x) := by simpa [Addr.add] using hc
            obtain ⟨ad', y, ha, hcy, hy⟩ := hA.int (i := q) (by omega)
            injection ha with ha
            subst ha
            have HY := Lib.hid (getD_of (d := 0) hy)
            clear hy
            by_cases hp : y < x
            · have dp : decide (x ≤ y) = false := by simp; omega
              have hM : Hid (memAt ms (q + 1) = true) := Lib.hid (by unfold memAt; rw [Nat.add_sub_cancel, HX.out, HY.out]; simp [inR, h1, h7, hp])
              go_wp2
              go_round
              case rel => exact ⟨q + 1 + 1, by omega, by go_num, fun j hj => by
                by_cases e : j = q + 1
                · subst e; exact hM.out
                · exact HR.out j (by omega)⟩
              case measure => simp [intOf]; omega
            · have dp : decide (x ≤ y) = true := by simp; omega
              have hM : Hid (memR ms = false) := Lib.hid (memR_no hlt (by unfold memAt; rw [Nat.add_sub_cancel, HX.out, HY.out]; simp [hp]))
              go_wp2
              go_ret
              exact ⟨by rw [hM.out]; rfl, rfl⟩
        · have d7 : decide (7 < x) = true := by simp; omega
          have hM : Hid (memR ms = false) := Lib.hid (memR_no hlt (by unfold memAt; rw [HX.out]; simp [inR, h7]))
          go_wp2
          go_ret
          exact ⟨by rw [hM.out]; rfl, rfl⟩
      · have d1 : decide (x < 1) = true := by simp; omega
        have hM : Hid (memR ms = false) := Lib.hid (memR_no hlt (by unfold memAt; rw [HX.out]; simp [inR, h1]))
        go_wp2
        go_ret
        exact ⟨by rw [hM.out]; rfl, rfl⟩
    · obtain rfl : k = ms.length := by omega
      by_cases h0 : 0 < ms.length
      · have d0 : decide (0 < ms.length) = true := by simpa using h0
        have hM : Hid (memR ms = true) := Lib.hid (memR_yes h0 HR.out)
        go_wp2
        go_ret
        exact ⟨by rw [hM.out]; rfl, rfl⟩
      · have hM : Hid (memR ms = false) := Lib.hid (by simp [memR, h0])
        have d0 : decide (0 < ms.length) = false := by simpa using h0
        go_wp2
        go_ret
        exact ⟨by rw [hM.out]; rfl, rfl⟩
end Go.Proofs.YtcapapnhlkmeaaaGreatDoor
namespace Go.Proofs.YtcapapnhlkmeaaaGreatDoor
open Go.RowKit

theorem mkInts (n : Nat) (hn : n ≤ 1000000000) (w : World) : (Instr.makeSlice 28 (.int .i64 (n : Int)) (.int .i64 (n : Int))).run Tryz.prog w = .ok (.slice (some ⟨w.heap.size, 0, none⟩) n n) (w.alloc (.cells (madeCells #[.int .i64 0] n) 3)) := by
  obtain ⟨i0, hi, hz0, hz1, hz2⟩ := info_parts Tryz.infoEInts
  exact run_mk0 (P := Tryz.prog) 28 3 i0 _ Tryz.underlying28 hi hz0 hz1 n n (n : Int) rfl (by omega) (by omega) (by omega) w
theorem own_ints (w : World) (n : Nat) (hn : n ≤ 1000000000) : Own (w.alloc (.cells (madeCells #[.int .i64 0] n) 3)) w.heap.size 3 (some ⟨w.heap.size, 0, none⟩) n ((List.replicate n 0).map (.int .i64)) := by
  refine Own.mk (Nat.le_refl _) (heap_alloc_new w _) (by simp) (by unfold maxLen; omega) (size_madeCells _ _) ?_
  rw [toList_madeCells_one]
  simp

def okBytes (bs : List Int) : Prop := ∀ x ∈ bs, 0 ≤ x ∧ x ≤ 255
def memsB (bs : List Int) : Bool := decide (bs.length ≤ 7) && memR bs
def MemRel (bs : List Int) (w0 : World) (g : Nat) (i : Value) (wr : World) : Prop :=
  ∃ k : Nat, k ≤ bs.length ∧ i = .int .i64 k ∧ Own wr w0.heap.size 3 (some ⟨g, 0, none⟩) bs.length ((bs.take k ++ List.replicate (bs.length - k) 0).map (.int .i64)) ∧ Ext w0 wr
theorem fill_step {bs : List Int} {k : Nat} {x : Int} (hk : k < bs.length) (hx : bs[k]? = some x) :
    ((bs.take k ++ List.replicate (bs.length - k) 0).map (Value.int .i64)).set k (.int .i64 x) = (bs.take (k + 1) ++ List.replicate (bs.length - (k + 1)) 0).map (Value.int .i64) := by
  rw [take_snoc' hx]
  obtain ⟨m, hm⟩ : ∃ m, bs.length - k = m + 1 := ⟨bs.length - k - 1, by omega⟩
  have hm' : bs.length - (k + 1) = m := by omega
  rw [hm, hm', List.replicate_succ, List.map_append, List.map_append, List.map_append]
  rw [set_app0 (l := List.map (Value.int .i64) (bs.take k)) (by simp; omega)]
  simp
def MemPost (ok : Bool) (w : World) (e : Ending) (w' : World) : Prop := ∃ v, e = .returned (.tuple #[v, .int .i64 (if ok = true then 0 else 4)]) ∧ Ext w w'
set_option maxHeartbeats 1000000 in
theorem ofBytes_any (A : Option Addr) (c : Nat) (bs : List Int) (w : World) (hA : Rd w A (bs.map (.int .u8))) (hb : okBytes bs) (hl : bs.length ≤ maxLen) :
    Calls Tryz.prog 146 #[.slice A bs.length c] w (MemPost (memsB bs) w) := by
  unfold maxLen at hl
  by_cases h7 : bs.length ≤ 7
  · have d7 : decide (7 < (bs.length : Int)) = false := by simp; omega
    have hmk := mkInts bs.length (by omega)
    have hb' : Hid (okBytes bs) := Lib.hid hb
    clear hb
    go_enter Tryz.func146, Tryz.ntmps146
    go_wp2
    go_loopw [15] (fun i wr => MemRel bs w w.heap.size i wr) (fun i _ => bs.length - (intOf i).toNat)
    case atStart => exact ⟨0, Nat.zero_le _, rfl, by simpa using own_ints w bs.length (by omega), (Ext.refl w).alloc _⟩
    case round =>
      obtain ⟨k, hk, rfl, hown, hE⟩ := hrel
      have hf := fun j => hown.frozen j
      by_cases hlt : k < bs.length
      · obtain ⟨ad, x, rfl, hc, hx⟩ := (hA.ext hE).int hlt
        have hb2 := hb'.out x (List.mem_of_getElem? hx)
        obtain ⟨hb3, hb4⟩ := hb2
        have HX := Lib.hid hx
        have HE := Lib.hid hE
        obtain ⟨ad2, ha2, hc2⟩ := hown.rd.at_ (k := k) (by simp; omega)
        injection ha2 with ha2
        subst ha2
        rw [add_lit', Nat.zero_add] at hc2
        clear hx hE
        have hfk := hf k
        clear hf
        go_wp2
        go_roundw
        case rel =>
          refine ⟨k + 1, by omega, by go_num, ?_, HE.out.set (Nat.le_refl _) _⟩
          rw [← fill_step hlt HX.out]
          exact hown.set k _
        case measure => simp [intOf]; omega
      · obtain rfl : k = bs.length := by omega
        rw [List.take_length, Nat.sub_self, List.replicate_zero, List.append_nil] at hown
        have HE := Lib.hid hE
        clear hE hf
        cases hm : memR bs with
        | true =>
          have hv : Hid (memsB bs = true) := Lib.hid (by simp [memsB, h7, hm])
          go_wp2_with (go_at_call 144; refine (members_any _ _ bs _ hown.rd (by unfold maxLen; omega)).mono ?_; rintro e w' ⟨rfl, rfl⟩)
          go_ret2
          exact ⟨_, by rw [hv.out]; rfl, HE.out⟩
        | false =>
          have hv : Hid (memsB bs = false) := Lib.hid (by simp [memsB, hm])
          go_wp2_with (go_at_call 144; refine (members_any _ _ bs _ hown.rd (by unfold maxLen; omega)).mono ?_; rintro e w' ⟨rfl, rfl⟩)
          go_ret2
          exact ⟨_, by rw [hv.out]; rfl, HE.out⟩
  · have d7 : decide (7 < (bs.length : Int)) = true := by simp; omega
    have hv : Hid (memsB bs = false) := Lib.hid (by simp [memsB, h7])
    go_enter Tryz.func146, Tryz.ntmps146
    go_wp2
    go_ret2
    exact ⟨_, by rw [hv.out]; rfl, Ext.refl _⟩

/-- Whether an entry is good. -/
def goodE (i t k : Int) (bs : List Int) : Bool := rightE i t k bs.length && (if k = 1 then decide (bs.length = 0) else if k = 2 then true else memsB bs)
set_option maxHeartbeats 1000000 in
theorem good_any (i t k : Int) (D : Option Addr) (d : Nat) (bs : List Int) (w : World) (hD : Rd w D (bs.map (.int .u8))) (hb : okBytes bs) (hl : bs.length ≤ maxLen) :
    Calls Tryz.prog 141 #[.agg #[.int .i64 i, .int .i64 t, .int .i64 k, .slice D bs.length d]] w fun e w' => e = .returned (.bool (goodE i t k bs)) ∧ Ext w w' := by
  cases hR : rightE i t k bs.length with
  | false =>
    have hv : Hid (goodE i t k bs = false) := Lib.hid (by simp [goodE, hR])
    clear hb hl
    go_enter Tryz.func141, Tryz.ntmps141
    go_wp2_with (go_at_call 142; refine (right_any _ _ _ _ _ _ _).mono ?_; rintro e w1 ⟨rfl, hE1⟩; have hb := cell_of_heap (hE1.below.block w.heap.size (by simp) |>.trans (heap_alloc_new w _)); have hc2 := hb 2; have hc3 := hb 3; clear hb; simp at hc2 hc3; have HE1 := Lib.hid hE1; clear hE1)
    go_ret
    exact ⟨by rw [hv.out]; rfl, ((Ext.refl _).alloc _).trans HE1.out⟩
  | true =>
    by_cases h1 : k = 1
    · subst h1
      by_cases h0 : bs.length = 0
      · obtain rfl : bs = [] := List.eq_nil_of_length_eq_zero h0
        have hv : Hid (goodE i t 1 [] = true) := Lib.hid (by simp [goodE]; exact hR)
        have hR0 : rightE i t 1 0 = true := hR
        clear hb hl h0
        go_enter Tryz.func141, Tryz.ntmps141
        go_wp2_with (go_at_call 142; refine (right_any _ _ _ _ _ _ _).mono ?_; rintro e w1 ⟨rfl, hE1⟩; have hb := cell_of_heap (hE1.below.block w.heap.size (by simp) |>.trans (heap_alloc_new w _)); have hc2 := hb 2; have hc3 := hb 3; clear hb; simp at hc2 hc3; have HE1 := Lib.hid hE1; clear hE1)
        go_ret
        exact ⟨by rw [hv.out]; rfl, ((Ext.refl _).alloc _).trans HE1.out⟩
      · have d0 : decide (0 < bs.length) = true := by simp; omega
        have hv : Hid (goodE i t 1 bs = false) := Lib.hid (by simp [goodE]; intro _ h; subst h; exact h0 rfl)
        clear hb hl h0
        go_enter Tryz.func141, Tryz.ntmps141
        go_wp2_with (go_at_call 142; refine (right_any _ _ _ _ _ _ _).mono ?_; rintro e w1 ⟨rfl, hE1⟩; have hb := cell_of_heap (hE1.below.block w.heap.size (by simp) |>.trans (heap_alloc_new w _)); have hc2 := hb 2; have hc3 := hb 3; clear hb; simp at hc2 hc3; have HE1 := Lib.hid hE1; clear hE1)
        go_ret
        exact ⟨by rw [hv.out]; rfl, ((Ext.refl _).alloc _).trans HE1.out⟩
    · have e1 : (k == 1) = false := by simpa using h1
      by_cases h2 : k = 2
      · subst h2
        have hv : Hid (goodE i t 2 bs = true) := Lib.hid (by simp [goodE, hR])
        clear hb hl h1 e1
        go_enter Tryz.func141, Tryz.ntmps141
        go_wp2_with (go_at_call 142; refine (right_any _ _ _ _ _ _ _).mono ?_; rintro e w1 ⟨rfl, hE1⟩; have hb := cell_of_heap (hE1.below.block w.heap.size (by simp) |>.trans (heap_alloc_new w _)); have hc2 := hb 2; have hc3 := hb 3; clear hb; simp at hc2 hc3; have HE1 := Lib.hid hE1; clear hE1)
        go_ret
        exact ⟨by rw [hv.out]; rfl, ((Ext.refl _).alloc _).trans HE1.out⟩
      · have e2 : (k == 2) = false := by simpa using h2
        have hv : Hid (goodE i t k bs = memsB bs) := Lib.hid (by simp [goodE, hR, h1, h2])
        clear h1 h2
        cases hm : memsB bs with
        | true =>
          go_enter Tryz.func141, Tryz.ntmps141
          go_wp2_with (first | (go_at_call 142; refine (right_any _ _ _ _ _ _ _).mono ?_; rintro e w1 ⟨rfl, hE1⟩; have hb := cell_of_heap (hE1.below.block w.heap.size (by simp) |>.trans (heap_alloc_new w _)); have hc2 := hb 2; have hc3 := hb 3; clear hb; simp at hc2 hc3; have HE1 := Lib.hid hE1; clear hE1) | (go_at_call 146; refine (ofBytes_any D d bs _ (hD.ext (((Ext.refl w).alloc _).trans HE1.out)) hb hl).mono ?_; rintro e w2 ⟨v, rfl, hE2⟩; have HE2 := Lib.hid hE2; clear hE2))
          go_ret
          exact ⟨by rw [hv.out, hm]; rfl, (((Ext.refl _).alloc _).trans HE1.out).trans HE2.out⟩
        | false =>
          go_enter Tryz.func141, Tryz.ntmps141
          go_wp2_with (first | (go_at_call 142; refine (right_any _ _ _ _ _ _ _).mono ?_; rintro e w1 ⟨rfl, hE1⟩; have hb := cell_of_heap (hE1.below.block w.heap.size (by simp) |>.trans (heap_alloc_new w _)); have hc2 := hb 2; have hc3 := hb 3; clear hb; simp at hc2 hc3; have HE1 := Lib.hid hE1; clear hE1) | (go_at_call 146; refine (ofBytes_any D d bs _ (hD.ext (((Ext.refl w).alloc _).trans HE1.out)) hb hl).mono ?_; rintro e w2 ⟨v, rfl, hE2⟩; have HE2 := Lib.hid hE2; clear hE2))
          go_ret
          exact ⟨by rw [hv.out, hm]; rfl, (((Ext.refl _).alloc _).trans HE1.out).trans HE2.out⟩
end Go.Proofs.YtcapapnhlkmeaaaGreatDoor
