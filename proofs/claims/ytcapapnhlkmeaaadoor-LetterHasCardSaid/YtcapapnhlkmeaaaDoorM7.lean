/-
  The writer of package code: Text, Row.
  The writer of package code: Right, Entry, Clone, Bytes.
-/
import Derived.Test.YtcapapnhlkmeaaaDoorM6
namespace Go.Proofs.YtcapapnhlkmeaaaDoor
open Go.RowKit

theorem top1_any (w : World) : Calls Tryd.prog 33 #[.int .i64 1] w fun e w' => e = .returned (.int .i64 255) ∧ w = w' := top_any 1 w
theorem top2_any (w : World) : Calls Tryd.prog 33 #[.int .i64 2] w fun e w' => e = .returned (.int .i64 65535) ∧ w = w' := top_any 2 w

theorem field1 {wd : Int} {bs : List Int} {n : Int} (hT : 0 ≤ topI wd) (h0 : 0 ≤ n) (h1 : n ≤ topI wd) : fieldS wd bs false [n] = (bs ++ leB wd.toNat n, false) := by
  rw [fieldS, if_neg (by simp), if_neg (by omega), putF, if_pos (okN_iff.2 ⟨h0, h1⟩), putF]
theorem field2 {wd : Int} {bs : List Int} {n m : Int} (hT : 0 ≤ topI wd) (h0 : 0 ≤ n) (h1 : n ≤ topI wd) (h2 : 0 ≤ m) (h3 : m ≤ topI wd) : fieldS wd bs false [n, m] = (bs ++ leB wd.toNat n ++ leB wd.toNat m, false) := by
  rw [fieldS, if_neg (by simp), if_neg (by omega), putF, if_pos (okN_iff.2 ⟨h0, h1⟩), putF, if_pos (okN_iff.2 ⟨h2, h3⟩), putF]

theorem field1_1 {bs : List Int} {n : Int} (h0 : 0 ≤ n) (h1 : n ≤ 255) : fieldS 1 bs false [n] = (bs ++ leB 1 n, false) := field1 (wd := 1) (by decide) h0 h1
theorem field1_2 {bs : List Int} {n : Int} (h0 : 0 ≤ n) (h1 : n ≤ 65535) : fieldS 2 bs false [n] = (bs ++ leB 2 n, false) := field1 (wd := 2) (by decide) h0 h1
theorem field2_6 {bs : List Int} {n m : Int} (h0 : 0 ≤ n) (h1 : n ≤ 1099511627776) (h2 : 0 ≤ m) (h3 : m ≤ 1099511627776) : fieldS 6 bs false [n, m] = (bs ++ leB 6 n ++ leB 6 m, false) := field2 (wd := 6) (by decide) h0 h1 h2 h3

/-- A new block lies off a writer. -/
theorem off_new {tW : TypeId} {B wb c : Nat} {A : Option Addr} {w : World} {bs : List Int} {sp : Bool} (h : Wr tW B w wb A c bs sp) : Off (touched wb A) (some ⟨w.heap.size, 0, none⟩) := by
  intro ad ha
  injection ha with ha
  subst ha
  rintro (h1 | h1)
  · have := h.lt; simp at h1; omega
  · have := (h.2.2.lt h1).2; simp at this
theorem off_fr {wb : Nat} {A A' : Option Addr} {w w1 : World} {D : Option Addr} {xs : List Value} (hO : Off (touched wb A) D) (hD : Rd w D xs) (hx : xs ≠ []) (hA : ∀ i, blk A' i → blk A i ∨ w.heap.size ≤ i) : Off (touched wb A') D := by
  intro ad ha
  subst ha
  cases xs with
  | nil => exact absurd rfl hx
  | cons x xs =>
    obtain ⟨ad', ha, hc⟩ := hD 0 x rfl
    injection ha with ha
    subst ha
    have hlt := World.block_lt_of_cell? w _ hc
    rw [add_block] at hlt
    rintro (h1 | h1)
    · exact hO ad rfl (.inl h1)
    · rcases hA _ h1 with h2 | h2
      · exact hO ad rfl (.inr h2)
      · omega

/-- The writer behind an append whose slice is stored. -/
theorem Wr.app {tW : TypeId} {B wb c c1 m : Nat} {A A1 : Option Addr} {w w1 : World} {bs ys : List Int} {sp : Bool} (ht : 5 ≠ tW) (h : Wr tW B w wb A c bs sp)
    (hown : Own w1 B 5 A1 c1 ((bs ++ ys).map (.int .u8))) (hf : Fr (blk A) w w1) (hA : ∀ i, blk A1 i → blk A i ∨ w.heap.size ≤ i) (hm : m = (bs ++ ys).length) :
    w1.cell? ⟨wb, 0, none⟩ = some (.slice A bs.length c) ∧ w1.frozen? ⟨wb, 0, none⟩ = false ∧ WStep tW B wb A w (bs ++ ys) sp (w1.setCell ⟨wb, 0, none⟩ (.slice A1 m c1)) := by
  have h0 : w1.heap[wb]? = some (.cells #[.slice A bs.length c, .bool sp] tW) := (hf.block wb h.lt (h.far ht)).trans h.1
  refine ⟨cell_of_heap h0 0, frozen_of_heap h0 0, A1, c1, ⟨by rw [heap_set h0]; simp [hm], h.2.1, ?_⟩, (hf.mono (S := touched wb A) (fun i _ hi => Or.inr hi)).set (p := ⟨wb, 0, none⟩) (.inl (.inl rfl)) _, hA⟩
  refine hown.keep fun i hi _ => Below.heap_setCell _ _ _ i ?_
  rintro rfl
  exact hown.ne_blk h0 ht hi

def textS (bs : List Int) (sp : Bool) (ys : List Int) : List Int × Bool := if sp = true then (bs, true) else if ys.length ≤ 65535 then (bs ++ leB 2 ys.length ++ ys, false) else (bs, true)

set_option maxHeartbeats 600000 in
theorem text_any (B wb : Nat) (A : Option Addr) (c : Nat) (bs : List Int) (sp : Bool) (D : Option Addr) (d : Nat) (ys : List Int) (w : World) (hW : Wr 65 B w wb A c bs sp) (hB : B ≤ w.heap.size)
    (hD : Rd w D (ys.map (.int .u8))) (hO : ys ≠ [] → Off (touched wb A) D) (hl : bs.length ≤ 10000000000) (hy : ys.length ≤ 10000000000) :
    Calls Tryd.prog 54 #[.pointer (some ⟨wb, 0, none⟩), .slice D ys.length d] w fun e w' => e = .returned (.tuple #[]) ∧ WStep 65 B wb A w (textS bs sp ys).1 (textS bs sp ys).2 w' := by
  cases sp with
  | true =>
    go_enter Tryd.func54, Tryd.ntmps54
    go_wp2_with (first | (go_at_call 33; refine (top2_any _).mono ?_; rintro e w' ⟨rfl, rfl⟩) | (go_at_call 32; refine (holds_sp _ hW).mono ?_; rintro e w1 ⟨rfl, hW1, hF1⟩))
    go_end0
    exact ⟨rfl, A, c, hW1, frI hF1, fun _ h => .inl h⟩
  | false =>
    by_cases hT : ys.length ≤ 65535
    · have hd : decide ((ys.length : Int) ≤ 65535) = true := by simp; omega
      have hs : Hid (textS bs false ys = (bs ++ leB 2 ys.length ++ ys, false)) := Lib.hid (by simp [textS, hT])
      go_enter Tryd.func54, Tryd.ntmps54
      go_wp2_with (first | (go_at_call 33; refine (top2_any _).mono ?_; rintro e w' ⟨rfl, rfl⟩) | (go_at_call 32; refine (holds_ok hW).mono ?_; rintro e w1 ⟨rfl, hW1, hF1⟩) | fail)
      refine (field_any B wb A c bs false 2 _ _ [(ys.length : Int)] _ (hW1.ext ((Ext.refl _).alloc _)) (by have := hF1.size; simp; omega) (rd_one _ _ _) (fun _ => off_new hW1) (by simp; omega)).mono ?_
      rintro e w2 ⟨rfl, hS2⟩
      rw [field1_2 (by omega) (by omega)] at hS2
      obtain ⟨A2, c2, hW2, hF2, hA2⟩ := hS2
      have hF02 : Fr (touched wb A) w w2 := ((frI hF1).alloc _).trans hF2 (fun _ _ h => h)
      have h20 := hW2.c0
      have hD2 := hD.fr' hF02 hO
      have hsz2 := hF02.size
      go_wp2_with (at_builtin; refine appendBytes _ rfl _ _ rfl B _ _ _ (bs ++ leB 2 ys.length) rfl (by simp) hW2.2.2 _ _ _ ys rfl rfl hD2 (by simp [leB_length]; omega) (by omega) ?_; intro A3 c3 m3 w3 hm3 hown3 hfr3 hA3; obtain ⟨hc3, hf3, hS3⟩ := hW2.app (by decide) hown3 hfr3 hA3 hm3; clear hown3 hfr3 hA3 hm3)
      go_end0
      rw [hs.out]
      refine ⟨rfl, WStep.trans (w1 := w2) (A' := A2) hF02 (fun i hi => (hA2 i hi).elim .inl (fun h => .inr (by have := hF1.size; simp at h; omega))) hS3⟩
    · have hd : decide ((ys.length : Int) ≤ 65535) = false := by simp; omega
      have hs : Hid (textS bs false ys = (bs, true)) := Lib.hid (by simp [textS, hT])
      go_enter Tryd.func54, Tryd.ntmps54
      go_wp2_with (first | (go_at_call 33; refine (top2_any _).mono ?_; rintro e w' ⟨rfl, rfl⟩) | (go_at_call 32; refine (holds_no hW).mono ?_; rintro e w1 ⟨rfl, hW1, hF1⟩))
      go_end0
      rw [hs.out]
      exact ⟨rfl, A, c, hW1, frI hF1, fun _ h => .inl h⟩

def rowS (bs : List Int) (sp : Bool) (zs : List Int) : List Int × Bool := if sp = true then (bs, true) else if zs.length ≤ 255 then fieldS 6 (bs ++ leB 1 zs.length) false zs else (bs, true)

set_option maxHeartbeats 600000 in
theorem row_any (B wb : Nat) (A : Option Addr) (c : Nat) (bs : List Int) (sp : Bool) (D : Option Addr) (d : Nat) (zs : List Int) (w : World) (hW : Wr 65 B w wb A c bs sp) (hB : B ≤ w.heap.size)
    (hD : Rd w D (zs.map (.int .i64))) (hO : zs ≠ [] → Off (touched wb A) D) (hl : bs.length ≤ 10000000000) (hy : zs.length ≤ 10000000000) :
    Calls Tryd.prog 53 #[.pointer (some ⟨wb, 0, none⟩), .slice D zs.length d] w fun e w' => e = .returned (.tuple #[]) ∧ WStep 65 B wb A w (rowS bs sp zs).1 (rowS bs sp zs).2 w' := by
  cases sp with
  | true =>
    go_enter Tryd.func53, Tryd.ntmps53
    go_wp2_with (first | (go_at_call 33; refine (top1_any _).mono ?_; rintro e w' ⟨rfl, rfl⟩) | (go_at_call 32; refine (holds_sp _ hW).mono ?_; rintro e w1 ⟨rfl, hW1, hF1⟩))
    go_end0
    exact ⟨rfl, A, c, hW1, frI hF1, fun _ h => .inl h⟩
  | false =>
    by_cases hT : zs.length ≤ 255
    · have hd : decide ((zs.length : Int) ≤ 255) = true := by simp; omega
      have hs : Hid (rowS bs false zs = fieldS 6 (bs ++ leB 1 zs.length) false zs) := Lib.hid (by simp [rowS, hT])
      go_enter Tryd.func53, Tryd.ntmps53
      go_wp2_with (first | (go_at_call 33; refine (top1_any _).mono ?_; rintro e w' ⟨rfl, rfl⟩) | (go_at_call 32; refine (holds_ok hW).mono ?_; rintro e w1 ⟨rfl, hW1, hF1⟩) | fail)
      refine (field_any B wb A c bs false 1 _ _ [(zs.length : Int)] _ (hW1.ext ((Ext.refl _).alloc _)) (by have := hF1.size; simp; omega) (rd_one _ _ _) (fun _ => off_new hW1) (by simp; omega)).mono ?_
      rintro e w2 ⟨rfl, hS2⟩
      rw [field1_1 (by omega) (by omega)] at hS2
      obtain ⟨A2, c2, hW2, hF2, hA2⟩ := hS2
      have hF02 : Fr (touched wb A) w w2 := ((frI hF1).alloc _).trans hF2 (fun _ _ h => h)
      have hA02 : ∀ i, blk A2 i → blk A i ∨ w.heap.size ≤ i := fun i hi => (hA2 i hi).elim .inl (fun h => .inr (by have := hF1.size; simp at h; omega))
      have hD2 := hD.fr' hF02 hO
      have hsz2 := hF02.size
      have hO2 : zs ≠ [] → Off (touched wb A2) D := fun hz => off_fr (w1 := w2) (hO hz) hD (by simpa using hz) hA02
      go_wp2_with fail
      refine (field_any B wb A2 c2 _ false 6 _ _ zs _ hW2 (by omega) hD2 hO2 (by simp [leB_length]; omega)).mono ?_
      rintro e w3 ⟨rfl, hS3⟩
      go_wp2
      go_end0
      rw [hs.out]
      exact ⟨rfl, WStep.trans hF02 hA02 hS3⟩
    · have hd : decide ((zs.length : Int) ≤ 255) = false := by simp; omega
      have hs : Hid (rowS bs false zs = (bs, true)) := Lib.hid (by simp [rowS, hT])
      go_enter Tryd.func53, Tryd.ntmps53
      go_wp2_with (first | (go_at_call 33; refine (top1_any _).mono ?_; rintro e w' ⟨rfl, rfl⟩) | (go_at_call 32; refine (holds_no hW).mono ?_; rintro e w1 ⟨rfl, hW1, hF1⟩))
      go_end0
      rw [hs.out]
      exact ⟨rfl, A, c, hW1, frI hF1, fun _ h => .inl h⟩
end Go.Proofs.YtcapapnhlkmeaaaDoor
namespace Go.Proofs.YtcapapnhlkmeaaaDoor
open Go.RowKit

def inB (n least : Int) : Bool := decide (least ≤ n) && decide (n ≤ 1099511627776)
theorem inB_iff {n least : Int} : inB n least = true ↔ least ≤ n ∧ n ≤ 1099511627776 := by simp [inB]
theorem inB_any (n least : Int) (w : World) : Calls Tryd.prog 61 #[.int .i64 n, .int .i64 least] w fun e w' => e = .returned (.bool (inB n least)) ∧ w = w' := by
  by_cases h1 : least ≤ n
  · have hd1 : decide (least ≤ n) = true := by simpa using h1
    by_cases h2 : n ≤ 1099511627776
    · have hd2 : decide (n ≤ 1099511627776) = true := by simpa using h2
      have hv : Hid (inB n least = true) := Lib.hid (by simp [inB, h1, h2])
      go_enter Tryd.func61, Tryd.ntmps61
      go_wp2
      go_ret
      exact ⟨by rw [hv.out]; rfl, rfl⟩
    · have hd2 : decide (n ≤ 1099511627776) = false := by simpa using h2
      have hv : Hid (inB n least = false) := Lib.hid (by simp [inB, h1, h2])
      go_enter Tryd.func61, Tryd.ntmps61
      go_wp2
      go_ret
      exact ⟨by rw [hv.out]; rfl, rfl⟩
  · have hd1 : decide (least ≤ n) = false := by simpa using h1
    have hv : Hid (inB n least = false) := Lib.hid (by simp [inB, h1])
    go_enter Tryd.func61, Tryd.ntmps61
    go_wp2
    go_ret
    exact ⟨by rw [hv.out]; rfl, rfl⟩

def rightE (i t k : Int) (n : Nat) : Bool := inB i 1 && inB t 0 && decide (1 ≤ k) && decide (k ≤ 3) && decide (n ≤ 200)
theorem rightE_iff {i t k : Int} {n : Nat} : rightE i t k n = true ↔ (1 ≤ i ∧ i ≤ 1099511627776) ∧ (0 ≤ t ∧ t ≤ 1099511627776) ∧ 1 ≤ k ∧ k ≤ 3 ∧ n ≤ 200 := by simp [rightE, inB, and_assoc]

set_option maxHeartbeats 600000 in
theorem right_any (i t k : Int) (D : Option Addr) (n d : Nat) (w : World) :
    Calls Tryd.prog 58 #[.agg #[.int .i64 i, .int .i64 t, .int .i64 k, .slice D n d]] w fun e w' => e = .returned (.bool (rightE i t k n)) ∧ Ext w w' := by
  cases h0 : inB i 1 with
  | false =>
    have hv : Hid (rightE i t k n = false) := Lib.hid (by rw [Bool.eq_false_iff, ne_eq, rightE_iff]; simp [inB] at *; omega)
    go_enter Tryd.func58, Tryd.ntmps58
    go_wp2_with (go_at_call 61; refine (inB_any _ _ _).mono ?_; rintro e w' ⟨rfl, rfl⟩)
    go_ret
    exact ⟨by rw [hv.out]; rfl, (Ext.refl _).alloc _⟩
  | true =>
    cases h1 : inB t 0 with
    | false =>
      have hv : Hid (rightE i t k n = false) := Lib.hid (by rw [Bool.eq_false_iff, ne_eq, rightE_iff]; simp [inB] at *; omega)
      go_enter Tryd.func58, Tryd.ntmps58
      go_wp2_with (go_at_call 61; refine (inB_any _ _ _).mono ?_; rintro e w' ⟨rfl, rfl⟩)
      go_ret
      exact ⟨by rw [hv.out]; rfl, (Ext.refl _).alloc _⟩
    | true =>
      cases h2 : decide (1 ≤ k) with
      | false =>
        have hv : Hid (rightE i t k n = false) := Lib.hid (by rw [Bool.eq_false_iff, ne_eq, rightE_iff]; simp [inB] at *; omega)
        go_enter Tryd.func58, Tryd.ntmps58
        go_wp2_with (go_at_call 61; refine (inB_any _ _ _).mono ?_; rintro e w' ⟨rfl, rfl⟩)
        go_ret
        exact ⟨by rw [hv.out]; rfl, (Ext.refl _).alloc _⟩
      | true =>
        cases h3 : decide (k ≤ 3) with
        | false =>
          have hv : Hid (rightE i t k n = false) := Lib.hid (by rw [Bool.eq_false_iff, ne_eq, rightE_iff]; simp [inB] at *; omega)
          go_enter Tryd.func58, Tryd.ntmps58
          go_wp2_with (go_at_call 61; refine (inB_any _ _ _).mono ?_; rintro e w' ⟨rfl, rfl⟩)
          go_ret
          exact ⟨by rw [hv.out]; rfl, (Ext.refl _).alloc _⟩
        | true =>
          cases h4 : decide (n ≤ 200) with
          | false =>
            have hz : decide ((n : Int) ≤ 200) = false := by simp at h4 ⊢; omega
            have hv : Hid (rightE i t k n = false) := Lib.hid (by rw [Bool.eq_false_iff, ne_eq, rightE_iff]; simp [inB] at *; omega)
            go_enter Tryd.func58, Tryd.ntmps58
            go_wp2_with (go_at_call 61; refine (inB_any _ _ _).mono ?_; rintro e w' ⟨rfl, rfl⟩)
            go_ret
            exact ⟨by rw [hv.out]; rfl, (Ext.refl _).alloc _⟩
          | true =>
            have hz : decide ((n : Int) ≤ 200) = true := by simp at h4 ⊢; omega
            have hv : Hid (rightE i t k n = true) := Lib.hid (by rw [rightE_iff]; simp [inB] at *; omega)
            go_enter Tryd.func58, Tryd.ntmps58
            go_wp2_with (go_at_call 61; refine (inB_any _ _ _).mono ?_; rintro e w' ⟨rfl, rfl⟩)
            go_ret
            exact ⟨by rw [hv.out]; rfl, (Ext.refl _).alloc _⟩

end Go.Proofs.YtcapapnhlkmeaaaDoor
