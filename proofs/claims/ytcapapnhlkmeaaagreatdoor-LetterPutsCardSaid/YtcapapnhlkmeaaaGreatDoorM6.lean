/-
  The writer of package code: Text, Row.
  The writer of package code: Right, Entry, Clone, Bytes.
  The writer of package code: Entry, Clone, Bytes.
  slices.Clone of bytes, the writer's Bytes.
-/
import Derived.Test.YtcapapnhlkmeaaaGreatDoorM5
namespace Go.Proofs.YtcapapnhlkmeaaaGreatDoor
open Go.RowKit

theorem top1_any (w : World) : Calls Tryz.prog 65 #[.int .i64 1] w fun e w' => e = .returned (.int .i64 255) ∧ w = w' := top_any 1 w
theorem top2_any (w : World) : Calls Tryz.prog 65 #[.int .i64 2] w fun e w' => e = .returned (.int .i64 65535) ∧ w = w' := top_any 2 w

theorem field1 {wd : Int} {bs : List Int} {n : Int} (hT : 0 ≤ topI wd) (h0 : 0 ≤ n) (h1 : n ≤ topI wd) : fieldS wd bs false [n] = (bs ++ leB wd.toNat n, false) := by
  rw [fieldS, if_neg (by simp), if_neg (by omega), putF, if_pos (okN_iff.2 ⟨h0, h1⟩), putF]
theorem field2 {wd : Int} {bs : List Int} {n m : Int} (hT : 0 ≤ topI wd) (h0 : 0 ≤ n) (h1 : n ≤ topI wd) (h2 : 0 ≤ m) (h3 : m ≤ topI wd) : fieldS wd bs false [n, m] = (bs ++ leB wd.toNat n ++ leB wd.toNat m, false) := by
  rw [fieldS, if_neg (by simp), if_neg (by omega), putF, if_pos (okN_iff.2 ⟨h0, h1⟩), putF, if_pos (okN_iff.2 ⟨h2, h3⟩), putF]

theorem field1_1 {bs : List Int} {n : Int} (h0 : 0 ≤ n) (h1 : n ≤ 255) : fieldS 1 bs false [n] = (bs ++ leB 1 n, false) := field1 (wd := 1) (by decide) h0 h1
theorem field1_2 {bs : List Int} {n : Int} (h0 : 0 ≤ n) (h1 : n ≤ 65535) : fieldS 2 bs false [n] = (bs ++ leB 2 n, false) := field1 (wd := 2) (by decide) h0 h1
theorem field2_6 {bs : List Int} {n m : Int} (h0 : 0 ≤ n) (h1 : n ≤ 1099511627776) (h2 : 0 ≤ m) (h3 : m ≤ 1099511627776) : fieldS 6 bs false [n, m] = (bs ++ leB 6 n ++ leB 6 m, false) := field2 (wd := 6) (by decide) h0 h1 h2 h3

/-- A new block lies off a writer. -/
theorem off_new {tW : TypeId} {B wb c : Nat} {A : Option Addr} {w : World} {bs : List Int} {sp : Bool} (h : Wr tW B w wb A c bs sp) : Off (touched wb A) (some ⟨w.heap.size, 0, none⟩) := by
  intro ad ha
  injection ha with ha
  subst ha
  rintro (h1 | h1)
  · have := h.lt; simp at h1; omega
  · have := (h.2.2.lt h1).2; simp at this
theorem off_fr {wb : Nat} {A A' : Option Addr} {w w1 : World} {D : Option Addr} {xs : List Value} (hO : Off (touched wb A) D) (hD : Rd w D xs) (hx : xs ≠ []) (hA : ∀ i, blk A' i → blk A i ∨ w.heap.size ≤ i) : Off (touched wb A') D := by
  intro ad ha
  subst ha
  cases xs with
  | nil => exact absurd rfl hx
  | cons x xs =>
    obtain ⟨ad', ha, hc⟩ := hD 0 x rfl
    injection ha with ha
    subst ha
    have hlt := World.block_lt_of_cell? w _ hc
    rw [add_block] at hlt
    rintro (h1 | h1)
    · exact hO ad rfl (.inl h1)
    · rcases hA _ h1 with h2 | h2
      · exact hO ad rfl (.inr h2)
      · omega

/-- The writer behind an append whose slice is stored. -/
theorem Wr.app {tW : TypeId} {B wb c c1 m : Nat} {A A1 : Option Addr} {w w1 : World} {bs ys : List Int} {sp : Bool} (ht : 5 ≠ tW) (h : Wr tW B w wb A c bs sp)
    (hown : Own w1 B 5 A1 c1 ((bs ++ ys).map (.int .u8))) (hf : Fr (blk A) w w1) (hA : ∀ i, blk A1 i → blk A i ∨ w.heap.size ≤ i) (hm : m = (bs ++ ys).length) :
    w1.cell? ⟨wb, 0, none⟩ = some (.slice A bs.length c) ∧ w1.frozen? ⟨wb, 0, none⟩ = false ∧ WStep tW B wb A w (bs ++ ys) sp (w1.setCell ⟨wb, 0, none⟩ (.slice A1 m c1)) := by
  have h0 : w1.heap[wb]? = some (.cells #[.slice A bs.length c, .bool sp] tW) := (hf.block wb h.lt (h.far ht)).trans h.1
  refine ⟨cell_of_heap h0 0, frozen_of_heap h0 0, A1, c1, ⟨by rw [heap_set h0]; simp [hm], h.2.1, ?_⟩, (hf.mono (S := touched wb A) (fun i _ hi => Or.inr hi)).set (p := ⟨wb, 0, none⟩) (.inl (.inl rfl)) _, hA⟩
  refine hown.keep fun i hi _ => Below.heap_setCell _ _ _ i ?_
  rintro rfl
  exact hown.ne_blk h0 ht hi

def textS (bs : List Int) (sp : Bool) (ys : List Int) : List Int × Bool := if sp = true then (bs, true) else if ys.length ≤ 65535 then (bs ++ leB 2 ys.length ++ ys, false) else (bs, true)

set_option maxHeartbeats 600000 in
theorem text_any (B wb : Nat) (A : Option Addr) (c : Nat) (bs : List Int) (sp : Bool) (D : Option Addr) (d : Nat) (ys : List Int) (w : World) (hW : Wr 61 B w wb A c bs sp) (hB : B ≤ w.heap.size)
    (hD : Rd w D (ys.map (.int .u8))) (hO : ys ≠ [] → Off (touched wb A) D) (hl : bs.length ≤ 10000000000) (hy : ys.length ≤ 10000000000) :
    Calls Tryz.prog 119 #[.pointer (some ⟨wb, 0, none⟩), .slice D ys.length d] w fun e w' => e = .returned (.tuple #[]) ∧ WStep 61 B wb A w (textS bs sp ys).1 (textS bs sp ys).2 w' := by
  cases sp with
  | true =>
    go_enter Tryz.func119, Tryz.ntmps119
    go_wp2_with (first | (go_at_call 65; refine (top2_any _).mono ?_; rintro e w' ⟨rfl, rfl⟩) | (go_at_call 64; refine (holds_sp _ hW).mono ?_; rintro e w1 ⟨rfl, hW1, hF1⟩))
    go_end0
    exact ⟨rfl, A, c, hW1, frI hF1, fun _ h => .inl h⟩
  | false =>
    by_cases hT : ys.length ≤ 65535
    · have hd : decide ((ys.length : Int) ≤ 65535) = true := by simp; omega
      have hs : Hid (textS bs false ys = (bs ++ leB 2 ys.length ++ ys, false)) := Lib.hid (by simp [textS, hT])
      go_enter Tryz.func119, Tryz.ntmps119
      go_wp2_with (first | (go_at_call 65; refine (top2_any _).mono ?_; rintro e w' ⟨rfl, rfl⟩) | (go_at_call 64; refine (holds_ok hW).mono ?_; rintro e w1 ⟨rfl, hW1, hF1⟩) | fail)
      refine (field_any B wb A c bs false 2 _ _ [(ys.length : Int)] _ (hW1.ext ((Ext.refl _).alloc _)) (by have := hF1.size; simp; omega) (rd_one _ _ _) (fun _ => off_new hW1) (by simp; omega)).mono ?_
      rintro e w2 ⟨rfl, hS2⟩
      rw [field1_2 (by omega) (by omega)] at hS2
      obtain ⟨A2, c2, hW2, hF2, hA2⟩ := hS2
      have hF02 : Fr (touched wb A) w w2 := ((frI hF1).alloc _).trans hF2 (fun _ _ h => h)
      have h20 := hW2.c0
      have hD2 := hD.fr' hF02 hO
      have hsz2 := hF02.size
      go_wp2_with (at_builtin; refine appendBytes _ rfl _ _ rfl B _ _ _ (bs ++ leB 2 ys.length) rfl (by simp) hW2.2.2 _ _ _ ys rfl rfl hD2 (by simp [leB_length]; omega) (by omega) ?_; intro A3 c3 m3 w3 hm3 hown3 hfr3 hA3; obtain ⟨hc3, hf3, hS3⟩ := hW2.app (by decide) hown3 hfr3 hA3 hm3; clear hown3 hfr3 hA3 hm3)
      go_end0
      rw [hs.out]
      refine ⟨rfl, WStep.trans (w1 := w2) (A' := A2) hF02 (fun i hi => (hA2 i hi).elim .inl (fun h => .inr (by have := hF1.size; simp at h; omega))) hS3⟩
    · have hd : decide ((ys.length : Int) ≤ 65535) = false := by simp; omega
      have hs : Hid (textS bs false ys = (bs, true)) := Lib.hid (by simp [textS, hT])
      go_enter Tryz.func119, Tryz.ntmps119
      go_wp2_with (first | (go_at_call 65; refine (top2_any _).mono ?_; rintro e w' ⟨rfl, rfl⟩) | (go_at_call 64; refine (holds_no hW).mono ?_; rintro e w1 ⟨rfl, hW1, hF1⟩))
      go_end0
      rw [hs.out]
      exact ⟨rfl, A, c, hW1, frI hF1, fun _ h => .inl h⟩

def rowS (bs : List Int) (sp : Bool) (zs : List Int) : List Int × Bool := if sp = true then (bs, true) else if zs.length ≤ 255 then fieldS 6 (bs ++ leB 1 zs.length) false zs else (bs, true)

set_option maxHeartbeats 600000 in
theorem row_any (B wb : Nat) (A : Option Addr) (c : Nat) (bs : List Int) (sp : Bool) (D : Option Addr) (d : Nat) (zs : List Int) (w : World) (hW : Wr 61 B w wb A c bs sp) (hB : B ≤ w.heap.size)
    (hD : Rd w D (zs.map (.int .i64))) (hO : zs ≠ [] → Off (touched wb A) D) (hl : bs.length ≤ 10000000000) (hy : zs.length ≤ 10000000000) :
    Calls Tryz.prog 118 #[.pointer (some ⟨wb, 0, none⟩), .slice D zs.length d] w fun e w' => e = .returned (.tuple #[]) ∧ WStep 61 B wb A w (rowS bs sp zs).1 (rowS bs sp zs).2 w' := by
  cases sp with
  | true =>
    go_enter Tryz.func118, Tryz.ntmps118
    go_wp2_with (first | (go_at_call 65; refine (top1_any _).mono ?_; rintro e w' ⟨rfl, rfl⟩) | (go_at_call 64; refine (holds_sp _ hW).mono ?_; rintro e w1 ⟨rfl, hW1, hF1⟩))
    go_end0
    exact ⟨rfl, A, c, hW1, frI hF1, fun _ h => .inl h⟩
  | false =>
    by_cases hT : zs.length ≤ 255
    · have hd : decide ((zs.length : Int) ≤ 255) = true := by simp; omega
      have hs : Hid (rowS bs false zs = fieldS 6 (bs ++ leB 1 zs.length) false zs) := Lib.hid (by simp [rowS, hT])
      go_enter Tryz.func118, Tryz.ntmps118
      go_wp2_with (first | (go_at_call 65; refine (top1_any _).mono ?_; rintro e w' ⟨rfl, rfl⟩) | (go_at_call 64; refine (holds_ok hW).mono ?_; rintro e w1 ⟨rfl, hW1, hF1⟩) | fail)
      refine (field_any B wb A c bs false 1 _ _ [(zs.length : Int)] _ (hW1.ext ((Ext.refl _).alloc _)) (by have := hF1.size; simp; omega) (rd_one _ _ _) (fun _ => off_new hW1) (by simp; omega)).mono ?_
      rintro e w2 ⟨rfl, hS2⟩
      rw [field1_1 (by omega) (by omega)] at hS2
      obtain ⟨A2, c2, hW2, hF2, hA2⟩ := hS2
      have hF02 : Fr (touched wb A) w w2 := ((frI hF1).alloc _).trans hF2 (fun _ _ h => h)
      have hA02 : ∀ i, blk A2 i → blk A i ∨ w.heap.size ≤ i := fun i hi => (hA2 i hi).elim .inl (fun h => .inr (by have := hF1.size; simp at h; omega))
      have hD2 := hD.fr' hF02 hO
      have hsz2 := hF02.size
      have hO2 : zs ≠ [] → Off (touched wb A2) D := fun hz => off_fr (w1 := w2) (hO hz) hD (by simpa using hz) hA02
      go_wp2_with fail
      refine (field_any B wb A2 c2 _ false 6 _ _ zs _ hW2 (by omega) hD2 hO2 (by simp [leB_length]; omega)).mono ?_
      rintro e w3 ⟨rfl, hS3⟩
      go_wp2
      go_end0
      rw [hs.out]
      exact ⟨rfl, WStep.trans hF02 hA02 hS3⟩
    · have hd : decide ((zs.length : Int) ≤ 255) = false := by simp; omega
      have hs : Hid (rowS bs false zs = (bs, true)) := Lib.hid (by simp [rowS, hT])
      go_enter Tryz.func118, Tryz.ntmps118
      go_wp2_with (first | (go_at_call 65; refine (top1_any _).mono ?_; rintro e w' ⟨rfl, rfl⟩) | (go_at_call 64; refine (holds_no hW).mono ?_; rintro e w1 ⟨rfl, hW1, hF1⟩))
      go_end0
      rw [hs.out]
      exact ⟨rfl, A, c, hW1, frI hF1, fun _ h => .inl h⟩
end Go.Proofs.YtcapapnhlkmeaaaGreatDoor
namespace Go.Proofs.YtcapapnhlkmeaaaGreatDoor
open Go.RowKit

def inB (n least : Int) : Bool := decide (least ≤ n) && decide (n ≤ 1099511627776)
theorem inB_iff {n least : Int} : inB n least = true ↔ least ≤ n ∧ n ≤ 1099511627776 := by simp [inB]
theorem inB_any (n least : Int) (w : World) : Calls Tryz.prog 147 #[.int .i64 n, .int .i64 least] w fun e w' => e = .returned (.bool (inB n least)) ∧ w = w' := by
  by_cases h1 : least ≤ n
  · have hd1 : decide (least ≤ n) = true := by simpa using h1
    by_cases h2 : n ≤ 1099511627776
    · have hd2 : decide (n ≤ 1099511627776) = true := by simpa using h2
      have hv : Hid (inB n least = true) := Lib.hid (by simp [inB, h1, h2])
      go_enter Tryz.func147, Tryz.ntmps147
      go_wp2
      go_ret
      exact ⟨by rw [hv.out]; rfl, rfl⟩
    · have hd2 : decide (n ≤ 1099511627776) = false := by simpa using h2
      have hv : Hid (inB n least = false) := Lib.hid (by simp [inB, h1, h2])
      go_enter Tryz.func147, Tryz.ntmps147
      go_wp2
      go_ret
      exact ⟨by rw [hv.out]; rfl, rfl⟩
  · have hd1 : decide (least ≤ n) = false := by simpa using h1
    have hv : Hid (inB n least = false) := Lib.hid (by simp [inB, h1])
    go_enter Tryz.func147, Tryz.ntmps147
    go_wp2
    go_ret
    exact ⟨by rw [hv.out]; rfl, rfl⟩

def rightE (i t k : Int) (n : Nat) : Bool := inB i 1 && inB t 0 && decide (1 ≤ k) && decide (k ≤ 3) && decide (n ≤ 200)
theorem rightE_iff {i t k : Int} {n : Nat} : rightE i t k n = true ↔ (1 ≤ i ∧ i ≤ 1099511627776) ∧ (0 ≤ t ∧ t ≤ 1099511627776) ∧ 1 ≤ k ∧ k ≤ 3 ∧ n ≤ 200 := by simp [rightE, inB, and_assoc]

set_option maxHeartbeats 600000 in
theorem right_any (i t k : Int) (D : Option Addr) (n d : Nat) (w : World) :
    Calls Tryz.prog 142 #[.agg #[.int .i64 i, .int .i64 t, .int .i64 k, .slice D n d]] w fun e w' => e = .returned (.bool (rightE i t k n)) ∧ Ext w w' := by
  cases h0 : inB i 1 with
  | false =>
    have hv : Hid (rightE i t k n = false) := Lib.hid (by rw [Bool.eq_false_iff, ne_eq, rightE_iff]; simp [inB] at *; omega)
    go_enter Tryz.func142, Tryz.ntmps142
    go_wp2_with (go_at_call 147; refine (inB_any _ _ _).mono ?_; rintro e w' ⟨rfl, rfl⟩)
    go_ret
    exact ⟨by rw [hv.out]; rfl, (Ext.refl _).alloc _⟩
  | true =>
    cases h1 : inB t 0 with
    | false =>
      have hv : Hid (rightE i t k n = false) := Lib.hid (by rw [Bool.eq_false_iff, ne_eq, rightE_iff]; simp [inB] at *; omega)
      go_enter Tryz.func142, Tryz.ntmps142
      go_wp2_with (go_at_call 147; refine (inB_any _ _ _).mono ?_; rintro e w' ⟨rfl, rfl⟩)
      go_ret
      exact ⟨by rw [hv.out]; rfl, (Ext.refl _).alloc _⟩
    | true =>
      cases h2 : decide (1 ≤ k) with
      | false =>
        have hv : Hid (rightE i t k n = false) := Lib.hid (by rw [Bool.eq_false_iff, ne_eq, rightE_iff]; simp [inB] at *; omega)
        go_enter Tryz.func142, Tryz.ntmps142
        go_wp2_with (go_at_call 147; refine (inB_any _ _ _).mono ?_; rintro e w' ⟨rfl, rfl⟩)
        go_ret
        exact ⟨by rw [hv.out]; rfl, (Ext.refl _).alloc _⟩
      | true =>
        cases h3 : decide (k ≤ 3) with
        | false =>
          have hv : Hid (rightE i t k n = false) := Lib.hid (by rw [Bool.eq_false_iff, ne_eq, rightE_iff]; simp [inB] at *; omega)
          go_enter Tryz.func142, Tryz.ntmps142
          go_wp2_with (go_at_call 147; refine (inB_any _ _ _).mono ?_; rintro e w' ⟨rfl, rfl⟩)
          go_ret
          exact ⟨by rw [hv.out]; rfl, (Ext.refl _).alloc _⟩
        | true =>
          cases h4 : decide (n ≤ 200) with
          | false =>
            have hz : decide ((n : Int) ≤ 200) = false := by simp at h4 ⊢; omega
            have hv : Hid (rightE i t k n = false) := Lib.hid (by rw [Bool.eq_false_iff, ne_eq, rightE_iff]; simp [inB] at *; omega)
            go_enter Tryz.func142, Tryz.ntmps142
            go_wp2_with (go_at_call 147; refine (inB_any _ _ _).mono ?_; rintro e w' ⟨rfl, rfl⟩)
            go_ret
            exact ⟨by rw [hv.out]; rfl, (Ext.refl _).alloc _⟩
          | true =>
            have hz : decide ((n : Int) ≤ 200) = true := by simp at h4 ⊢; omega
            have hv : Hid (rightE i t k n = true) := Lib.hid (by rw [rightE_iff]; simp [inB] at *; omega)
            go_enter Tryz.func142, Tryz.ntmps142
            go_wp2_with (go_at_call 147; refine (inB_any _ _ _).mono ?_; rintro e w' ⟨rfl, rfl⟩)
            go_ret
            exact ⟨by rw [hv.out]; rfl, (Ext.refl _).alloc _⟩

end Go.Proofs.YtcapapnhlkmeaaaGreatDoor
namespace Go.Proofs.YtcapapnhlkmeaaaGreatDoor
open Go.RowKit

/-- A writer on its way: from w0 on only its own blocks have turned. -/
def WP (tW : TypeId) (B wb : Nat) (A : Option Addr) (w0 : World) (bs : List Int) (sp : Bool) (w : World) (A' : Option Addr) (c' : Nat) : Prop :=
  Wr tW B w wb A' c' bs sp ∧ Fr (touched wb A) w0 w ∧ ∀ i, blk A' i → blk A i ∨ w0.heap.size ≤ i
section
variable {tW : TypeId} {B wb c c' : Nat} {A A' : Option Addr} {w0 w w' : World} {bs bs' : List Int} {sp sp' : Bool}
theorem WP.start (h : Wr tW B w wb A c bs sp) : WP tW B wb A w bs sp w A c := ⟨h, Fr.refl _ _, fun _ h => .inl h⟩
theorem WP.ext (h : WP tW B wb A w0 bs sp w A' c') (he : Ext w w') : WP tW B wb A w0 bs sp w' A' c' := ⟨h.1.ext he, h.2.1.then he, h.2.2⟩
theorem WP.step (h : WP tW B wb A w0 bs sp w A' c') (hs : WStep tW B wb A' w bs' sp' w') : ∃ A2 c2, WP tW B wb A w0 bs' sp' w' A2 c2 := by
  obtain ⟨A2, c2, h1, h2, h3⟩ := WStep.trans h.2.1 h.2.2 hs
  exact ⟨A2, c2, h1, h2, h3⟩
theorem WP.hold (h : WP tW B wb A w0 bs sp w A' c') (hw : Wr tW B w' wb A' c' bs sp') (hf : Fr (isB wb) w w') : WP tW B wb A w0 bs sp' w' A' c' := ⟨hw, frT h.2.1 h.2.2 (frI hf), h.2.2⟩
theorem WP.done (h : WP tW B wb A w0 bs sp w A' c') : WStep tW B wb A w0 bs sp w := ⟨A', c', h⟩
theorem WP.rd (h : WP tW B wb A w0 bs sp w A' c') {D : Option Addr} {k : IntKind} {zs : List Int} (hD : Rd w0 D (zs.map (.int k))) (hO : zs ≠ [] → Off (touched wb A) D) : Rd w D (zs.map (.int k)) := hD.fr' h.2.1 hO
theorem WP.off (h : WP tW B wb A w0 bs sp w A' c') {D : Option Addr} {k : IntKind} {zs : List Int} (hD : Rd w0 D (zs.map (.int k))) (hO : zs ≠ [] → Off (touched wb A) D) : zs ≠ [] → Off (touched wb A') D :=
  fun hz => off_fr (w1 := w) (hO hz) hD (by simpa using hz) h.2.2
theorem WP.heap (h : WP tW B wb A w0 bs sp w A' c') {i : Nat} (hi : i < w0.heap.size) (h1 : ¬ touched wb A i) : w.heap[i]? = w0.heap[i]? := h.2.1.block i hi h1
theorem WP.size (h : WP tW B wb A w0 bs sp w A' c') : w0.heap.size ≤ w.heap.size := h.2.1.size
end

theorem rd_lit (w : World) (l : List Value) (t : TypeId) : Rd (w.alloc (.cells l.toArray t)) (some ⟨w.heap.size, 0, none⟩) l := fun j u hj => by
  refine ⟨_, rfl, ?_⟩
  rw [add_lit', Nat.zero_add, cell_of_heap (heap_alloc_new w _)]
  simpa using hj

def entryS (bs : List Int) (sp : Bool) (i t k : Int) (ys : List Int) : List Int × Bool :=
  if sp = true then (bs, true) else if rightE i t k ys.length = true then (bs ++ leB 1 k ++ leB 6 i ++ leB 6 t ++ leB 2 ys.length ++ ys, false) else (bs, true)

theorem not_touched_new {tW : TypeId} {B wb c : Nat} {A : Option Addr} {w : World} {bs : List Int} {sp : Bool} (h : Wr tW B w wb A c bs sp) : ¬ touched wb A w.heap.size := by
  rintro (h1 | h1)
  · have := h.lt; omega
  · have := (h.2.2.lt h1).2; omega

set_option maxHeartbeats 600000 in
theorem entry_any (B wb : Nat) (A : Option Addr) (c : Nat) (bs : List Int) (sp : Bool) (i t k : Int) (D : Option Addr) (d : Nat) (ys : List Int) (w : World) (hW : Wr 61 B w wb A c bs sp) (hB : B ≤ w.heap.size)
    (hD : Rd w D (ys.map (.int .u8))) (hO : ys ≠ [] → Off (touched wb A) D) (hl : bs.length ≤ 1000000000) (hy : ys.length ≤ 1000000000) :
    Calls Tryz.prog 117 #[.pointer (some ⟨wb, 0, none⟩), .agg #[.int .i64 i, .int .i64 t, .int .i64 k, .slice D ys.length d]] w fun e w' => e = .returned (.tuple #[]) ∧ WStep 61 B wb A w (entryS bs sp i t k ys).1 (entryS bs sp i t k ys).2 w' := by
  cases sp with
  | true =>
    go_enter Tryz.func117, Tryz.ntmps117
    go_wp2_with (first | (go_at_call 142; refine (right_any _ _ _ _ _ _ _).mono ?_; rintro e w1 ⟨rfl, hE1⟩; have hW1 := hW.ext (((Ext.refl w).alloc _).trans hE1); have hF01 := Fr.ofExt (touched wb A) (((Ext.refl w).alloc _).trans hE1)) | (go_at_call 64; refine (holds_sp _ hW1).mono ?_; rintro e w2 ⟨rfl, hW2, hF2⟩))
    go_end0
    exact ⟨rfl, A, c, hW2, hF01.trans (frI hF2) (fun _ _ h => h), fun _ h => .inl h⟩
  | false =>
    cases hR : rightE i t k ys.length with
    | false =>
      have hs : Hid (entryS bs false i t k ys = (bs, true)) := Lib.hid (by simp [entryS, hR])
      go_enter Tryz.func117, Tryz.ntmps117
      go_wp2_with (first | (go_at_call 142; refine (right_any _ _ _ _ _ _ _).mono ?_; rintro e w1 ⟨rfl, hE1⟩; have hW1 := hW.ext (((Ext.refl w).alloc _).trans hE1); have hF01 := Fr.ofExt (touched wb A) (((Ext.refl w).alloc _).trans hE1)) | (go_at_call 64; refine (holds_no hW1).mono ?_; rintro e w2 ⟨rfl, hW2, hF2⟩))
      go_end0
      rw [hs.out]
      exact ⟨rfl, A, c, hW2, hF01.trans (frI hF2) (fun _ _ h => h), fun _ h => .inl h⟩
    | true =>
      have hs : Hid (entryS bs false i t k ys = (bs ++ leB 1 k ++ leB 6 i ++ leB 6 t ++ leB 2 ys.length ++ ys, false)) := Lib.hid (by simp [entryS, hR])
      obtain ⟨⟨hi1, hi2⟩, ⟨ht1, ht2⟩, hk1, hk2, hn⟩ := rightE_iff.1 hR
      have hnt := not_touched_new hW
      go_enter Tryz.func117, Tryz.ntmps117
      have hW0 := hW.ext ((Ext.refl w).alloc (.cells #[.int .i64 i, .int .i64 t, .int .i64 k, .slice D ys.length d] 106))
      have hD0 := hD.ext ((Ext.refl w).alloc (.cells #[.int .i64 i, .int .i64 t, .int .i64 k, .slice D ys.length d] 106))
      have hH0 := Lib.hid (heap_alloc_new w (.cells #[.int .i64 i, .int .i64 t, .int .i64 k, .slice D ys.length d] 106))
      go_wp2_with (first | (go_at_call 142; refine (right_any _ _ _ _ _ _ _).mono ?_; rintro e w1 ⟨rfl, hE1⟩; have P1 := (WP.start hW0).ext hE1) | (go_at_call 64; refine (holds_ok P1.1).mono ?_; rintro e w2 ⟨rfl, hW2, hF2⟩; have P2 := P1.hold hW2 hF2; have hH2 := Lib.hid ((P2.heap (by simp) hnt).trans hH0.out); have e0 := cell_of_heap hH2.out 2; simp at e0) | fail)
      have hz2 := P2.size
      simp at hz2
      have P2a := P2.ext ((Ext.refl w2).alloc (.cells #[.int .i64 k] 3))
      refine (field_any B wb _ _ bs false 1 _ _ [k] _ P2a.1 (by simp; omega) (rd_one _ _ _) (fun _ => off_new P2.1) (by simp; omega)).mono ?_
      rintro e w3 ⟨rfl, hS3⟩
      rw [field1_1 (by omega) (by omega)] at hS3
      obtain ⟨A3, c3, P3⟩ := P2a.step hS3
      have hH3 := Lib.hid ((P3.heap (by simp) hnt).trans hH0.out)
      have e1 := cell_of_heap hH3.out 0
      have e2 := cell_of_heap hH3.out 1
      have hz3 := P3.size
      simp at e1 e2 hz3
      clear e0 hH2 hS3 P2a hW2 hF2
      go_wp2_with fail
      have P3a := P3.ext ((Ext.refl w3).alloc (.cells #[.int .i64 i, .int .i64 t] 3))
      refine (field_any B wb _ _ _ false 6 _ _ [i, t] _ P3a.1 (by simp; omega) (rd_lit _ [.int .i64 i, .int .i64 t] _) (fun _ => off_new P3.1) (by simp [leB_length]; omega)).mono ?_
      rintro e w4 ⟨rfl, hS4⟩
      rw [field2_6 (by omega) (by omega) (by omega) (by omega)] at hS4
      obtain ⟨A4, c4, P4⟩ := P3a.step hS4
      have hH4 := Lib.hid ((P4.heap (by simp) hnt).trans hH0.out)
      have e3 := cell_of_heap hH4.out 3
      have hz4 := P4.size
      simp at e3 hz4
      clear e1 e2 hH3 hS4 P3a
      go_wp2_with fail
      refine (text_any B wb _ _ _ false _ _ ys _ P4.1 (by omega) (P4.rd hD0 hO) (P4.off hD0 hO) (by simp [leB_length]; omega) (by omega)).mono ?_
      rintro e w5 ⟨rfl, hS5⟩
      obtain ⟨A5, c5, P5⟩ := P4.step hS5
      clear e3 hH4
      go_wp2
      go_end0
      rw [hs.out]
      have ht : textS (bs ++ leB 1 k ++ leB 6 i ++ leB 6 t) false ys = (bs ++ leB 1 k ++ leB 6 i ++ leB 6 t ++ leB 2 ys.length ++ ys, false) := by simp [textS]; omega
      rw [ht] at P5
      exact ⟨rfl, WStep.ext ((Ext.refl w).alloc _) P5.done⟩
end Go.Proofs.YtcapapnhlkmeaaaGreatDoor
namespace Go.Proofs.YtcapapnhlkmeaaaGreatDoor
open Go.RowKit

/-- A row of its own that reads bs. -/
def Fresh (bs : List Int) (w : World) (e : Ending) (w' : World) : Prop := ∃ A' c', e = .returned (.slice A' bs.length c') ∧ Own w' w.heap.size 5 A' c' (bs.map (.int .u8)) ∧ Ext w w'

theorem own_empty (w : World) (B : Nat) (e : TypeId) (hB : B ≤ w.heap.size) : Own (w.alloc (.cells #[] e)) B e (some ⟨w.heap.size, 0, none⟩) 0 [] :=
  Own.mk hB (heap_alloc_new w _) (by simp) (by simp) rfl rfl

set_option maxHeartbeats 400000 in
theorem clone_any (D : Option Addr) (d : Nat) (bs : List Int) (w : World) (hD : Rd w D (bs.map (.int .u8))) (hl : bs.length ≤ 1000000000000) :
    Calls Tryz.prog 72 #[.slice D bs.length d] w (Fresh bs w) := by
  cases D with
  | none =>
    have hb : bs = [] := by
      cases bs with
      | nil => rfl
      | cons b bs => obtain ⟨ad, h, _⟩ := hD 0 (.int .u8 b) rfl; cases h
    subst hb
    have hq := fun (W : World) => Lib.run_eql_slice_nil (P := Tryz.prog) W 32 5 none 0 d 0 0 Tryz.underlying32
    go_enter Tryz.func72, Tryz.ntmps72
    go_wp2
    go_ret
    exact ⟨none, 0, rfl, Own.nil _ _ _, Ext.refl _⟩
  | some ad =>
    have hD1 := hD.ext ((Ext.refl w).alloc (.cells #[] 5))
    have hO1 := own_empty w w.heap.size 5 (Nat.le_refl _)
    have hq := fun (W : World) => Lib.run_eql_slice_nil (P := Tryz.prog) W 32 5 (some ad) bs.length d 0 0 Tryz.underlying32
    go_enter Tryz.func72, Tryz.ntmps72
    go_wp2_with (at_builtin; refine appendBytes _ rfl _ _ rfl w.heap.size _ _ _ [] rfl rfl hO1 _ _ _ bs rfl rfl hD1 (by simp; omega) (by simp) ?_; intro A3 c3 m3 w3 hm3 hown3 hfr3 hA3; obtain rfl := hm3)
    go_ret
    exact ⟨A3, c3, rfl, hown3, own_fresh hO1 ((Ext.refl w).alloc _) hfr3⟩

/-- What Bytes answers: the bytes in a row of their own, unless the writer is spoilt. -/
def BytesP (tW : TypeId) (B wb : Nat) (A : Option Addr) (bs : List Int) (sp : Bool) (w : World) (e : Ending) (w' : World) : Prop :=
  ∃ A' c', e = .returned (.tuple #[.slice A' (if sp then [] else bs).length c', .bool (!sp)]) ∧ Own w' w.heap.size 5 A' c' ((if sp then [] else bs).map (.int .u8)) ∧ WStep tW B wb A w bs sp w'

set_option maxHeartbeats 400000 in
theorem bytes_any (B wb : Nat) (A : Option Addr) (c : Nat) (bs : List Int) (sp : Bool) (w : World) (hW : Wr 61 B w wb A c bs sp) (hl : bs.length ≤ 1000000000000) :
    Calls Tryz.prog 23 #[.pointer (some ⟨wb, 0, none⟩)] w (BytesP 61 B wb A bs sp w) := by
  cases sp with
  | true =>
    go_enter Tryz.func23, Tryz.ntmps23
    go_wp2_with (go_at_call 64; refine (holds_sp _ hW).mono ?_; rintro e w1 ⟨rfl, hW1, hF1⟩)
    go_ret2
    exact ⟨none, 0, rfl, Own.nil _ _ _, A, c, hW1, frI hF1, fun _ h => .inl h⟩
  | false =>
    go_enter Tryz.func23, Tryz.ntmps23
    go_wp2_with (first | (go_at_call 64; refine (holds_ok hW).mono ?_; rintro e w1 ⟨rfl, hW1, hF1⟩; have hc1 := hW1.c0) | (go_at_call 72; refine (clone_any _ _ bs _ hW1.2.2.rd hl).mono ?_; rintro e w2 ⟨A2, c2, rfl, hO2, hE2⟩))
    go_ret2
    exact ⟨A2, c2, rfl, hO2.lower hF1.size, A, c, hW1.ext hE2, (frI hF1).then hE2, fun _ h => .inl h⟩
end Go.Proofs.YtcapapnhlkmeaaaGreatDoor
