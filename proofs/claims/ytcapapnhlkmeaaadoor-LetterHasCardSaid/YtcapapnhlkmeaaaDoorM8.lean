/-
  The writer of package code: Entry, Clone, Bytes.
  slices.Clone of bytes, the writer's Bytes.
-/
import Derived.Test.YtcapapnhlkmeaaaDoorM7
namespace Go.Proofs.YtcapapnhlkmeaaaDoor
open Go.RowKit

/-- A writer on its way: from w0 on only its own blocks have turned. -/
def WP (tW : TypeId) (B wb : Nat) (A : Option Addr) (w0 : World) (bs : List Int) (sp : Bool) (w : World) (A' : Option Addr) (c' : Nat) : Prop :=
  Wr tW B w wb A' c' bs sp ∧ Fr (touched wb A) w0 w ∧ ∀ i, blk A' i → blk A i ∨ w0.heap.size ≤ i
section
variable {tW : TypeId} {B wb c c' : Nat} {A A' : Option Addr} {w0 w w' : World} {bs bs' : List Int} {sp sp' : Bool}
theorem WP.start (h : Wr tW B w wb A c bs sp) : WP tW B wb A w bs sp w A c := ⟨h, Fr.refl _ _, fun _ h => .inl h⟩
theorem WP.ext (h : WP tW B wb A w0 bs sp w A' c') (he : Ext w w') : WP tW B wb A w0 bs sp w' A' c' := ⟨h.1.ext he, h.2.1.then he, h.2.2⟩
theorem WP.step (h : WP tW B wb A w0 bs sp w A' c') (hs : WStep tW B wb A' w bs' sp' w') : ∃ A2 c2, WP tW B wb A w0 bs' sp' w' A2 c2 := by
  obtain ⟨A2, c2, h1, h2, h3⟩ := WStep.trans h.2.1 h.2.2 hs
  exact ⟨A2, c2, h1, h2, h3⟩
theorem WP.hold (h : WP tW B wb A w0 bs sp w A' c') (hw : Wr tW B w' wb A' c' bs sp') (hf : Fr (isB wb) w w') : WP tW B wb A w0 bs sp' w' A' c' := ⟨hw, frT h.2.1 h.2.2 (frI hf), h.2.2⟩
theorem WP.done (h : WP tW B wb A w0 bs sp w A' c') : WStep tW B wb A w0 bs sp w := ⟨A', c', h⟩
theorem WP.rd (h : WP tW B wb A w0 bs sp w A' c') {D : Option Addr} {k : IntKind} {zs : List Int} (hD : Rd w0 D (zs.map (.int k))) (hO : zs ≠ [] → Off (touched wb A) D) : Rd w D (zs.map (.int k)) := hD.fr' h.2.1 hO
theorem WP.off (h : WP tW B wb A w0 bs sp w A' c') {D : Option Addr} {k : IntKind} {zs : List Int} (hD : Rd w0 D (zs.map (.int k))) (hO : zs ≠ [] → Off (touched wb A) D) : zs ≠ [] → Off (touched wb A') D :=
  fun hz => off_fr (w1 := w) (hO hz) hD (by simpa using hz) h.2.2
theorem WP.heap (h : WP tW B wb A w0 bs sp w A' c') {i : Nat} (hi : i < w0.heap.size) (h1 : ¬ touched wb A i) : w.heap[i]? = w0.heap[i]? := h.2.1.block i hi h1
theorem WP.size (h : WP tW B wb A w0 bs sp w A' c') : w0.heap.size ≤ w.heap.size := h.2.1.size
end

theorem rd_lit (w : World) (l : List Value) (t : TypeId) : Rd (w.alloc (.cells l.toArray t)) (some ⟨w.heap.size, 0, none⟩) l := fun j u hj => by
  refine ⟨_, rfl, ?_⟩
  rw [add_lit', Nat.zero_add, cell_of_heap (heap_alloc_new w _)]
  simpa using hj

def entryS (bs : List Int) (sp : Bool) (i t k : Int) (ys : List Int) : List Int × Bool :=
  if sp = true then (bs, true) else if rightE i t k ys.length = true then (bs ++ leB 1 k ++ leB 6 i ++ leB 6 t ++ leB 2 ys.length ++ ys, false) else (bs, true)

theorem not_touched_new {tW : TypeId} {B wb c : Nat} {A : Option Addr} {w : World} {bs : List Int} {sp : Bool} (h : Wr tW B w wb A c bs sp) : ¬ touched wb A w.heap.size := by
  rintro (h1 | h1)
  · have := h.lt; omega
  · have := (h.2.2.lt h1).2; omega

set_option maxHeartbeats 600000 in
theorem entry_any (B wb : Nat) (A : Option Addr) (c : Nat) (bs : List Int) (sp : Bool) (i t k : Int) (D : Option Addr) (d : Nat) (ys : List Int) (w : World) (hW : Wr 65 B w wb A c bs sp) (hB : B ≤ w.heap.size)
    (hD : Rd w D (ys.map (.int .u8))) (hO : ys ≠ [] → Off (touched wb A) D) (hl : bs.length ≤ 1000000000) (hy : ys.length ≤ 1000000000) :
    Calls Tryd.prog 52 #[.pointer (some ⟨wb, 0, none⟩), .agg #[.int .i64 i, .int .i64 t, .int .i64 k, .slice D ys.length d]] w fun e w' => e = .returned (.tuple #[]) ∧ WStep 65 B wb A w (entryS bs sp i t k ys).1 (entryS bs sp i t k ys).2 w' := by
  cases sp with
  | true =>
    go_enter Tryd.func52, Tryd.ntmps52
    go_wp2_with (first | (go_at_call 58; refine (right_any _ _ _ _ _ _ _).mono ?_; rintro e w1 ⟨rfl, hE1⟩; have hW1 := hW.ext (((Ext.refl w).alloc _).trans hE1); have hF01 := Fr.ofExt (touched wb A) (((Ext.refl w).alloc _).trans hE1)) | (go_at_call 32; refine (holds_sp _ hW1).mono ?_; rintro e w2 ⟨rfl, hW2, hF2⟩))
    go_end0
    exact ⟨rfl, A, c, hW2, hF01.trans (frI hF2) (fun _ _ h => h), fun _ h => .inl h⟩
  | false =>
    cases hR : rightE i t k ys.length with
    | false =>
      have hs : Hid (entryS bs false i t k ys = (bs, true)) := Lib.hid (by simp [entryS, hR])
      go_enter Tryd.func52, Tryd.ntmps52
      go_wp2_with (first | (go_at_call 58; refine (right_any _ _ _ _ _ _ _).mono ?_; rintro e w1 ⟨rfl, hE1⟩; have hW1 := hW.ext (((Ext.refl w).alloc _).trans hE1); have hF01 := Fr.ofExt (touched wb A) (((Ext.refl w).alloc _).trans hE1)) | (go_at_call 32; refine (holds_no hW1).mono ?_; rintro e w2 ⟨rfl, hW2, hF2⟩))
      go_end0
      rw [hs.out]
      exact ⟨rfl, A, c, hW2, hF01.trans (frI hF2) (fun _ _ h => h), fun _ h => .inl h⟩
    | true =>
      have hs : Hid (entryS bs false i t k ys = (bs ++ leB 1 k ++ leB 6 i ++ leB 6 t ++ leB 2 ys.length ++ ys, false)) := Lib.hid (by simp [entryS, hR])
      obtain ⟨⟨hi1, hi2⟩, ⟨ht1, ht2⟩, hk1, hk2, hn⟩ := rightE_iff.1 hR
      have hnt := not_touched_new hW
      go_enter Tryd.func52, Tryd.ntmps52
      have hW0 := hW.ext ((Ext.refl w).alloc (.cells #[.int .i64 i, .int .i64 t, .int .i64 k, .slice D ys.length d] 71))
      have hD0 := hD.ext ((Ext.refl w).alloc (.cells #[.int .i64 i, .int .i64 t, .int .i64 k, .slice D ys.length d] 71))
      have hH0 := Lib.hid (heap_alloc_new w (.cells #[.int .i64 i, .int .i64 t, .int .i64 k, .slice D ys.length d] 71))
      go_wp2_with (first | (go_at_call 58; refine (right_any _ _ _ _ _ _ _).mono ?_; rintro e w1 ⟨rfl, hE1⟩; have P1 := (WP.start hW0).ext hE1) | (go_at_call 32; refine (holds_ok P1.1).mono ?_; rintro e w2 ⟨rfl, hW2, hF2⟩; have P2 := P1.hold hW2 hF2; have hH2 := Lib.hid ((P2.heap (by simp) hnt).trans hH0.out); have e0 := cell_of_heap hH2.out 2; simp at e0) | fail)
      have hz2 := P2.size
      simp at hz2
      have P2a := P2.ext ((Ext.refl w2).alloc (.cells #[.int .i64 k] 3))
      refine (field_any B wb _ _ bs false 1 _ _ [k] _ P2a.1 (by simp; omega) (rd_one _ _ _) (fun _ => off_new P2.1) (by simp; omega)).mono ?_
      rintro e w3 ⟨rfl, hS3⟩
      rw [field1_1 (by omega) (by omega)] at hS3
      obtain ⟨A3, c3, P3⟩ := P2a.step hS3
      have hH3 := Lib.hid ((P3.heap (by simp) hnt).trans hH0.out)
      have e1 := cell_of_heap hH3.out 0
      have e2 := cell_of_heap hH3.out 1
      have hz3 := P3.size
      simp at e1 e2 hz3
      clear e0 hH2 hS3 P2a hW2 hF2
      go_wp2_with fail
      have P3a := P3.ext ((Ext.refl w3).alloc (.cells #[.int .i64 i, .int .i64 t] 3))
      refine (field_any B wb _ _ _ false 6 _ _ [i, t] _ P3a.1 (by simp; omega) (rd_lit _ [.int .i64 i, .int .i64 t] _) (fun _ => off_new P3.1) (by simp [leB_length]; omega)).mono ?_
      rintro e w4 ⟨rfl, hS4⟩
      rw [field2_6 (by omega) (by omega) (by omega) (by omega)] at hS4
      obtain ⟨A4, c4, P4⟩ := P3a.step hS4
      have hH4 := Lib.hid ((P4.heap (by simp) hnt).trans hH0.out)
      have e3 := cell_of_heap hH4.out 3
      have hz4 := P4.size
      simp at e3 hz4
      clear e1 e2 hH3 hS4 P3a
      go_wp2_with fail
      refine (text_any B wb _ _ _ false _ _ ys _ P4.1 (by omega) (P4.rd hD0 hO) (P4.off hD0 hO) (by simp [leB_length]; omega) (by omega)).mono ?_
      rintro e w5 ⟨rfl, hS5⟩
      obtain ⟨A5, c5, P5⟩ := P4.step hS5
      clear e3 hH4
      go_wp2
      go_end0
      rw [hs.out]
      have ht : textS (bs ++ leB 1 k ++ leB 6 i ++ leB 6 t) false ys = (bs ++ leB 1 k ++ leB 6 i ++ leB 6 t ++ leB 2 ys.length ++ ys, false) := by simp [textS]; omega
      rw [ht] at P5
      exact ⟨rfl, WStep.ext ((Ext.refl w).alloc _) P5.done⟩
end Go.Proofs.YtcapapnhlkmeaaaDoor
namespace Go.Proofs.YtcapapnhlkmeaaaDoor
open Go.RowKit

/-- A row of its own that reads bs. -/
def Fresh (bs : List Int) (w : World) (e : Ending) (w' : World) : Prop := ∃ A' c', e = .returned (.slice A' bs.length c') ∧ Own w' w.heap.size 5 A' c' (bs.map (.int .u8)) ∧ Ext w w'

theorem own_empty (w : World) (B : Nat) (e : TypeId) (hB : B ≤ w.heap.size) : Own (w.alloc (.cells #[] e)) B e (some ⟨w.heap.size, 0, none⟩) 0 [] :=
  Own.mk hB (heap_alloc_new w _) (by simp) (by simp) rfl rfl

set_option maxHeartbeats 400000 in
theorem clone_any (D : Option Addr) (d : Nat) (bs : List Int) (w : World) (hD : Rd w D (bs.map (.int .u8))) (hl : bs.length ≤ 1000000000000) :
    Calls Tryd.prog 40 #[.slice D bs.length d] w (Fresh bs w) := by
  cases D with
  | none =>
    have hb : bs = [] := by
      cases bs with
      | nil => rfl
      | cons b bs => obtain ⟨ad, h, _⟩ := hD 0 (.int .u8 b) rfl; cases h
    subst hb
    have hq := fun (W : World) => Lib.run_eql_slice_nil (P := Tryd.prog) W 32 5 none 0 d 0 0 Tryd.underlying32
    go_enter Tryd.func40, Tryd.ntmps40
    go_wp2
    go_ret
    exact ⟨none, 0, rfl, Own.nil _ _ _, Ext.refl _⟩
  | some ad =>
    have hD1 := hD.ext ((Ext.refl w).alloc (.cells #[] 5))
    have hO1 := own_empty w w.heap.size 5 (Nat.le_refl _)
    have hq := fun (W : World) => Lib.run_eql_slice_nil (P := Tryd.prog) W 32 5 (some ad) bs.length d 0 0 Tryd.underlying32
    go_enter Tryd.func40, Tryd.ntmps40
    go_wp2_with (at_builtin; refine appendBytes _ rfl _ _ rfl w.heap.size _ _ _ [] rfl rfl hO1 _ _ _ bs rfl rfl hD1 (by simp; omega) (by simp) ?_; intro A3 c3 m3 w3 hm3 hown3 hfr3 hA3; obtain rfl := hm3)
    go_ret
    exact ⟨A3, c3, rfl, hown3, own_fresh hO1 ((Ext.refl w).alloc _) hfr3⟩

/-- What Bytes answers: the bytes in a row of their own, unless the writer is spoilt. -/
def BytesP (tW : TypeId) (B wb : Nat) (A : Option Addr) (bs : List Int) (sp : Bool) (w : World) (e : Ending) (w' : World) : Prop :=
  ∃ A' c', e = .returned (.tuple #[.slice A' (if sp then [] else bs).length c', .bool (!sp)]) ∧ Own w' w.heap.size 5 A' c' ((if sp then [] else bs).map (.int .u8)) ∧ WStep tW B wb A w bs sp w'

set_option maxHeartbeats 400000 in
theorem bytes_any (B wb : Nat) (A : Option Addr) (c : Nat) (bs : List Int) (sp : Bool) (w : World) (hW : Wr 65 B w wb A c bs sp) (hl : bs.length ≤ 1000000000000) :
    Calls Tryd.prog 19 #[.pointer (some ⟨wb, 0, none⟩)] w (BytesP 65 B wb A bs sp w) := by
  cases sp with
  | true =>
    go_enter Tryd.func19, Tryd.ntmps19
    go_wp2_with (go_at_call 32; refine (holds_sp _ hW).mono ?_; rintro e w1 ⟨rfl, hW1, hF1⟩)
    go_ret2
    exact ⟨none, 0, rfl, Own.nil _ _ _, A, c, hW1, frI hF1, fun _ h => .inl h⟩
  | false =>
    go_enter Tryd.func19, Tryd.ntmps19
    go_wp2_with (first | (go_at_call 32; refine (holds_ok hW).mono ?_; rintro e w1 ⟨rfl, hW1, hF1⟩; have hc1 := hW1.c0) | (go_at_call 40; refine (clone_any _ _ bs _ hW1.2.2.rd hl).mono ?_; rintro e w2 ⟨A2, c2, rfl, hO2, hE2⟩))
    go_ret2
    exact ⟨A2, c2, rfl, hO2.lower hF1.size, A, c, hW1.ext hE2, (frI hF1).then hE2, fun _ h => .inl h⟩
end Go.Proofs.YtcapapnhlkmeaaaDoor
