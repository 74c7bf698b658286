/-
  slices.Clone of bytes, the writer's Bytes.
-/
import Derived.Test.YtfpabbhgmncjdaaWrF
namespace Go.Proofs.Ytfpabbhgmncjdaa
open Go.RowKit

/-- A row of its own that reads bs. -/
def Fresh (bs : List Int) (w : World) (e : Ending) (w' : World) : Prop := ∃ A' c', e = .returned (.slice A' bs.length c') ∧ Own w' w.heap.size 5 A' c' (bs.map (.int .u8)) ∧ Ext w w'

theorem own_empty (w : World) (B : Nat) (e : TypeId) (hB : B ≤ w.heap.size) : Own (w.alloc (.cells #[] e)) B e (some ⟨w.heap.size, 0, none⟩) 0 [] :=
  Own.mk hB (heap_alloc_new w _) (by simp) (by simp) rfl rfl

set_option maxHeartbeats 400000 in
theorem clone_any (D : Option Addr) (d : Nat) (bs : List Int) (w : World) (hD : Rd w D (bs.map (.int .u8))) (hl : bs.length ≤ 1000000000000) :
    Calls Try.prog 31 #[.slice D bs.length d] w (Fresh bs w) := by
  cases D with
  | none =>
    have hb : bs = [] := by
      cases bs with
      | nil => rfl
      | cons b bs => obtain ⟨ad, h, _⟩ := hD 0 (.int .u8 b) rfl; cases h
    subst hb
    have hq := fun (W : World) => Lib.run_eql_slice_nil (P := Try.prog) W 25 5 none 0 d 0 0 Try.underlying25
    go_enter Try.func31, Try.ntmps31
    go_wp2
    go_ret
    exact ⟨none, 0, rfl, Own.nil _ _ _, Ext.refl _⟩
  | some ad =>
    have hD1 := hD.ext ((Ext.refl w).alloc (.cells #[] 5))
    have hO1 := own_empty w w.heap.size 5 (Nat.le_refl _)
    have hq := fun (W : World) => Lib.run_eql_slice_nil (P := Try.prog) W 25 5 (some ad) bs.length d 0 0 Try.underlying25
    go_enter Try.func31, Try.ntmps31
    go_wp2_with (at_builtin; refine appendBytes _ rfl _ _ rfl w.heap.size _ _ _ [] rfl rfl hO1 _ _ _ bs rfl rfl hD1 (by simp; omega) (by simp) ?_; intro A3 c3 m3 w3 hm3 hown3 hfr3 hA3; obtain rfl := hm3)
    go_ret
    exact ⟨A3, c3, rfl, hown3, own_fresh hO1 ((Ext.refl w).alloc _) hfr3⟩

/-- What Bytes answers: the bytes in a row of their own, unless the writer is spoilt. -/
def BytesP (tW : TypeId) (B wb : Nat) (A : Option Addr) (bs : List Int) (sp : Bool) (w : World) (e : Ending) (w' : World) : Prop :=
  ∃ A' c', e = .returned (.tuple #[.slice A' (if sp then [] else bs).length c', .bool (!sp)]) ∧ Own w' w.heap.size 5 A' c' ((if sp then [] else bs).map (.int .u8)) ∧ WStep tW B wb A w bs sp w'

set_option maxHeartbeats 400000 in
theorem bytes_any (B wb : Nat) (A : Option Addr) (c : Nat) (bs : List Int) (sp : Bool) (w : World) (hW : Wr 37 B w wb A c bs sp) (hl : bs.length ≤ 1000000000000) :
    Calls Try.prog 10 #[.pointer (some ⟨wb, 0, none⟩)] w (BytesP 37 B wb A bs sp w) := by
  cases sp with
  | true =>
    go_enter Try.func10, Try.ntmps10
    go_wp2_with (go_at_call 28; refine (holds_sp _ hW).mono ?_; rintro e w1 ⟨rfl, hW1, hF1⟩)
    go_ret2
    exact ⟨none, 0, rfl, Own.nil _ _ _, A, c, hW1, frI hF1, fun _ h => .inl h⟩
  | false =>
    go_enter Try.func10, Try.ntmps10
    go_wp2_with (first | (go_at_call 28; refine (holds_ok hW).mono ?_; rintro e w1 ⟨rfl, hW1, hF1⟩; have hc1 := hW1.c0) | (go_at_call 31; refine (clone_any _ _ bs _ hW1.2.2.rd hl).mono ?_; rintro e w2 ⟨A2, c2, rfl, hO2, hE2⟩))
    go_ret2
    exact ⟨A2, c2, rfl, hO2.lower hF1.size, A, c, hW1.ext hE2, (frI hF1).then hE2, fun _ h => .inl h⟩
end Go.Proofs.Ytfpabbhgmncjdaa
