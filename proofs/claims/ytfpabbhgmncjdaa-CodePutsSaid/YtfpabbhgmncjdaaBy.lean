/-
  Bytes: the writer's row stays where it is. Steps of two writers.
-/
import Derived.Test.YtfpabbhgmncjdaaTw
import Derived.Test.YtfpabbhgmncjdaaAw
namespace Go.Proofs.Ytfpabbhgmncjdaa
open Go.RowKit

def BytesQ (tW : TypeId) (B wb : Nat) (A : Option Addr) (c : Nat) (bs : List Int) (sp : Bool) (w : World) (e : Ending) (w' : World) : Prop :=
  ∃ A' c', e = .returned (.tuple #[.slice A' (if sp then [] else bs).length c', .bool (!sp)]) ∧ Own w' w.heap.size 5 A' c' ((if sp then [] else bs).map (.int .u8)) ∧ Wr tW B w' wb A c bs sp ∧ Fr (touched wb A) w w'
set_option maxHeartbeats 400000 in
theorem bytes_any2 (B wb : Nat) (A : Option Addr) (c : Nat) (bs : List Int) (sp : Bool) (w : World) (hW : Wr 37 B w wb A c bs sp) (hl : bs.length ≤ 1000000000000) :
    Calls Try.prog 10 #[.pointer (some ⟨wb, 0, none⟩)] w (BytesQ 37 B wb A c bs sp w) := by
  cases sp with
  | true =>
    go_enter Try.func10, Try.ntmps10
    go_wp2_with (go_at_call 28; refine (holds_sp _ hW).mono ?_; rintro e w1 ⟨rfl, hW1, hF1⟩)
    go_ret2
    exact ⟨none, 0, rfl, Own.nil _ _ _, hW1, frI hF1⟩
  | false =>
    go_enter Try.func10, Try.ntmps10
    go_wp2_with (first | (go_at_call 28; refine (holds_ok hW).mono ?_; rintro e w1 ⟨rfl, hW1, hF1⟩; have hc1 := hW1.c0) | (go_at_call 31; refine (clone_any _ _ bs _ hW1.2.2.rd hl).mono ?_; rintro e w2 ⟨A2, c2, rfl, hO2, hE2⟩))
    go_ret2
    exact ⟨A2, c2, rfl, hO2.lower hF1.size, hW1.ext hE2, (frI hF1).then hE2⟩
set_option maxHeartbeats 400000 in
theorem rbytes_any2 (B wb : Nat) (A : Option Addr) (c : Nat) (bs : List Int) (sp : Bool) (w : World) (hW : Wr 48 B w wb A c bs sp) (hl : bs.length ≤ 1000000000000) :
    Calls Try.prog 22 #[.pointer (some ⟨wb, 0, none⟩)] w (BytesQ 48 B wb A c bs sp w) := by
  have hc0 := hW.c0
  have hc1 := hW.c1
  have hlt := hW.lt
  cases sp with
  | true =>
    go_enter Try.func22, Try.ntmps22
    go_wp2
    go_ret2
    exact ⟨none, 0, rfl, Own.nil _ _ _, hW, Fr.refl _ _⟩
  | false =>
    have hO1 := own_empty w w.heap.size 5 (Nat.le_refl _)
    have hD1 := hW.2.2.rd.ext ((Ext.refl w).alloc (.cells #[] 5))
    go_enter Try.func22, Try.ntmps22
    go_wp2_with (at_builtin; refine appendBytes _ rfl _ _ rfl w.heap.size _ _ _ [] rfl rfl hO1 _ _ _ bs rfl rfl hD1 (by simp; omega) (by simp) ?_; intro A3 c3 m3 w3 hm3 hown3 hfr3 hA3; obtain rfl := hm3)
    go_ret2
    have hE3 : Ext w w3 := own_fresh hO1 ((Ext.refl w).alloc _) hfr3
    exact ⟨A3, c3, rfl, hown3, hW.ext hE3, Fr.ofExt _ hE3⟩

/-- The two values of a function at 0 and 1. -/
structure At2 {α : Type} (f : Nat → α) (a b : α) : Prop where
  z : f 0 = a
  o : f 1 = b
theorem At2.mk' {α : Type} (a b : α) : ∃ f : Nat → α, At2 f a b := ⟨fun j => if j = 0 then a else b, ⟨rfl, rfl⟩⟩
def BytesX (tW : TypeId) (B wb : Nat) (A : Option Addr) (c : Nat) (bs : List Int) (sp : Bool) (X : List Int) (q : Bool) (w : World) (e : Ending) (w' : World) : Prop :=
  ∃ A' c', e = .returned (.tuple #[.slice A' X.length c', .bool q]) ∧ Own w' w.heap.size 5 A' c' (X.map (.int .u8)) ∧ Wr tW B w' wb A c bs sp ∧ Fr (touched wb A) w w'
theorem bytes_any3 (B wb : Nat) (A : Option Addr) (c : Nat) (bs : List Int) (sp : Bool) (X : List Int) (q : Bool) (hX : X = if sp then [] else bs) (hq : q = !sp) (hl : bs.length ≤ 1000000000000) (w : World) (hW : Wr 37 B w wb A c bs sp) :
    Calls Try.prog 10 #[.pointer (some ⟨wb, 0, none⟩)] w (BytesX 37 B wb A c bs sp X q w) := by
  subst hX hq; exact bytes_any2 B wb A c bs sp w hW hl
theorem rbytes_any3 (B wb : Nat) (A : Option Addr) (c : Nat) (bs : List Int) (sp : Bool) (X : List Int) (q : Bool) (hX : X = if sp then [] else bs) (hq : q = !sp) (hl : bs.length ≤ 1000000000000) (w : World) (hW : Wr 48 B w wb A c bs sp) :
    Calls Try.prog 22 #[.pointer (some ⟨wb, 0, none⟩)] w (BytesX 48 B wb A c bs sp X q w) := by
  subst hX hq; exact rbytes_any2 B wb A c bs sp w hW hl

section
variable {s wb vb c c' : Nat} {w0 W0 W W' : World} {G : Nat → Prop} {a r : List Int × Bool} {A A' : Option Addr}
theorem TwoG.leftS (h : TwoG s wb vb w0 W0 G a r A c A' c' W) (hw : Wr 37 s W' wb A c a.1 a.2) (hf : Fr (touched wb A) W W') : TwoG s wb vb w0 W0 G a r A c A' c' W' := by
  have nv : ¬ touched wb A vb := by
    rintro (e | e)
    · exact h.wv e
    · exact h.l.2.2.ne_blk h.r.1 (by decide) e
  have na : ∀ i, blk A' i → ¬ touched wb A i := by
    rintro i hi (rfl | e)
    · exact h.r.2.2.ne_blk h.l.1 (by decide) hi
    · exact h.d i e hi
  exact ⟨hw, h.r.fr hf nv na, h.d, Below.trans h.e (hf.below (by have := h.sz; have := h.hs; omega) (fun i hi => by have := h.lge i hi; have := h.hs; omega)), h.hs, fun i hi => by
    obtain ⟨h1, h2, h3, h4⟩ := h.g i hi
    exact ⟨Nat.lt_of_lt_of_le h1 hf.size, h2, h3, (hf.block i h1 h2).trans h4⟩⟩
theorem TwoG.rightS (h : TwoG s wb vb w0 W0 G a r A c A' c' W) (hw : Wr 48 s W' vb A' c' r.1 r.2) (hf : Fr (touched vb A') W W') : TwoG s wb vb w0 W0 G a r A c A' c' W' := by
  have nv : ¬ touched vb A' wb := by
    rintro (e | e)
    · exact h.wv e.symm
    · exact h.r.2.2.ne_blk h.l.1 (by decide) e
  have na : ∀ i, blk A i → ¬ touched vb A' i := by
    rintro i hi (rfl | e)
    · exact h.l.2.2.ne_blk h.r.1 (by decide) hi
    · exact h.d i hi e
  exact ⟨h.l.fr hf nv na, hw, h.d, Below.trans h.e (hf.below (by have := h.sz; have := h.hs; omega) (fun i hi => by have := h.rge i hi; have := h.hs; omega)), h.hs, fun i hi => by
    obtain ⟨h1, h2, h3, h4⟩ := h.g i hi
    exact ⟨Nat.lt_of_lt_of_le h1 hf.size, h2, h3, (hf.block i h1 h3).trans h4⟩⟩
theorem TwoG.old (h : TwoG s wb vb w0 W0 G a r A c A' c' W) : (∀ i, touched wb A i → i < W.heap.size) ∧ (∀ i, touched vb A' i → i < W.heap.size) ∧ ∀ i, G i → i < W.heap.size :=
  ⟨fun i hi => hi.elim (fun e => by rw [e]; exact h.l.lt) (fun e => (h.l.2.2.lt e).2), fun i hi => hi.elim (fun e => by rw [e]; exact h.r.lt) (fun e => (h.r.2.2.lt e).2), fun i hi => (h.g i hi).1⟩
end
theorem bytes_same {a r : List Int × Bool} (h : SRel a r) : (if r.2 then [] else r.1) = if a.2 then [] else a.1 := by
  obtain ⟨h1, h2⟩ := h
  rw [← h1]
  cases ha : a.2 with
  | true => rfl
  | false => simp [h2 ha]
theorem sameBytes_eq (A D : Option Addr) (c d : Nat) (xs : List Int) (w : World) (hA : Rd w A (xs.map (.int .u8))) (hD : Rd w D (xs.map (.int .u8))) (hx : xs.length ≤ maxLen) :
    Calls Try.prog 11 #[.slice A xs.length c, .slice D xs.length d] w fun e w' => e = .returned (.bool true) ∧ Ext w w' :=
  (sameBytes_any A D c d xs xs w hA hD hx hx).mono fun e w' ⟨h1, h2⟩ => ⟨by rw [h1]; simp, h2⟩
end Go.Proofs.Ytfpabbhgmncjdaa
