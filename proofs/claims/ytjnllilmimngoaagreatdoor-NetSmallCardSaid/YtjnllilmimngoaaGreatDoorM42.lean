/-
  The bag of the verifier: what is put in.
  The bag of the verifier: letters.
-/
import Derived.Test.YtjnllilmimngoaaGreatDoorM41
import Derived.Test.YtjnllilmimngoaaGreatDoorM38
import Derived.Test.YtjnllilmimngoaaGreatDoorM39
import Derived.Test.YtjnllilmimngoaaGreatDoorM40
import Derived.Test.YtjnllilmimngoaaGreatDoorM20
namespace Go.Proofs.YtjnllilmimngoaaGreatDoor
open Go.RowKit

def bagC (v0 v2 v5 v8 v9 v14 : Value) : Array Value := #[v0, .slice none 0 0, v2, .slice none 0 0, .slice none 0 0, v5, .slice none 0 0, .slice none 0 0, v8, v9, .slice none 0 0, .slice none 0 0, .slice none 0 0, .slice none 0 0, v14]
def BagH (w : World) (gb : Nat) (v0 v2 v5 v8 v9 v14 : Value) : Prop := w.heap[gb]? = some (.cells (bagC v0 v2 v5 v8 v9 v14) 96)
theorem BagH.ext {w w' : World} {gb : Nat} {v0 v2 v5 v8 v9 v14 : Value} (h : BagH w gb v0 v2 v5 v8 v9 v14) (he : Ext w w') : BagH w' gb v0 v2 v5 v8 v9 v14 :=
  (he.below.block gb (World.block_lt_of_cell? w _ (cell_of_heap h 0))).trans h
theorem BagH.fr {S : Nat → Prop} {w w' : World} {gb : Nat} {v0 v2 v5 v8 v9 v14 : Value} (h : BagH w gb v0 v2 v5 v8 v9 v14) (hf : Fr S w w') (hs : ¬ S gb) : BagH w' gb v0 v2 v5 v8 v9 v14 :=
  (hf.block gb (World.block_lt_of_cell? w _ (cell_of_heap h 0)) hs).trans h
/-- What lies in a bag that was made behind w0. -/
structure BG (w0 w : World) (gb : Nat) (L0 L2 L5 L8 L9 L14 : Option Addr) (c0 c2 c5 c8 c9 c14 : Nat) (x0 x2 x5 x8 x9 x14 : List Value) : Prop where
  h : BagH w gb (.slice L0 x0.length c0) (.slice L2 x2.length c2) (.slice L5 x5.length c5) (.slice L8 x8.length c8) (.slice L9 x9.length c9) (.slice L14 x14.length c14)
  o0 : Own w (gb + 1) 30 L0 c0 x0
  o2 : Own w (gb + 1) 29 L2 c2 x2
  o5 : Own w (gb + 1) 33 L5 c5 x5
  o8 : Own w (gb + 1) 28 L8 c8 x8
  o9 : Own w (gb + 1) 27 L9 c9 x9
  o14 : Own w (gb + 1) 22 L14 c14 x14
  e : Ext w0 w
  s : w0.heap.size ≤ gb
theorem BG.ext {w0 w w2 : World} {gb : Nat} {L0 L2 L5 L8 L9 L14 : Option Addr} {c0 c2 c5 c8 c9 c14 : Nat} {x0 x2 x5 x8 x9 x14 : List Value} (h : BG w0 w gb L0 L2 L5 L8 L9 L14 c0 c2 c5 c8 c9 c14 x0 x2 x5 x8 x9 x14) (he : Ext w w2) : BG w0 w2 gb L0 L2 L5 L8 L9 L14 c0 c2 c5 c8 c9 c14 x0 x2 x5 x8 x9 x14 :=
  ⟨h.h.ext he, h.o0.ext he, h.o2.ext he, h.o5.ext he, h.o8.ext he, h.o9.ext he, h.o14.ext he, h.e.trans he, h.s⟩
theorem BG.lt {w0 w : World} {gb : Nat} {L0 L2 L5 L8 L9 L14 : Option Addr} {c0 c2 c5 c8 c9 c14 : Nat} {x0 x2 x5 x8 x9 x14 : List Value} (h : BG w0 w gb L0 L2 L5 L8 L9 L14 c0 c2 c5 c8 c9 c14 x0 x2 x5 x8 x9 x14) : gb < w.heap.size := World.block_lt_of_cell? w _ (cell_of_heap h.h 0)
theorem BG.start (w : World) : BG w (w.alloc (.cells (bagC (.slice none 0 0) (.slice none 0 0) (.slice none 0 0) (.slice none 0 0) (.slice none 0 0) (.slice none 0 0)) 96)) w.heap.size none none none none none none 0 0 0 0 0 0 [] [] [] [] [] [] :=
  ⟨heap_alloc_new w _, Own.nil _ _ _, Own.nil _ _ _, Own.nil _ _ _, Own.nil _ _ _, Own.nil _ _ _, Own.nil _ _ _, (Ext.refl w).alloc _, Nat.le_refl _⟩
theorem BG.put0 {w0 w w3 : World} {gb : Nat} {L0 L2 L5 L8 L9 L14 : Option Addr} {c0 c2 c5 c8 c9 c14 : Nat} {x0 x2 x5 x8 x9 x14 : List Value} (h : BG w0 w gb L0 L2 L5 L8 L9 L14 c0 c2 c5 c8 c9 c14 x0 x2 x5 x8 x9 x14) {u : Value} {A3 : Option Addr} {c3 n3 : Nat} (hO : Own w3 (gb + 1) 30 A3 c3 (x0 ++ [u])) (hF : Fr (blk L0) w w3) (hn : n3 = x0.length + 1) :
    BG w0 (w3.setCell ⟨gb, 0, none⟩ (.slice A3 n3 c3)) gb A3 L2 L5 L8 L9 L14 c3 c2 c5 c8 c9 c14 (x0 ++ [u]) x2 x5 x8 x9 x14 := by
  subst hn
  have hH := h.h.fr hF (h.o0.ne_blk h.h (by decide))
  have hg : ¬ blk A3 gb := hO.ne_blk hH (by decide)
  refine ⟨?_, ?_, ?_, ?_, ?_, ?_, ?_, ?_, h.s⟩
  · unfold BagH
    rw [heap_set hH]
    simp [bagC]
  · exact hO.keep fun i hi _ => Below.heap_setCell _ _ _ i (by rintro rfl; exact hg hi)
  · exact (h.o2.fr hF (fun i hi => Own.ne h.o2 h.o0 (by decide) hi)).keep fun i hi _ => Below.heap_setCell _ _ _ i (by rintro rfl; exact (h.o2.ne_blk h.h (by decide)) hi)
  · exact (h.o5.fr hF (fun i hi => Own.ne h.o5 h.o0 (by decide) hi)).keep fun i hi _ => Below.heap_setCell _ _ _ i (by rintro rfl; exact (h.o5.ne_blk h.h (by decide)) hi)
  · exact (h.o8.fr hF (fun i hi => Own.ne h.o8 h.o0 (by decide) hi)).keep fun i hi _ => Below.heap_setCell _ _ _ i (by rintro rfl; exact (h.o8.ne_blk h.h (by decide)) hi)
  · exact (h.o9.fr hF (fun i hi => Own.ne h.o9 h.o0 (by decide) hi)).keep fun i hi _ => Below.heap_setCell _ _ _ i (by rintro rfl; exact (h.o9.ne_blk h.h (by decide)) hi)
  · exact (h.o14.fr hF (fun i hi => Own.ne h.o14 h.o0 (by decide) hi)).keep fun i hi _ => Below.heap_setCell _ _ _ i (by rintro rfl; exact (h.o14.ne_blk h.h (by decide)) hi)
  · refine Ext.set (Fr.low h.e hF (fun j hj => ?_)) (p := ⟨gb, 0, none⟩) h.s _
    have := (h.o0.lt hj).1
    have := h.s
    omega
theorem BG.put2 {w0 w w3 : World} {gb : Nat} {L0 L2 L5 L8 L9 L14 : Option Addr} {c0 c2 c5 c8 c9 c14 : Nat} {x0 x2 x5 x8 x9 x14 : List Value} (h : BG w0 w gb L0 L2 L5 L8 L9 L14 c0 c2 c5 c8 c9 c14 x0 x2 x5 x8 x9 x14) {u : Value} {A3 : Option Addr} {c3 n3 : Nat} (hO : Own w3 (gb + 1) 29 A3 c3 (x2 ++ [u])) (hF : Fr (blk L2) w w3) (hn : n3 = x2.length + 1) :
    BG w0 (w3.setCell ⟨gb, 2, none⟩ (.slice A3 n3 c3)) gb L0 A3 L5 L8 L9 L14 c0 c3 c5 c8 c9 c14 x0 (x2 ++ [u]) x5 x8 x9 x14 := by
  subst hn
  have hH := h.h.fr hF (h.o2.ne_blk h.h (by decide))
  have hg : ¬ blk A3 gb := hO.ne_blk hH (by decide)
  refine ⟨?_, ?_, ?_, ?_, ?_, ?_, ?_, ?_, h.s⟩
  · unfold BagH
    rw [heap_set hH]
    simp [bagC]
  · exact (h.o0.fr hF (fun i hi => Own.ne h.o0 h.o2 (by decide) hi)).keep fun i hi _ => Below.heap_setCell _ _ _ i (by rintro rfl; exact (h.o0.ne_blk h.h (by decide)) hi)
  · exact hO.keep fun i hi _ => Below.heap_setCell _ _ _ i (by rintro rfl; exact hg hi)
  · exact (h.o5.fr hF (fun i hi => Own.ne h.o5 h.o2 (by decide) hi)).keep fun i hi _ => Below.heap_setCell _ _ _ i (by rintro rfl; exact (h.o5.ne_blk h.h (by decide)) hi)
  · exact (h.o8.fr hF (fun i hi => Own.ne h.o8 h.o2 (by decide) hi)).keep fun i hi _ => Below.heap_setCell _ _ _ i (by rintro rfl; exact (h.o8.ne_blk h.h (by decide)) hi)
  · exact (h.o9.fr hF (fun i hi => Own.ne h.o9 h.o2 (by decide) hi)).keep fun i hi _ => Below.heap_setCell _ _ _ i (by rintro rfl; exact (h.o9.ne_blk h.h (by decide)) hi)
  · exact (h.o14.fr hF (fun i hi => Own.ne h.o14 h.o2 (by decide) hi)).keep fun i hi _ => Below.heap_setCell _ _ _ i (by rintro rfl; exact (h.o14.ne_blk h.h (by decide)) hi)
  · refine Ext.set (Fr.low h.e hF (fun j hj => ?_)) (p := ⟨gb, 2, none⟩) h.s _
    have := (h.o2.lt hj).1
    have := h.s
    omega
theorem BG.put5 {w0 w w3 : World} {gb : Nat} {L0 L2 L5 L8 L9 L14 : Option Addr} {c0 c2 c5 c8 c9 c14 : Nat} {x0 x2 x5 x8 x9 x14 : List Value} (h : BG w0 w gb L0 L2 L5 L8 L9 L14 c0 c2 c5 c8 c9 c14 x0 x2 x5 x8 x9 x14) {u : Value} {A3 : Option Addr} {c3 n3 : Nat} (hO : Own w3 (gb + 1) 33 A3 c3 (x5 ++ [u])) (hF : Fr (blk L5) w w3) (hn : n3 = x5.length + 1) :
    BG w0 (w3.setCell ⟨gb, 5, none⟩ (.slice A3 n3 c3)) gb L0 L2 A3 L8 L9 L14 c0 c2 c3 c8 c9 c14 x0 x2 (x5 ++ [u]) x8 x9 x14 := by
  subst hn
  have hH := h.h.fr hF (h.o5.ne_blk h.h (by decide))
  have hg : ¬ blk A3 gb := hO.ne_blk hH (by decide)
  refine ⟨?_, ?_, ?_, ?_, ?_, ?_, ?_, ?_, h.s⟩
  · unfold BagH
    rw [heap_set hH]
    simp [bagC]
  · exact (h.o0.fr hF (fun i hi => Own.ne h.o0 h.o5 (by decide) hi)).keep fun i hi _ => Below.heap_setCell _ _ _ i (by rintro rfl; exact (h.o0.ne_blk h.h (by decide)) hi)
  · exact (h.o2.fr hF (fun i hi => Own.ne h.o2 h.o5 (by decide) hi)).keep fun i hi _ => Below.heap_setCell _ _ _ i (by rintro rfl; exact (h.o2.ne_blk h.h (by decide)) hi)
  · exact hO.keep fun i hi _ => Below.heap_setCell _ _ _ i (by rintro rfl; exact hg hi)
  · exact (h.o8.fr hF (fun i hi => Own.ne h.o8 h.o5 (by decide) hi)).keep fun i hi _ => Below.heap_setCell _ _ _ i (by rintro rfl; exact (h.o8.ne_blk h.h (by decide)) hi)
  · exact (h.o9.fr hF (fun i hi => Own.ne h.o9 h.o5 (by decide) hi)).keep fun i hi _ => Below.heap_setCell _ _ _ i (by rintro rfl; exact (h.o9.ne_blk h.h (by decide)) hi)
  · exact (h.o14.fr hF (fun i hi => Own.ne h.o14 h.o5 (by decide) hi)).keep fun i hi _ => Below.heap_setCell _ _ _ i (by rintro rfl; exact (h.o14.ne_blk h.h (by decide)) hi)
  · refine Ext.set (Fr.low h.e hF (fun j hj => ?_)) (p := ⟨gb, 5, none⟩) h.s _
    have := (h.o5.lt hj).1
    have := h.s
    omega
theorem BG.put8 {w0 w w3 : World} {gb : Nat} {L0 L2 L5 L8 L9 L14 : Option Addr} {c0 c2 c5 c8 c9 c14 : Nat} {x0 x2 x5 x8 x9 x14 : List Value} (h : BG w0 w gb L0 L2 L5 L8 L9 L14 c0 c2 c5 c8 c9 c14 x0 x2 x5 x8 x9 x14) {u : Value} {A3 : Option Addr} {c3 n3 : Nat} (hO : Own w3 (gb + 1) 28 A3 c3 (x8 ++ [u])) (hF : Fr (blk L8) w w3) (hn : n3 = x8.length + 1) :
    BG w0 (w3.setCell ⟨gb, 8, none⟩ (.slice A3 n3 c3)) gb L0 L2 L5 A3 L9 L14 c0 c2 c5 c3 c9 c14 x0 x2 x5 (x8 ++ [u]) x9 x14 := by
  subst hn
  have hH := h.h.fr hF (h.o8.ne_blk h.h (by decide))
  have hg : ¬ blk A3 gb := hO.ne_blk hH (by decide)
  refine ⟨?_, ?_, ?_, ?_, ?_, ?_, ?_, ?_, h.s⟩
  · unfold BagH
    rw [heap_set hH]
    simp [bagC]
  · exact (h.o0.fr hF (fun i hi => Own.ne h.o0 h.o8 (by decide) hi)).keep fun i hi _ => Below.heap_setCell _ _ _ i (by rintro rfl; exact (h.o0.ne_blk h.h (by decide)) hi)
  · exact (h.o2.fr hF (fun i hi => Own.ne h.o2 h.o8 (by decide) hi)).keep fun i hi _ => Below.heap_setCell _ _ _ i (by rintro rfl; exact (h.o2.ne_blk h.h (by decide)) hi)
  · exact (h.o5.fr hF (fun i hi => Own.ne h.o5 h.o8 (by decide) hi)).keep fun i hi _ => Below.heap_setCell _ _ _ i (by rintro rfl; exact (h.o5.ne_blk h.h (by decide)) hi)
  · exact hO.keep fun i hi _ => Below.heap_setCell _ _ _ i (by rintro rfl; exact hg hi)
  · exact (h.o9.fr hF (fun i hi => Own.ne h.o9 h.o8 (by decide) hi)).keep fun i hi _ => Below.heap_setCell _ _ _ i (by rintro rfl; exact (h.o9.ne_blk h.h (by decide)) hi)
  · exact (h.o14.fr hF (fun i hi => Own.ne h.o14 h.o8 (by decide) hi)).keep fun i hi _ => Below.heap_setCell _ _ _ i (by rintro rfl; exact (h.o14.ne_blk h.h (by decide)) hi)
  · refine Ext.set (Fr.low h.e hF (fun j hj => ?_)) (p := ⟨gb, 8, none⟩) h.s _
    have := (h.o8.lt hj).1
    have := h.s
    omega
theorem BG.put9 {w0 w w3 : World} {gb : Nat} {L0 L2 L5 L8 L9 L14 : Option Addr} {c0 c2 c5 c8 c9 c14 : Nat} {x0 x2 x5 x8 x9 x14 : List Value} (h : BG w0 w gb L0 L2 L5 L8 L9 L14 c0 c2 c5 c8 c9 c14 x0 x2 x5 x8 x9 x14) {u : Value} {A3 : Option Addr} {c3 n3 : Nat} (hO : Own w3 (gb + 1) 27 A3 c3 (x9 ++ [u])) (hF : Fr (blk L9) w w3) (hn : n3 = x9.length + 1) :
    BG w0 (w3.setCell ⟨gb, 9, none⟩ (.slice A3 n3 c3)) gb L0 L2 L5 L8 A3 L14 c0 c2 c5 c8 c3 c14 x0 x2 x5 x8 (x9 ++ [u]) x14 := by
  subst hn
  have hH := h.h.fr hF (h.o9.ne_blk h.h (by decide))
  have hg : ¬ blk A3 gb := hO.ne_blk hH (by decide)
  refine ⟨?_, ?_, ?_, ?_, ?_, ?_, ?_, ?_, h.s⟩
  · unfold BagH
    rw [heap_set hH]
    simp [bagC]
  · exact (h.o0.fr hF (fun i hi => Own.ne h.o0 h.o9 (by decide) hi)).keep fun i hi _ => Below.heap_setCell _ _ _ i (by rintro rfl; exact (h.o0.ne_blk h.h (by decide)) hi)
  · exact (h.o2.fr hF (fun i hi => Own.ne h.o2 h.o9 (by decide) hi)).keep fun i hi _ => Below.heap_setCell _ _ _ i (by rintro rfl; exact (h.o2.ne_blk h.h (by decide)) hi)
  · exact (h.o5.fr hF (fun i hi => Own.ne h.o5 h.o9 (by decide) hi)).keep fun i hi _ => Below.heap_setCell _ _ _ i (by rintro rfl; exact (h.o5.ne_blk h.h (by decide)) hi)
  · exact (h.o8.fr hF (fun i hi => Own.ne h.o8 h.o9 (by decide) hi)).keep fun i hi _ => Below.heap_setCell _ _ _ i (by rintro rfl; exact (h.o8.ne_blk h.h (by decide)) hi)
  · exact hO.keep fun i hi _ => Below.heap_setCell _ _ _ i (by rintro rfl; exact hg hi)
  · exact (h.o14.fr hF (fun i hi => Own.ne h.o14 h.o9 (by decide) hi)).keep fun i hi _ => Below.heap_setCell _ _ _ i (by rintro rfl; exact (h.o14.ne_blk h.h (by decide)) hi)
  · refine Ext.set (Fr.low h.e hF (fun j hj => ?_)) (p := ⟨gb, 9, none⟩) h.s _
    have := (h.o9.lt hj).1
    have := h.s
    omega
theorem BG.put14 {w0 w w3 : World} {gb : Nat} {L0 L2 L5 L8 L9 L14 : Option Addr} {c0 c2 c5 c8 c9 c14 : Nat} {x0 x2 x5 x8 x9 x14 : List Value} (h : BG w0 w gb L0 L2 L5 L8 L9 L14 c0 c2 c5 c8 c9 c14 x0 x2 x5 x8 x9 x14) {u : Value} {A3 : Option Addr} {c3 n3 : Nat} (hO : Own w3 (gb + 1) 22 A3 c3 (x14 ++ [u])) (hF : Fr (blk L14) w w3) (hn : n3 = x14.length + 1) :
    BG w0 (w3.setCell ⟨gb, 14, none⟩ (.slice A3 n3 c3)) gb L0 L2 L5 L8 L9 A3 c0 c2 c5 c8 c9 c3 x0 x2 x5 x8 x9 (x14 ++ [u]) := by
  subst hn
  have hH := h.h.fr hF (h.o14.ne_blk h.h (by decide))
  have hg : ¬ blk A3 gb := hO.ne_blk hH (by decide)
  refine ⟨?_, ?_, ?_, ?_, ?_, ?_, ?_, ?_, h.s⟩
  · unfold BagH
    rw [heap_set hH]
    simp [bagC]
  · exact (h.o0.fr hF (fun i hi => Own.ne h.o0 h.o14 (by decide) hi)).keep fun i hi _ => Below.heap_setCell _ _ _ i (by rintro rfl; exact (h.o0.ne_blk h.h (by decide)) hi)
  · exact (h.o2.fr hF (fun i hi => Own.ne h.o2 h.o14 (by decide) hi)).keep fun i hi _ => Below.heap_setCell _ _ _ i (by rintro rfl; exact (h.o2.ne_blk h.h (by decide)) hi)
  · exact (h.o5.fr hF (fun i hi => Own.ne h.o5 h.o14 (by decide) hi)).keep fun i hi _ => Below.heap_setCell _ _ _ i (by rintro rfl; exact (h.o5.ne_blk h.h (by decide)) hi)
  · exact (h.o8.fr hF (fun i hi => Own.ne h.o8 h.o14 (by decide) hi)).keep fun i hi _ => Below.heap_setCell _ _ _ i (by rintro rfl; exact (h.o8.ne_blk h.h (by decide)) hi)
  · exact (h.o9.fr hF (fun i hi => Own.ne h.o9 h.o14 (by decide) hi)).keep fun i hi _ => Below.heap_setCell _ _ _ i (by rintro rfl; exact (h.o9.ne_blk h.h (by decide)) hi)
  · exact hO.keep fun i hi _ => Below.heap_setCell _ _ _ i (by rintro rfl; exact hg hi)
  · refine Ext.set (Fr.low h.e hF (fun j hj => ?_)) (p := ⟨gb, 14, none⟩) h.s _
    have := (h.o14.lt hj).1
    have := h.s
    omega
set_option maxRecDepth 100000 in
set_option maxHeartbeats 1000000 in
theorem putLimbs_bg {w0 w : World} {gb : Nat} {L0 L2 L5 L8 L9 L14 : Option Addr} {c0 c2 c5 c8 c9 c14 : Nat} {x0 x2 x5 x8 x9 x14 : List Value} (h : BG w0 w gb L0 L2 L5 L8 L9 L14 c0 c2 c5 c8 c9 c14 x0 x2 x5 x8 x9 x14) (D : Option Addr) (m d : Nat) (hl : x0.length ≤ 1000000) :
    Calls Tryz.prog 153 #[.pointer (some ⟨gb, 0, none⟩), .slice D m d] w fun e w' => e = .returned (.tuple #[]) ∧ ∃ A3 c3, BG w0 w' gb A3 L2 L5 L8 L9 L14 c3 c2 c5 c8 c9 c14 (x0 ++ [.slice D m d]) x2 x5 x8 x9 x14 ∧ Fr (fun j => j = gb ∨ blk L0 j) w w' := by
  obtain ⟨i0, hi, hz0, hz1, hz2⟩ := info_parts infrLimbs
  have HI := Lib.hid hi
  have H0 := Lib.hid hz0
  have H1 := Lib.hid hz1
  have H2 := Lib.hid hz2
  clear hi hz0 hz1 hz2
  have b5 := cell_of_heap h.h 0
  have hlt := h.lt
  have hb := h.ext ((Ext.refl w).alloc (.cells #[.slice D m d] 30))
  have b5a := cell_of_heap hb.h 0
  simp [bagC] at b5 b5a
  have HB := Lib.hid hb
  have HW := Lib.hid h
  clear hb h
  go_enter Tryz.func153, Tryz.ntmps153
  go_wp2_with (at_builtin; refine wpList_append_rd _ rfl _ _ 81 rfl 30 i0 _ 24 Tryz.underlying81 HI.out H0.out H1.out H2.out rfl (gb + 1) _ _ _ x0 rfl rfl HB.out.o0 _ _ _ [.slice D m d] rfl rfl (rd_one _ _ _) (by intro u hu; simp at hu; subst hu; rfl) (by unfold maxLen; simp; omega) (by simp; omega) (by simp; omega) ?_; intro A3 c3 w3 hO3 hF3 hA3; have hn3 : ¬ blk L0 gb := (HB.out.o0.ne_blk HB.out.h (by decide)); have hH3 := HB.out.h.fr hF3 hn3; have b3 := cell_of_heap hH3 0; have f3 := frozen_of_heap hH3 0; simp [bagC] at b3; have HO3 := Lib.hid hO3; have HF3 := Lib.hid hF3; have HH3 := Lib.hid hH3; clear hO3 hF3 hA3 hn3 hH3)
  go_end0
  refine ⟨rfl, A3, c3, HB.out.put0 HO3.out HF3.out (by simp), ?_⟩
  · exact Fr.set (p := ⟨gb, 0, none⟩) (((Fr.refl (fun j => j = gb ∨ blk L0 j) w).alloc _).trans HF3.out (fun i _ h => Or.inr h)) (Or.inl (Or.inl rfl)) _
set_option maxRecDepth 100000 in
set_option maxHeartbeats 1000000 in
theorem putInts_bg {w0 w : World} {gb : Nat} {L0 L2 L5 L8 L9 L14 : Option Addr} {c0 c2 c5 c8 c9 c14 : Nat} {x0 x2 x5 x8 x9 x14 : List Value} (h : BG w0 w gb L0 L2 L5 L8 L9 L14 c0 c2 c5 c8 c9 c14 x0 x2 x5 x8 x9 x14) (D : Option Addr) (m d : Nat) (hl : x2.length ≤ 1000000) :
    Calls Tryz.prog 152 #[.pointer (some ⟨gb, 0, none⟩), .slice D m d] w fun e w' => e = .returned (.tuple #[]) ∧ ∃ A3 c3, BG w0 w' gb L0 A3 L5 L8 L9 L14 c0 c3 c5 c8 c9 c14 x0 (x2 ++ [.slice D m d]) x5 x8 x9 x14 ∧ Fr (fun j => j = gb ∨ blk L2 j) w w' := by
  obtain ⟨i0, hi, hz0, hz1, hz2⟩ := info_parts infrInts
  have HI := Lib.hid hi
  have H0 := Lib.hid hz0
  have H1 := Lib.hid hz1
  have H2 := Lib.hid hz2
  clear hi hz0 hz1 hz2
  have b5 := cell_of_heap h.h 2
  have hlt := h.lt
  have hb := h.ext ((Ext.refl w).alloc (.cells #[.slice D m d] 29))
  have b5a := cell_of_heap hb.h 2
  simp [bagC] at b5 b5a
  have HB := Lib.hid hb
  have HW := Lib.hid h
  clear hb h
  go_enter Tryz.func152, Tryz.ntmps152
  go_wp2_with (at_builtin; refine wpList_append_rd _ rfl _ _ 83 rfl 29 i0 _ 24 Tryz.underlying83 HI.out H0.out H1.out H2.out rfl (gb + 1) _ _ _ x2 rfl rfl HB.out.o2 _ _ _ [.slice D m d] rfl rfl (rd_one _ _ _) (by intro u hu; simp at hu; subst hu; rfl) (by unfold maxLen; simp; omega) (by simp; omega) (by simp; omega) ?_; intro A3 c3 w3 hO3 hF3 hA3; have hn3 : ¬ blk L2 gb := (HB.out.o2.ne_blk HB.out.h (by decide)); have hH3 := HB.out.h.fr hF3 hn3; have b3 := cell_of_heap hH3 2; have f3 := frozen_of_heap hH3 2; simp [bagC] at b3; have HO3 := Lib.hid hO3; have HF3 := Lib.hid hF3; have HH3 := Lib.hid hH3; clear hO3 hF3 hA3 hn3 hH3)
  go_end0
  refine ⟨rfl, A3, c3, HB.out.put2 HO3.out HF3.out (by simp), ?_⟩
  · exact Fr.set (p := ⟨gb, 2, none⟩) (((Fr.refl (fun j => j = gb ∨ blk L2 j) w).alloc _).trans HF3.out (fun i _ h => Or.inr h)) (Or.inl (Or.inl rfl)) _
set_option maxRecDepth 100000 in
set_option maxHeartbeats 1000000 in
theorem putBytes_bg {w0 w : World} {gb : Nat} {L0 L2 L5 L8 L9 L14 : Option Addr} {c0 c2 c5 c8 c9 c14 : Nat} {x0 x2 x5 x8 x9 x14 : List Value} (h : BG w0 w gb L0 L2 L5 L8 L9 L14 c0 c2 c5 c8 c9 c14 x0 x2 x5 x8 x9 x14) (D : Option Addr) (m d : Nat) (hl : x5.length ≤ 1000000) :
    Calls Tryz.prog 121 #[.pointer (some ⟨gb, 0, none⟩), .slice D m d] w fun e w' => e = .returned (.tuple #[]) ∧ ∃ A3 c3, BG w0 w' gb L0 L2 A3 L8 L9 L14 c0 c2 c3 c8 c9 c14 x0 x2 (x5 ++ [.slice D m d]) x8 x9 x14 ∧ Fr (fun j => j = gb ∨ blk L5 j) w w' := by
  obtain ⟨i0, hi, hz0, hz1, hz2⟩ := info_parts infrBytes
  have HI := Lib.hid hi
  have H0 := Lib.hid hz0
  have H1 := Lib.hid hz1
  have H2 := Lib.hid hz2
  clear hi hz0 hz1 hz2
  have b5 := cell_of_heap h.h 5
  have hlt := h.lt
  have hb := h.ext ((Ext.refl w).alloc (.cells #[.slice D m d] 33))
  have b5a := cell_of_heap hb.h 5
  simp [bagC] at b5 b5a
  have HB := Lib.hid hb
  have HW := Lib.hid h
  clear hb h
  go_enter Tryz.func121, Tryz.ntmps121
  go_wp2_with (at_builtin; refine wpList_append_rd _ rfl _ _ 86 rfl 33 i0 _ 24 Tryz.underlying86 HI.out H0.out H1.out H2.out rfl (gb + 1) _ _ _ x5 rfl rfl HB.out.o5 _ _ _ [.slice D m d] rfl rfl (rd_one _ _ _) (by intro u hu; simp at hu; subst hu; rfl) (by unfold maxLen; simp; omega) (by simp; omega) (by simp; omega) ?_; intro A3 c3 w3 hO3 hF3 hA3; have hn3 : ¬ blk L5 gb := (HB.out.o5.ne_blk HB.out.h (by decide)); have hH3 := HB.out.h.fr hF3 hn3; have b3 := cell_of_heap hH3 5; have f3 := frozen_of_heap hH3 5; simp [bagC] at b3; have HO3 := Lib.hid hO3; have HF3 := Lib.hid hF3; have HH3 := Lib.hid hH3; clear hO3 hF3 hA3 hn3 hH3)
  go_end0
  refine ⟨rfl, A3, c3, HB.out.put5 HO3.out HF3.out (by simp), ?_⟩
  · exact Fr.set (p := ⟨gb, 5, none⟩) (((Fr.refl (fun j => j = gb ∨ blk L5 j) w).alloc _).trans HF3.out (fun i _ h => Or.inr h)) (Or.inl (Or.inl rfl)) _
set_option maxRecDepth 100000 in
set_option maxHeartbeats 1000000 in
theorem putEntries_bg {w0 w : World} {gb : Nat} {L0 L2 L5 L8 L9 L14 : Option Addr} {c0 c2 c5 c8 c9 c14 : Nat} {x0 x2 x5 x8 x9 x14 : List Value} (h : BG w0 w gb L0 L2 L5 L8 L9 L14 c0 c2 c5 c8 c9 c14 x0 x2 x5 x8 x9 x14) (D : Option Addr) (d : Nat) (hl : x8.length ≤ 1000000) :
    Calls Tryz.prog 119 #[.pointer (some ⟨gb, 0, none⟩), .slice D 0 d] w fun e w' => e = .returned (.tuple #[]) ∧ ∃ A3 c3, BG w0 w' gb L0 L2 L5 A3 L9 L14 c0 c2 c5 c3 c9 c14 x0 x2 x5 (x8 ++ [.slice D 0 d]) x9 x14 ∧ Fr (fun j => j = gb ∨ blk L8 j) w w' := by
  obtain ⟨i0, hi, hz0, hz1, hz2⟩ := info_parts infrEntries
  have HI := Lib.hid hi
  have H0 := Lib.hid hz0
  have H1 := Lib.hid hz1
  have H2 := Lib.hid hz2
  clear hi hz0 hz1 hz2
  have b5 := cell_of_heap h.h 8
  have hlt := h.lt
  have hb := h.ext ((Ext.refl w).alloc (.cells #[.slice D 0 d] 28))
  have b5a := cell_of_heap hb.h 8
  simp [bagC] at b5 b5a
  have HB := Lib.hid hb
  have HW := Lib.hid h
  clear hb h
  go_enter Tryz.func119, Tryz.ntmps119
  go_wp2_with (at_builtin; refine wpList_append_rd _ rfl _ _ 89 rfl 28 i0 _ 24 Tryz.underlying89 HI.out H0.out H1.out H2.out rfl (gb + 1) _ _ _ x8 rfl rfl HB.out.o8 _ _ _ [.slice D 0 d] rfl rfl (rd_one _ _ _) (by intro u hu; simp at hu; subst hu; rfl) (by unfold maxLen; simp; omega) (by simp; omega) (by simp; omega) ?_; intro A3 c3 w3 hO3 hF3 hA3; have hn3 : ¬ blk L8 gb := (HB.out.o8.ne_blk HB.out.h (by decide)); have hH3 := HB.out.h.fr hF3 hn3; have b3 := cell_of_heap hH3 8; have f3 := frozen_of_heap hH3 8; simp [bagC] at b3; have HO3 := Lib.hid hO3; have HF3 := Lib.hid hF3; have HH3 := Lib.hid hH3; clear hO3 hF3 hA3 hn3 hH3)
  go_rounds 1
  go_wp2_with fail
  go_end0
  refine ⟨rfl, A3, c3, HB.out.put8 HO3.out HF3.out (by simp), ?_⟩
  · exact Fr.set (p := ⟨gb, 8, none⟩) (((Fr.refl (fun j => j = gb ∨ blk L8 j) w).alloc _).trans HF3.out (fun i _ h => Or.inr h)) (Or.inl (Or.inl rfl)) _
set_option maxRecDepth 100000 in
set_option maxHeartbeats 1000000 in
theorem putIdents_bg {w0 w : World} {gb : Nat} {L0 L2 L5 L8 L9 L14 : Option Addr} {c0 c2 c5 c8 c9 c14 : Nat} {x0 x2 x5 x8 x9 x14 : List Value} (h : BG w0 w gb L0 L2 L5 L8 L9 L14 c0 c2 c5 c8 c9 c14 x0 x2 x5 x8 x9 x14) (D : Option Addr) (m d : Nat) (hl : x9.length ≤ 1000000) :
    Calls Tryz.prog 118 #[.pointer (some ⟨gb, 0, none⟩), .slice D m d] w fun e w' => e = .returned (.tuple #[]) ∧ ∃ A3 c3, BG w0 w' gb L0 L2 L5 L8 A3 L14 c0 c2 c5 c8 c3 c14 x0 x2 x5 x8 (x9 ++ [.slice D m d]) x14 ∧ Fr (fun j => j = gb ∨ blk L9 j) w w' := by
  obtain ⟨i0, hi, hz0, hz1, hz2⟩ := info_parts infrIdents
  have HI := Lib.hid hi
  have H0 := Lib.hid hz0
  have H1 := Lib.hid hz1
  have H2 := Lib.hid hz2
  clear hi hz0 hz1 hz2
  have b5 := cell_of_heap h.h 9
  have hlt := h.lt
  have hb := h.ext ((Ext.refl w).alloc (.cells #[.slice D m d] 27))
  have b5a := cell_of_heap hb.h 9
  simp [bagC] at b5 b5a
  have HB := Lib.hid hb
  have HW := Lib.hid h
  clear hb h
  go_enter Tryz.func118, Tryz.ntmps118
  go_wp2_with (at_builtin; refine wpList_append_rd _ rfl _ _ 90 rfl 27 i0 _ 24 Tryz.underlying90 HI.out H0.out H1.out H2.out rfl (gb + 1) _ _ _ x9 rfl rfl HB.out.o9 _ _ _ [.slice D m d] rfl rfl (rd_one _ _ _) (by intro u hu; simp at hu; subst hu; rfl) (by unfold maxLen; simp; omega) (by simp; omega) (by simp; omega) ?_; intro A3 c3 w3 hO3 hF3 hA3; have hn3 : ¬ blk L9 gb := (HB.out.o9.ne_blk HB.out.h (by decide)); have hH3 := HB.out.h.fr hF3 hn3; have b3 := cell_of_heap hH3 9; have f3 := frozen_of_heap hH3 9; simp [bagC] at b3; have HO3 := Lib.hid hO3; have HF3 := Lib.hid hF3; have HH3 := Lib.hid hH3; clear hO3 hF3 hA3 hn3 hH3)
  go_end0
  refine ⟨rfl, A3, c3, HB.out.put9 HO3.out HF3.out (by simp), ?_⟩
  · exact Fr.set (p := ⟨gb, 9, none⟩) (((Fr.refl (fun j => j = gb ∨ blk L9 j) w).alloc _).trans HF3.out (fun i _ h => Or.inr h)) (Or.inl (Or.inl rfl)) _
end Go.Proofs.YtjnllilmimngoaaGreatDoor
namespace Go.Proofs.YtjnllilmimngoaaGreatDoor
open Go.RowKit

def ZS (M : Nat) (x : List Value) : Prop := x.length = M ∧ ∀ v ∈ x, ∃ A, v = .slice A 0 0
theorem ZS.nil : ZS 0 [] := ⟨rfl, fun v hv => by simp at hv⟩
theorem ZS.snoc {M : Nat} {x : List Value} (h : ZS M x) (A : Option Addr) : ZS (M + 1) (x ++ [.slice A 0 0]) := ⟨by simp [h.1], fun v hv => by
  rcases List.mem_append.1 hv with hv | hv
  · exact h.2 v hv
  · simp at hv; exact ⟨A, hv⟩⟩
def BS (w0 w : World) (gb : Nat) (L14 : Option Addr) (c14 : Nat) (x14 : List Value) (M : Nat) : Prop :=
  ∃ L0 L2 L5 L8 L9 c0 c2 c5 c8 c9 x0 x2 x5 x8 x9, BG w0 w gb L0 L2 L5 L8 L9 L14 c0 c2 c5 c8 c9 c14 x0 x2 x5 x8 x9 x14 ∧ ZS M x0 ∧ ZS M x2 ∧ ZS M x5 ∧ ZS M x8 ∧ ZS M x9
theorem BS.start (w : World) : BS w (w.alloc (.cells (bagC (.slice none 0 0) (.slice none 0 0) (.slice none 0 0) (.slice none 0 0) (.slice none 0 0) (.slice none 0 0)) 96)) w.heap.size none 0 [] 0 :=
  ⟨none, none, none, none, none, 0, 0, 0, 0, 0, [], [], [], [], [], BG.start w, ZS.nil, ZS.nil, ZS.nil, ZS.nil, ZS.nil⟩
set_option maxRecDepth 100000 in
set_option maxHeartbeats 1000000 in
theorem oneSnap_bg {w0 w : World} {gb : Nat} {L0 L2 L5 L8 L9 L14 : Option Addr} {c0 c2 c5 c8 c9 c14 : Nat} {x0 x2 x5 x8 x9 x14 : List Value} (h : BG w0 w gb L0 L2 L5 L8 L9 L14 c0 c2 c5 c8 c9 c14 x0 x2 x5 x8 x9 x14) (a0 a1 a2 a4 : Int) (mA uA : Option Addr) (hl2 : x2.length ≤ 1000000) (hl0 : x0.length ≤ 1000000) :
    Calls Tryz.prog 120 #[.pointer (some ⟨gb, 0, none⟩), .agg #[.int .i64 a0, .int .i64 a1, .int .i64 a2, .slice mA 0 0, .int .i64 a4, .slice uA 0 0]] w fun e w' => e = .returned (.tuple #[]) ∧ ∃ A2 d2 A0 d0, BG w0 w' gb A0 A2 L5 L8 L9 L14 d0 d2 c5 c8 c9 c14 (x0 ++ [.slice uA 0 0]) (x2 ++ [.slice mA 0 0]) x5 x8 x9 x14 ∧ Fr (fun j => j = gb ∨ blk L2 j ∨ blk L0 j) w w' := by
  have hE := (Ext.refl w).alloc (.cells #[.int .i64 a0, .int .i64 a1, .int .i64 a2, .slice mA 0 0, .int .i64 a4, .slice uA 0 0] 32)
  have hG := heap_alloc_new w (.cells #[.int .i64 a0, .int .i64 a1, .int .i64 a2, .slice mA 0 0, .int .i64 a4, .slice uA 0 0] 32)
  have H1 := Lib.hid (putInts_bg (h.ext hE) mA 0 0 hl2)
  have hgb := h.lt
  have hq2 : ¬ blk L2 w.heap.size := fun t => by have := (h.o2.lt t).2; omega
  have HE := Lib.hid hE
  have HG := Lib.hid hG
  clear hE hG h
  go_enter Tryz.func120, Tryz.ntmps120
  go_wp2_with fail
  refine (H1.out).mono ?_
  rintro ev w1 ⟨rfl, A2, d2, hb1, hF1⟩
  have d5 : w1.cell? ⟨w.heap.size, 5, none⟩ = some (.slice uA 0 0) := by
    rw [cell_of_heap ((hF1.block _ (heap_lt HG.out) (fun t => t.elim (fun t => by omega) hq2)).trans HG.out)]
    rfl
  have H2 := Lib.hid (putLimbs_bg hb1 uA 0 0 hl0)
  have HF1 := Lib.hid hF1
  clear hF1 hb1
  go_wp2_with fail
  refine (H2.out).mono ?_
  rintro ev w2 ⟨rfl, A0, d0, hb2, hF2⟩
  go_wp2_with fail
  go_end0
  exact ⟨rfl, A2, d2, A0, d0, hb2, ((Fr.ofExt _ HE.out).trans HF1.out (fun i _ t => t.imp id .inl)).trans hF2 (fun i _ t => t.imp id .inr)⟩
theorem infoSnapB : (Tryz.prog.info? 32).map (·.size) = some 6 := by kernel_rfl
set_option maxRecDepth 100000 in
set_option maxHeartbeats 2000000 in
theorem oneLetter_bs {w0 w : World} {gb M c14 : Nat} {L14 : Option Addr} {x14 : List Value} (h : BS w0 w gb L14 c14 x14 M) (l : Let) (hl : l.light) (ht : l.tight) (hM : M ≤ 900000) :
    Calls Tryz.prog 68 #[.pointer (some ⟨gb, 0, none⟩), l.v] w fun e w' => e = .returned (.tuple #[]) ∧ BS w0 w' gb L14 c14 x14 (M + 1) := by
  obtain ⟨L0, L2, L5, L8, L9, c0, c2, c5, c8, c9, x0, x2, x5, x8, x9, h, z0, z2, z5, z8, z9⟩ := h
  have k0 := z0.1
  have k2 := z2.1
  have k5 := z5.1
  have k8 := z8.1
  have k9 := z9.1
  have HZ := Lib.hid (And.intro z0 (And.intro z2 (And.intro z5 (And.intro z8 z9))))
  clear z0 z2 z5 z8 z9
  have ew := hl.w
  have ee := hl.e
  have em := hl.m
  have eu := hl.u
  have eb := hl.b
  have tw := ht.1 ew
  have te := ht.2.1 ee
  have tm := ht.2.2.1 em
  have tu := ht.2.2.2.1 eu
  have tb := ht.2.2.2.2 eb
  have hA : l.arr = #[.int .i64 l.kind, .int .i64 l.frm, .int .i64 l.too, .int .i64 l.term, .int .i64 l.index, .int .i64 l.last.i, .int .i64 l.last.t, .int .i64 l.last.k, .int .i64 l.prev.i, .int .i64 l.prev.t, .int .i64 l.prev.k, .slice l.wA 0 0, .int .i64 l.commit, .bool l.yes, .slice l.eA 0 0, .int .i64 l.slast.i, .int .i64 l.slast.t, .int .i64 l.slast.k, .slice l.mA 0 0, .int .i64 l.size, .slice l.uA 0 0, .int .i64 l.piece, .slice l.bA 0 0] := by
    unfold Let.arr
    rw [ew, ee, em, eu, eb, tw, te, tm, tu, tb]
    rfl
  have hV : l.v = .agg l.arr := rfl
  rw [hV]
  generalize hla : l.arr = la at *
  clear ew ee em eu eb tw te tm tu tb hl ht hV hla
  generalize l.kind = a0, l.frm = a1, l.too = a2, l.term = a3, l.index = a4, l.last.i = a5, l.last.t = a6, l.last.k = a7, l.prev.i = a8, l.prev.t = a9, l.prev.k = a10, l.wA = wA, l.commit = a12, l.yes = a13, l.eA = eA, l.slast.i = a15, l.slast.t = a16, l.slast.k = a17, l.mA = mA, l.size = a19, l.uA = uA, l.piece = a21, l.bA = bA at *
  have hE := (Ext.refl w).alloc (.cells la 35)
  have hG := heap_alloc_new w (.cells la 35)
  have r7 : (w.alloc (.cells la 35)).cell? ⟨w.heap.size, 11, none⟩ = some (.slice wA 0 0) := by rw [cell_of_heap hG, hA]; rfl
  have H1 := Lib.hid (putIdents_bg (h.ext hE) wA 0 0 (by omega))
  have hgb := h.lt
  have q0 : ¬ blk L0 w.heap.size := fun t => by have := (h.o0.lt t).2; omega
  have q2 : ¬ blk L2 w.heap.size := fun t => by have := (h.o2.lt t).2; omega
  have q8 : ¬ blk L8 w.heap.size := fun t => by have := (h.o8.lt t).2; omega
  have q9 : ¬ blk L9 w.heap.size := fun t => by have := (h.o9.lt t).2; omega
  have HG := Lib.hid hG
  have HA := Lib.hid hA
  clear hE hG hA h
  go_enter Tryz.func68, Tryz.ntmps68
  go_wp2_with fail
  refine (H1.out).mono ?_
  rintro ev w1 ⟨rfl, A9, d9, hb1, hF1⟩
  have g1 := (hF1.block _ (heap_lt HG.out) (fun t => t.elim (fun t => by omega) q9)).trans HG.out
  have r10 : w1.cell? ⟨w.heap.size, 14, none⟩ = some (.slice eA 0 0) := by rw [cell_of_heap g1, HA.out]; rfl
  have H2 := Lib.hid (putEntries_bg hb1 eA 0 (by omega))
  have HG1 := Lib.hid g1
  clear hF1 g1 r7 hb1
  go_wp2_with fail
  refine (H2.out).mono ?_
  rintro ev w2 ⟨rfl, A8, d8, hb2, hF2⟩
  have g2 := (hF2.block _ (heap_lt HG1.out) (fun t => t.elim (fun t => by omega) q8)).trans HG1.out
  have hrg : World.rangeAt w2 w.heap.size 15 [.int .i64 a15, .int .i64 a16, .int .i64 a17, .slice mA 0 0, .int .i64 a19, .slice uA 0 0] := fun j v hv => by
    have hj := (List.getElem?_eq_some_iff.1 hv).1
    simp only [List.length_cons, List.length_nil] at hj
    rw [cell_of_heap g2, HA.out]
    rcases (by omega : j = 0 ∨ j = 1 ∨ j = 2 ∨ j = 3 ∨ j = 4 ∨ j = 5) with rfl | rfl | rfl | rfl | rfl | rfl <;> simpa using hv
  have H3 := Lib.hid (oneSnap_bg hb2 a15 a16 a17 a19 mA uA (by omega) (by omega))
  have HG2 := Lib.hid g2
  clear hF2 g2 r10 hb2
  go_wp2_with (refine wpList_load_mid rfl 32 _ rfl w.heap.size 15 (by simp [Act.eval, Act.put]) _ _ hrg Tryz.underlying32 rfl infoSnapB ?_)
  refine (H3.out).mono ?_
  rintro ev w3 ⟨rfl, A2, d2, A0, d0, hb3, hF3⟩
  have g3 := (hF3.block _ (heap_lt HG2.out) (fun t => t.elim (fun t => by omega) (fun t => t.elim q2 q0))).trans HG2.out
  have r13 : w3.cell? ⟨w.heap.size, 22, none⟩ = some (.slice bA 0 0) := by rw [cell_of_heap g3, HA.out]; rfl
  have H4 := Lib.hid (putBytes_bg hb3 bA 0 0 (by omega))
  clear hF3 g3 hrg hb3
  go_wp2_with fail
  refine (H4.out).mono ?_
  rintro ev w4 ⟨rfl, A5, d5, hb4, hF4⟩
  go_wp2_with fail
  go_end0
  exact ⟨rfl, _, _, _, _, _, _, _, _, _, _, _, _, _, _, _, hb4, HZ.out.1.snoc _, HZ.out.2.1.snoc _, HZ.out.2.2.1.snoc _, HZ.out.2.2.2.1.snoc _, HZ.out.2.2.2.2.snoc _⟩
def PlRel (w0 : World) (gb : Nat) (L14 : Option Addr) (c14 : Nat) (x14 : List Value) (M n : Nat) (i : Value) (wr : World) : Prop := ∃ k : Nat, k ≤ n ∧ i = .int .i64 k ∧ BS w0 wr gb L14 c14 x14 (M + k)
set_option maxRecDepth 100000 in
set_option maxHeartbeats 2000000 in
theorem putLetters_bs {w0 w : World} {gb M c14 : Nat} {L14 : Option Addr} {x14 : List Value} (h : BS w0 w gb L14 c14 x14 M) (D : Option Addr) (d : Nat) (ls : List Let) (hA : LetsIn w0 D ls) (hl : ∀ l ∈ ls, l.light) (ht : ∀ l ∈ ls, l.tight) (hM : M + ls.length ≤ 900000) (hx : x14.length ≤ 1000000) :
    Calls Tryz.prog 38 #[.pointer (some ⟨gb, 0, none⟩), .slice D ls.length d] w fun e w' => e = .returned (.tuple #[]) ∧ ∃ A3 c3, BS w0 w' gb A3 c3 (x14 ++ [.slice D ls.length d]) (M + ls.length) := by
  obtain ⟨L0, L2, L5, L8, L9, c0, c2, c5, c8, c9, x0, x2, x5, x8, x9, h, z0, z2, z5, z8, z9⟩ := h
  obtain ⟨i0, hi, hz0, hz1, hz2⟩ := info_parts infrL
  have HI := Lib.hid hi
  have H0 := Lib.hid hz0
  have H1 := Lib.hid hz1
  have H2 := Lib.hid hz2
  have HZ := Lib.hid (And.intro z0 (And.intro z2 (And.intro z5 (And.intro z8 z9))))
  clear hi hz0 hz1 hz2 z0 z2 z5 z8 z9
  have b5 := cell_of_heap h.h 14
  have hlt := h.lt
  have hb := h.ext ((Ext.refl w).alloc (.cells #[.slice D ls.length d] 22))
  have b5a := cell_of_heap hb.h 14
  simp [bagC] at b5 b5a
  have HB := Lib.hid hb
  clear hb h
  have HAL := Lib.hid hA
  have HLI := Lib.hid hl
  have HTI := Lib.hid ht
  clear hA hl ht
  go_enter Tryz.func38, Tryz.ntmps38
  go_wp2_with (at_builtin; refine wpList_append_rd _ rfl _ _ 50 rfl 22 i0 _ 24 Tryz.underlying50 HI.out H0.out H1.out H2.out rfl (gb + 1) _ _ _ x14 rfl rfl HB.out.o14 _ _ _ [.slice D ls.length d] rfl rfl (rd_one _ _ _) (by intro u hu; simp at hu; subst hu; rfl) (by unfold maxLen; simp; omega) (by simp; omega) (by simp; omega) ?_; intro A3 c3 w3 hO3 hF3 hA3; have hn3 : ¬ blk L14 gb := (HB.out.o14.ne_blk HB.out.h (by decide)); have hH3 := HB.out.h.fr hF3 hn3; have b3 := cell_of_heap hH3 14; have f3 := frozen_of_heap hH3 14; simp [bagC] at b3; have HS3 := Lib.hid (fun n3 (hn : n3 = x14.length + 1) => HB.out.put14 hO3 hF3 hn); clear hO3 hF3 hA3 hn3 hH3)
  go_loopw [4] (fun i wr => PlRel w0 gb A3 c3 (x14 ++ [.slice D ls.length d]) M ls.length i wr) (fun i _ => ls.length - (intOf i).toNat)
  case atStart => exact ⟨0, Nat.zero_le _, rfl, _, _, _, _, _, _, _, _, _, _, _, _, _, _, _, HS3.out _ (by simp), HZ.out.1, HZ.out.2.1, HZ.out.2.2.1, HZ.out.2.2.2.1, HZ.out.2.2.2.2⟩
  case round =>
    clear b5 b5a b3 f3 HS3 HB HZ HI H0 H1 H2
    obtain ⟨k, hk, rfl, hS⟩ := hrel
    by_cases hlt : k < ls.length
    · have hE0 : Ext w0 wr := by
        obtain ⟨_, _, _, _, _, _, _, _, _, _, _, _, _, _, _, hB9, _⟩ := hS
        exact hB9.e
      obtain ⟨b, f, l, hD, he, hr, -⟩ := (HAL.out.ext hE0).at_ hlt
      subst hD
      have hmem := List.mem_of_getElem? he
      have HV := Lib.hid (oneLetter_bs hS l (HLI.out l hmem) (HTI.out l hmem) (by omega))
      clear he hmem hE0 hS
      go_wp2_with (refine wpList_load_letAt rfl _ rfl b (f + k * 23) l (by simp [Act.eval, Act.put]) hr ?_)
      refine (HV.out).mono ?_
      rintro ev w1 ⟨rfl, hS1⟩
      have HS1 := Lib.hid hS1
      clear hS1
      go_wp2_with fail
      exact ⟨⟨k + 1, by omega, by go_num, HS1.out⟩, by simp [intOf]; omega⟩
    · obtain rfl : k = ls.length := by omega
      go_wp2_with fail
      go_end0
      exact ⟨rfl, A3, c3, hS⟩
end Go.Proofs.YtjnllilmimngoaaGreatDoor
