/-
  The writer of package code: what it holds, and its inner steps.
-/
import Derived.Test.YtcapapnhlkmeaaaDoorM4
namespace Go.Proofs.YtcapapnhlkmeaaaDoor
open Go.RowKit

def topI (w : Int) : Int := if w = 1 then 255 else if w = 2 then 65535 else if w = 4 then 4294967295 else if w = 6 then 1099511627776 else -1

theorem topI_none {w : Int} (h1 : w ≠ 1) (h2 : w ≠ 2) (h4 : w ≠ 4) (h6 : w ≠ 6) : topI w = -1 := by simp [topI, h1, h2, h4, h6]
theorem topI_cases (w : Int) : (w = 1 ∧ topI w = 255) ∨ (w = 2 ∧ topI w = 65535) ∨ (w = 4 ∧ topI w = 4294967295) ∨ (w = 6 ∧ topI w = 1099511627776) ∨ ((w ≠ 1 ∧ w ≠ 2 ∧ w ≠ 4 ∧ w ≠ 6) ∧ topI w = -1) := by
  by_cases h1 : w = 1
  · subst h1; exact .inl ⟨rfl, rfl⟩
  by_cases h2 : w = 2
  · subst h2; exact .inr (.inl ⟨rfl, rfl⟩)
  by_cases h4 : w = 4
  · subst h4; exact .inr (.inr (.inl ⟨rfl, rfl⟩))
  by_cases h6 : w = 6
  · subst h6; exact .inr (.inr (.inr (.inl ⟨rfl, rfl⟩)))
  exact .inr (.inr (.inr (.inr ⟨⟨h1, h2, h4, h6⟩, topI_none h1 h2 h4 h6⟩)))
theorem topI_bd (w : Int) : -1 ≤ topI w ∧ topI w ≤ 1099511627776 := by
  rcases topI_cases w with ⟨_, h⟩ | ⟨_, h⟩ | ⟨_, h⟩ | ⟨_, h⟩ | ⟨_, h⟩ <;> omega

theorem top_any (x : Int) (w : World) : Calls Tryd.prog 33 #[.int .i64 x] w fun e w' => e = .returned (.int .i64 (topI x)) ∧ w = w' := by
  rcases topI_cases x with ⟨rfl, h⟩ | ⟨rfl, h⟩ | ⟨rfl, h⟩ | ⟨rfl, h⟩ | ⟨⟨h1, h2, h4, h6⟩, h⟩
  · go_enter Tryd.func33, Tryd.ntmps33
    go_wp2
    go_ret
    exact ⟨rfl, rfl⟩
  · go_enter Tryd.func33, Tryd.ntmps33
    go_wp2
    go_ret
    exact ⟨rfl, rfl⟩
  · go_enter Tryd.func33, Tryd.ntmps33
    go_wp2
    go_ret
    exact ⟨rfl, rfl⟩
  · go_enter Tryd.func33, Tryd.ntmps33
    go_wp2
    go_ret
    exact ⟨rfl, rfl⟩
  · rw [h]
    have b1 : (x == 1) = false := by simpa using h1
    have b2 : (x == 2) = false := by simpa using h2
    have b4 : (x == 4) = false := by simpa using h4
    have b6 : (x == 6) = false := by simpa using h6
    clear h h1 h2 h4 h6
    go_enter Tryd.func33, Tryd.ntmps33
    go_wp2
    go_ret
    exact ⟨rfl, rfl⟩

/-- A writer: its block holds the slice and the mark; the slice is its own row. -/
def Wr (tW : TypeId) (B : Nat) (w : World) (wb : Nat) (A : Option Addr) (c : Nat) (bs : List Int) (sp : Bool) : Prop :=
  w.heap[wb]? = some (.cells #[.slice A bs.length c, .bool sp] tW) ∧ B ≤ wb ∧ Own w B 5 A c (bs.map (.int .u8))
def touched (wb : Nat) (A : Option Addr) : Nat → Prop := fun i => i = wb ∨ blk A i
/-- What a call on a writer leaves. -/
def WStep (tW : TypeId) (B wb : Nat) (A : Option Addr) (w : World) (bs : List Int) (sp : Bool) (w' : World) : Prop :=
  ∃ A' c', Wr tW B w' wb A' c' bs sp ∧ Fr (touched wb A) w w' ∧ ∀ i, blk A' i → blk A i ∨ w.heap.size ≤ i

section
variable {tW : TypeId} {B wb c : Nat} {A : Option Addr} {w w' w1 : World} {bs : List Int} {sp : Bool}
theorem Wr.c0 (h : Wr tW B w wb A c bs sp) : w.cell? ⟨wb, 0, none⟩ = some (.slice A bs.length c) := cell_of_heap h.1 0
theorem Wr.c1 (h : Wr tW B w wb A c bs sp) : w.cell? ⟨wb, 1, none⟩ = some (.bool sp) := cell_of_heap h.1 1
theorem Wr.f (h : Wr tW B w wb A c bs sp) (k : Nat) : w.frozen? ⟨wb, k, none⟩ = false := frozen_of_heap h.1 k
theorem Wr.lt (h : Wr tW B w wb A c bs sp) : wb < w.heap.size := World.block_lt_of_cell? w _ h.c0
theorem Wr.far (h : Wr tW B w wb A c bs sp) (ht : 5 ≠ tW) : ¬ blk A wb := h.2.2.ne_blk h.1 ht
theorem Wr.len (h : Wr tW B w wb A c bs sp) : bs.length ≤ c := by simpa using h.2.2.cap.1
theorem Wr.fr {S : Nat → Prop} (h : Wr tW B w wb A c bs sp) (hf : Fr S w w') (h1 : ¬ S wb) (h2 : ∀ i, blk A i → ¬ S i) : Wr tW B w' wb A c bs sp :=
  ⟨(hf.block wb h.lt h1).trans h.1, h.2.1, h.2.2.fr hf h2⟩
theorem Wr.ext (h : Wr tW B w wb A c bs sp) (he : Ext w w') : Wr tW B w' wb A c bs sp :=
  h.fr (Fr.ofExt (fun _ => False) he) (fun h => h) (fun _ _ h => h)
theorem heap_set {v : Value} {cs : Array Value} {g k : Nat} {t : TypeId} (h : w.heap[g]? = some (.cells cs t)) : (w.setCell ⟨g, k, none⟩ v).heap[g]? = some (.cells (cs.setIfInBounds k v) t) := by
  simp [World.setCell, Array.getElem?_modify, h]
/-- another mark. -/
theorem Wr.mark (h : Wr tW B w wb A c bs sp) (ht : 5 ≠ tW) (sp' : Bool) : Wr tW B (w.setCell ⟨wb, 1, none⟩ (.bool sp')) wb A c bs sp' := by
  refine ⟨?_, h.2.1, h.2.2.keep fun i hi _ => Below.heap_setCell w _ _ i (fun e => h.far ht (by subst e; exact hi))⟩
  simp [World.setCell, Array.getElem?_modify, h.1]
theorem Wr.step (h : Wr tW B w wb A c bs sp) (ht : 5 ≠ tW) (sp' : Bool) : WStep tW B wb A w bs sp' (w.setCell ⟨wb, 1, none⟩ (.bool sp')) :=
  ⟨A, c, h.mark ht sp', (Fr.refl _ w).set (.inl (.inl rfl)) _, fun _ hi => .inl hi⟩
theorem WStep.rfl' (h : Wr tW B w wb A c bs sp) : WStep tW B wb A w bs sp w := ⟨A, c, h, Fr.refl _ w, fun _ hi => .inl hi⟩
theorem touched_sub {A' : Option Addr} (hA : ∀ i, blk A' i → blk A i ∨ w.heap.size ≤ i) : ∀ i, i < w.heap.size → touched wb A' i → touched wb A i := by
  rintro i hi (h | h)
  · exact .inl h
  · rcases hA i h with h | h
    · exact .inr h
    · omega
theorem WStep.trans {A' : Option Addr} {bs' : List Int} {sp' : Bool} (hf : Fr (touched wb A) w w1) (hA : ∀ i, blk A' i → blk A i ∨ w.heap.size ≤ i) (h2 : WStep tW B wb A' w1 bs' sp' w') : WStep tW B wb A w bs' sp' w' := by
  obtain ⟨A2, c2, hw, hf2, hA2⟩ := h2
  refine ⟨A2, c2, hw, hf.trans hf2 (touched_sub hA), fun i hi => ?_⟩
  rcases hA2 i hi with h | h
  · exact hA i h
  · exact .inr (Nat.le_trans hf.size h)
theorem WStep.ext {bs' : List Int} {sp' : Bool} (h : Ext w w1) (h2 : WStep tW B wb A w1 bs' sp' w') : WStep tW B wb A w bs' sp' w' :=
  WStep.trans (Fr.ofExt _ h) (fun _ hi => .inl hi) h2
theorem WStep.then {bs' : List Int} {sp' : Bool} (h2 : WStep tW B wb A w bs' sp' w1) (h : Ext w1 w') : WStep tW B wb A w bs' sp' w' := by
  obtain ⟨A2, c2, hw, hf2, hA2⟩ := h2
  exact ⟨A2, c2, hw.ext h, hf2.then h, hA2⟩
/-- the writer's own row and block lie from B on: what lay below stays. -/
theorem WStep.below {bs' : List Int} {sp' : Bool} (h : Wr tW B w wb A c bs sp) (h2 : WStep tW B wb A w bs' sp' w') (hB : B ≤ w.heap.size) : Below B w w' := by
  obtain ⟨A2, c2, hw, hf2, hA2⟩ := h2
  exact hf2.below hB (by
    rintro i (rfl | hi)
    · exact h.2.1
    · exact (h.2.2.lt hi).1)
end

set_option maxHeartbeats 400000 in
theorem holds_any (B wb : Nat) (A : Option Addr) (c : Nat) (bs : List Int) (sp is : Bool) (w : World) (hW : Wr 65 B w wb A c bs sp) :
    Calls Tryd.prog 32 #[.pointer (some ⟨wb, 0, none⟩), .bool is] w fun e w' => e = .returned (.bool (is && !sp)) ∧ w' = w.setCell ⟨wb, 1, none⟩ (.bool (sp || !is)) := by
  have h1 := hW.c1
  have hf := hW.f 1
  cases sp <;> cases is
  all_goals
    go_enter Tryd.func32, Tryd.ntmps32
    go_wp2
    go_ret
    exact ⟨rfl, rfl⟩
end Go.Proofs.YtcapapnhlkmeaaaDoor
