/-
  Words for memory: a slice that reads as a list, a frame with a set of turned blocks, rows of the call's own, append onto them.
  append onto a row of the call's own, at the walk: a slice that reads, and a make as the source.
  Contracts of the verifier's small functions: Pick, mark, markByte, SameBytes.
  Contracts of LentInts, LentBytes, KeptInts, KeptBytes.
  Small words of lists and of memory.
  Whether an entry is right.
-/
import Derived.Test.YtjnllilmimngoaaGreatDoorStab
import Derived.Laws.AppendOwn
import Derived.Laws.OwnMore
import Derived.OwnWalk
import Derived.Deep.Draws
import Derived.Tactics
import Derived.RegionTactic
import Derived.Test.YtjnllilmimngoaaGreatDoorRows
import Derived.WalkKit
import Derived.WalkSpells
import Derived.WalkLawsBesides
import Derived.Handy
import Derived.Deep.QuietTactic
import Derived.BigQuiet
import Derived.Deep.RegionWith
import Derived.Deep.RegionHeld3
import Derived.StillTailTactics
import Derived.Deep.DeepCutAuto
import Derived.Lib.Hide
import Derived.Outline
namespace Go.Proofs.YtjnllilmimngoaaGreatDoor
open Go.RowKit

theorem add_block (a : Addr) (n : Nat) : (a.add n).block = a.block := by unfold Addr.add; split <;> rfl
theorem add_lit' (b o n : Nat) : (⟨b, o, none⟩ : Addr).add n = ⟨b, o + n, none⟩ := by
  unfold Addr.add; split <;> simp_all

/-- The cells from A on read xs. -/
def Rd (w : World) (A : Option Addr) (xs : List Value) : Prop := ∀ j u, xs[j]? = some u → ∃ ad, A = some ad ∧ w.cell? (ad.add j) = some u

theorem Rd.at_ {w : World} {A : Option Addr} {xs : List Value} (h : Rd w A xs) {k : Nat} (hk : k < xs.length) : ∃ ad, A = some ad ∧ w.cell? (ad.add k) = some xs[k] :=
  h k _ (List.getElem?_eq_getElem hk)
theorem Rd.nil (w : World) (A : Option Addr) : Rd w A [] := fun j u h => by simp at h
theorem Rd.pre {w : World} {A : Option Addr} {xs ys : List Value} (h : Rd w A (xs ++ ys)) : Rd w A xs := fun j u hj => by
  refine h j u ?_
  have hl : j < xs.length := by
    rcases Nat.lt_or_ge j xs.length with g | g
    · exact g
    · rw [List.getElem?_eq_none g] at hj; cases hj
  rw [List.getElem?_append_left hl]; exact hj
theorem Rd.ext {w w' : World} {A : Option Addr} {xs : List Value} (h : Rd w A xs) (he : Ext w w') : Rd w' A xs := fun j u hj => by
  obtain ⟨ad, ha, hc⟩ := h j u hj
  exact ⟨ad, ha, he.cell hc⟩
theorem Rd.int {w : World} {A : Option Addr} {k : IntKind} {zs : List Int} (h : Rd w A (zs.map (Value.int k))) {i : Nat} (hi : i < zs.length) : ∃ ad x, A = some ad ∧ w.cell? (ad.add i) = some (.int k x) ∧ zs[i]? = some x := by
  obtain ⟨ad, ha, hc⟩ := h.at_ (k := i) (by simpa using hi)
  exact ⟨ad, zs[i], ha, by rw [hc]; simp, List.getElem?_eq_getElem hi⟩

/-- Blocks of w outside S are as they were. -/
structure Fr (S : Nat → Prop) (w w' : World) : Prop where
  os : w'.os = w.os
  tape : w'.tape = w.tape
  output : w'.output = w.output
  size : w.heap.size ≤ w'.heap.size
  block : ∀ i, i < w.heap.size → ¬ S i → w'.heap[i]? = w.heap[i]?

section
variable {S T : Nat → Prop} {a b c : World}
theorem Fr.refl (S : Nat → Prop) (w : World) : Fr S w w := ⟨rfl, rfl, rfl, Nat.le_refl _, fun _ _ _ => rfl⟩
theorem Fr.trans (h : Fr S a b) (k : Fr T b c) (hT : ∀ i, i < a.heap.size → T i → S i) : Fr S a c :=
  ⟨k.os.trans h.os, k.tape.trans h.tape, k.output.trans h.output, Nat.le_trans h.size k.size, fun i hi hn => (k.block i (Nat.lt_of_lt_of_le hi h.size) (fun t => hn (hT i hi t))).trans (h.block i hi hn)⟩
theorem Fr.mono (h : Fr T a b) (hT : ∀ i, i < a.heap.size → T i → S i) : Fr S a b := (Fr.refl S a).trans h hT
theorem Fr.ofExt (S : Nat → Prop) (h : Ext a b) : Fr S a b := ⟨h.below.os, h.below.tape, h.below.output, h.sz, fun i hi _ => h.below.block i hi⟩
theorem Fr.then (h : Fr S a b) (k : Ext b c) : Fr S a c := h.trans (Fr.ofExt S k) (fun _ _ t => t)
theorem Fr.ofGrown {row : Option Nat} (h : a.grownBy b row) (hS : ∀ g, row = some g → S g) : Fr S a b :=
  ⟨h.os, h.tape, h.output, h.size, fun i hi hn => h.block i hi (fun e => hn (hS i e.symm))⟩
theorem Fr.alloc (h : Fr S a b) (o : Obj) : Fr S a (b.alloc o) := h.then ((Ext.refl b).alloc o)
theorem Fr.drew (h : Fr S a b) : Fr S a b.drew := h.then (Ext.refl b).drew
theorem Fr.set (h : Fr S a b) {p : Addr} (hp : S p.block ∨ a.heap.size ≤ p.block) (u : Value) : Fr S a (b.setCell p u) :=
  ⟨h.os, h.tape, h.output, by simpa [World.setCell] using h.size, fun i hi hn => (Below.heap_setCell b p u i (by
    rintro rfl
    rcases hp with hp | hp
    · exact hn hp
    · omega)).trans (h.block i hi hn)⟩
theorem Fr.cell (h : Fr S a b) {p : Addr} {v : Value} (hp : ¬ S p.block) (hc : a.cell? p = some v) : b.cell? p = some v := by
  rw [World.cell?_of_block (h.block p.block (World.block_lt_of_cell? a _ hc) hp)]; exact hc
theorem Fr.below (h : Fr S a b) {B : Nat} (hB : B ≤ a.heap.size) (hS : ∀ i, S i → B ≤ i) : Below B a b :=
  ⟨h.os, h.tape, h.output, h.size, fun i hi => h.block i (by omega) (fun s => by have := hS i s; omega)⟩
theorem Fr.toExt (h : Fr S a b) (hS : ∀ i, S i → a.heap.size ≤ i) : Ext a b := h.below (Nat.le_refl _) hS
end

def Off (S : Nat → Prop) (A : Option Addr) : Prop := ∀ ad, A = some ad → ¬ S ad.block
theorem Rd.fr {S : Nat → Prop} {w w' : World} {A : Option Addr} {xs : List Value} (h : Rd w A xs) (hf : Fr S w w') (ho : Off S A) : Rd w' A xs := fun j u hj => by
  obtain ⟨ad, ha, hc⟩ := h j u hj
  exact ⟨ad, ha, hf.cell (by rw [add_block]; exact ho ad ha) hc⟩

/-- The slice .slice A n c is nil, or a row of the call's own, from block B on, whose first cells are xs. -/
def Own (w : World) (B : Nat) (e : TypeId) (A : Option Addr) (c : Nat) (xs : List Value) : Prop := w.ownsRow B e 1 (.slice A xs.length c) xs.length xs
/-- the block of a slice. -/
def blk (A : Option Addr) (i : Nat) : Prop := A.map Addr.block = some i

section
variable {w w' : World} {B : Nat} {e : TypeId} {A : Option Addr} {c : Nat} {xs : List Value}
theorem Own.nil (w : World) (B : Nat) (e : TypeId) : Own w B e none 0 [] := World.ownsRow_nil w B e 1
/-- nil, or a block that is known. -/
theorem Own.cases (h : Own w B e A c xs) : (A = none ∧ c = 0 ∧ xs = []) ∨ ∃ g cur, A = some ⟨g, 0, none⟩ ∧ B ≤ g ∧ g < w.heap.size ∧ w.heap[g]? = some (.cells cur e (0, 0)) ∧ xs.length ≤ c ∧ c ≤ maxLen ∧ cur.size = c ∧ cur.toList.take xs.length = xs := by
  rcases h.2 with ⟨h1, h2⟩ | ⟨g, cap, cur, h1, hB, hh, hle, hm, hs, ht⟩
  · injection h1 with h3 h4 h5
    exact .inl ⟨h3, h5, List.eq_nil_of_length_eq_zero h2⟩
  · injection h1 with h3 h4 h5
    subst h5
    refine .inr ⟨g, cur, h3, hB, ?_, hh, hle, hm, by simpa using hs, by simpa using ht⟩
    rcases Nat.lt_or_ge g w.heap.size with hlt | hge
    · exact hlt
    · rw [Array.getElem?_eq_none hge] at hh; cases hh
theorem Own.mk {g : Nat} {cur : Array Value} (hB : B ≤ g) (hh : w.heap[g]? = some (.cells cur e (0, 0))) (hle : xs.length ≤ c) (hm : c ≤ maxLen) (hs : cur.size = c) (ht : cur.toList.take xs.length = xs) : Own w B e (some ⟨g, 0, none⟩) c xs :=
  ⟨by simp, .inr ⟨g, c, cur, rfl, hB, hh, hle, hm, by simpa using hs, by simpa using ht⟩⟩
theorem Own.lt (h : Own w B e A c xs) {i : Nat} (hi : blk A i) : B ≤ i ∧ i < w.heap.size := by
  rcases h.cases with ⟨rfl, _, _⟩ | ⟨g, cur, rfl, hB, hg, _⟩
  · simp [blk] at hi
  · simp [blk] at hi; subst hi; exact ⟨hB, hg⟩
theorem Own.cap (h : Own w B e A c xs) : xs.length ≤ c ∧ c ≤ maxLen := by
  rcases h.cases with ⟨rfl, rfl, rfl⟩ | ⟨g, cur, rfl, hB, hg, _, h1, h2, _⟩
  · exact ⟨by simp, by simp⟩
  · exact ⟨h1, h2⟩
theorem Own.rd (h : Own w B e A c xs) : Rd w A xs := fun j u hj => by
  rcases h.cases with ⟨rfl, rfl, rfl⟩ | ⟨g, cur, rfl, hB, hg, hh, h1, h2, h3, h4⟩
  · simp at hj
  · refine ⟨_, rfl, ?_⟩
    rw [add_lit', Nat.zero_add, cell_of_heap hh]
    have hl : j < xs.length := by
      rcases Nat.lt_or_ge j xs.length with g | g
      · exact g
      · rw [List.getElem?_eq_none g] at hj; cases hj
    rw [← h4, List.getElem?_take, if_pos hl] at hj
    simpa using hj
theorem Own.keep (h : Own w B e A c xs) (hk : ∀ i, blk A i → i < w.heap.size → w'.heap[i]? = w.heap[i]?) : Own w' B e A c xs := by
  rcases h.cases with ⟨rfl, rfl, rfl⟩ | ⟨g, cur, rfl, hB, hg, hh, h1, h2, h3, h4⟩
  · exact Own.nil w' B e
  · exact Own.mk hB ((hk g rfl hg).trans hh) h1 h2 h3 h4
theorem Own.fr {S : Nat → Prop} (h : Own w B e A c xs) (hf : Fr S w w') (ho : ∀ i, blk A i → ¬ S i) : Own w' B e A c xs :=
  h.keep fun i hi hlt => hf.block i hlt (ho i hi)
theorem Own.ext (h : Own w B e A c xs) (he : Ext w w') : Own w' B e A c xs := h.keep fun i _ hlt => he.below.block i hlt
theorem Own.lower {B' : Nat} (h : Own w B e A c xs) (hB : B' ≤ B) : Own w B' e A c xs := by
  rcases h.cases with ⟨rfl, rfl, rfl⟩ | ⟨g, cur, rfl, hb, hg, hh, h1, h2, h3, h4⟩
  · exact Own.nil w B' e
  · exact Own.mk (by omega) hh h1 h2 h3 h4
theorem Own.raise {B' : Nat} (h : Own w B e A c xs) (hB : ∀ i, blk A i → B' ≤ i) : Own w B' e A c xs := by
  rcases h.cases with ⟨rfl, rfl, rfl⟩ | ⟨g, cur, rfl, hb, hg, hh, h1, h2, h3, h4⟩
  · exact Own.nil w B' e
  · exact Own.mk (hB g rfl) hh h1 h2 h3 h4
/-- a store into the row. -/
theorem Own.set {g : Nat} (h : Own w B e (some ⟨g, 0, none⟩) c xs) (j : Nat) (u : Value) : Own (w.setCell ⟨g, j, none⟩ u) B e (some ⟨g, 0, none⟩) c (xs.set j u) := by
  rcases h.cases with ⟨h0, _, _⟩ | ⟨g', cur, hg', hB, hg, hh, h1, h2, h3, h4⟩
  · cases h0
  · injection hg' with hg'; injection hg' with hg'; subst hg'
    refine Own.mk (cur := cur.setIfInBounds j u) hB ?_ (by simpa using h1) h2 (by simpa using h3) ?_
    · simp [World.setCell, Array.getElem?_modify, hh]
    · rw [Array.toList_setIfInBounds, List.length_set]
      conv => rhs; rw [← h4]
      rw [List.take_set]
theorem Own.frozen {g : Nat} (h : Own w B e (some ⟨g, 0, none⟩) c xs) (j : Nat) : w.frozen? ⟨g, j, none⟩ = false := by
  rcases h.cases with ⟨h0, _, _⟩ | ⟨g', cur, hg', hB, hg, hh, h1, h2, h3, h4⟩
  · cases h0
  · injection hg' with hg'; injection hg' with hg'; subst hg'
    exact frozen_of_heap hh j
theorem Own.some_ (h : Own w B e A c xs) (hx : 0 < xs.length) : ∃ g, A = some ⟨g, 0, none⟩ := by
  rcases h.cases with ⟨_, _, rfl⟩ | ⟨g, cur, rfl, _⟩
  · simp at hx
  · exact ⟨g, rfl⟩
/-- rows of two types never share a block. -/
theorem Own.ne {e' : TypeId} {A' : Option Addr} {c' : Nat} {xs' : List Value} {B' : Nat} (h : Own w B e A c xs) (h' : Own w B' e' A' c' xs') (hne : e ≠ e') {i : Nat} (hi : blk A i) : ¬ blk A' i := by
  intro hi'
  rcases h.cases with ⟨rfl, _, _⟩ | ⟨g, cur, rfl, _, _, hh, _⟩
  · simp [blk] at hi
  · rcases h'.cases with ⟨rfl, _, _⟩ | ⟨g', cur', rfl, _, _, hh', _⟩
    · simp [blk] at hi'
    · simp [blk] at hi hi'
      subst hi hi'
      rw [hh] at hh'
      injection hh' with hh'
      injection hh' with _ ht
      exact hne ht
theorem Own.ne_blk {e' : TypeId} {g : Nat} {cs : Array Value} (h : Own w B e A c xs) (h' : w.heap[g]? = some (.cells cs e')) (hne : e ≠ e') : ¬ blk A g := by
  intro hi
  rcases h.cases with ⟨rfl, _, _⟩ | ⟨g', cur, rfl, _, _, hh, _⟩
  · simp [blk] at hi
  · simp [blk] at hi
    subst hi
    rw [hh] at h'
    injection h' with h'
    injection h' with _ ht
    exact hne ht
end

section
variable {P : Program} (w : World)

/-- What an append leaves: a row in the old block, or in a new one. -/
def Grew (w : World) (B : Nat) (e : TypeId) (A : Option Addr) (c : Nat) (xs : List Value) (v' : Value) (w' : World) : Prop :=
  ∃ A' c', v' = .slice A' xs.length c' ∧ Own w' B e A' c' xs ∧ ((A' = A ∧ c' = c ∧ w.grownBy w' (A.map Addr.block)) ∨ (A' = some ⟨w.heap.size, 0, none⟩ ∧ w.grownBy w' none))

theorem grew_new {B : Nat} {e : TypeId} {A : Option Addr} {c : Nat} (z : Value) (hz : z.cells.size = 1) (xs news : List Value) (old : Nat) (h63 : xs.length + news.length ≤ maxLen) (hB : B ≤ w.heap.size) :
    Grew w B e A c (xs ++ news) (.slice (some ⟨w.heap.size, 0, none⟩) (xs.length + news.length) (grownCap w (xs.length + news.length) old e))
      (w.drew.alloc (.cells (xs.toArray ++ news.toArray ++ Builtin.zeroCells z.cells (grownCap w (xs.length + news.length) old e - (xs.length + news.length))) e)) := by
  have hge := grownCap_ge w (xs.length + news.length) old e
  have hcm : grownCap w (xs.length + news.length) old e ≤ maxLen := grownCap_le_maxLen w _ old e h63
  refine ⟨_, _, by rw [List.length_append], Own.mk hB (heap_alloc_new w.drew _) (by rw [List.length_append]; exact hge) hcm ?_ ?_, .inr ⟨rfl, rfl, rfl, rfl, by simp, fun k hk _ => by first | exact heap_alloc_old w.drew _ k hk | exact heap_alloc_old w.drew _ hk⟩⟩
  · simp only [Array.size_append, List.size_toArray, size_zeroCells, hz]
    omega
  · simp only [Array.toList_append]
    exact List.take_left

theorem run_append_rd (t ty e : TypeId) (i : TypeInfo) (z : Value) (bytes : Nat) (ht : P.underlying t = some (.slice e)) (hi : P.info? e = some i) (hz : i.zero = some z)
    (hsize : i.size = 1) (hby : i.bytes = bytes) (hzs : z.cells.size = 1) (B : Nat) (A : Option Addr) (c : Nat) (xs : List Value) (hown : Own w B e A c xs)
    (D : Option Addr) (cc : Nat) (news : List Value) (hr : Rd w D news) (h1 : ∀ u ∈ news, u.oneCell' = true)
    (h63 : xs.length + news.length ≤ maxLen) (hbytes : (xs.length + news.length) * bytes ≤ 140737488355328) (hbase : B ≤ w.heap.size) :
    ∃ v' w', (Builtin.append_ #[t, t] ty #[.slice A xs.length c, .slice D news.length cc]).run P w = .ok v' w' ∧ Grew w B e A c (xs ++ news) v' w' := by
  have hsmall : xs.length + news.length ≤ 9223372036854775807 := by simp only [maxLen] at h63; omega
  subst hby
  have h0 : news = [] → ∃ v' w', (Builtin.append_ #[t, t] ty #[.slice A xs.length c, .slice D news.length cc]).run P w = .ok v' w' ∧ Grew w B e A c (xs ++ news) v' w' := by
    rintro rfl
    refine ⟨.slice A xs.length c, w, ?_, A, c, by simp, by simpa using hown, .inl ⟨rfl, rfl, World.grownBy.refl w _⟩⟩
    have hle := hown.cap.1
    rcases hown.cases with ⟨rfl, rfl, rfl⟩ | ⟨g, cur, rfl, hB, hg, hh, hle, hm, hs, htk⟩ <;> cases D <;>
      simp [Builtin.append_, run_underlying ht, sizeOf, typeInfo, hi, Builtin.lenOf, Builtin.firstCells, loadCells, loadCellsFrom, storeCells, hle]
  cases news with
  | nil => exact h0 rfl
  | cons n0 ns =>
    obtain ⟨ad, rfl, _⟩ := hr 0 n0 rfl
    have hnews : ∀ j u, (n0 :: ns)[j]? = some u → w.cell? (ad.add j) = some u := fun j u hj => by
      obtain ⟨ad', ha, hc⟩ := hr j u hj
      injection ha with ha; subst ha; exact hc
    have hl : (n0 :: ns).length = (n0 :: ns).length * i.size := by rw [hsize]; simp
    generalize hnn : n0 :: ns = news at *
    have hpos : 0 < news.length := by rw [← hnn]; simp
    rcases hown.cases with ⟨rfl, rfl, rfl⟩ | ⟨g, cur, rfl, hB, hg, hh, hle, hm, hs, htk⟩
    · have hr := run_append_nil (P := P) w t ty e i z ht hi hz ad news.length cc news hl hnews (by omega) (by simp at hsmall; omega) (by simp at hbytes; omega)
      have hg := grew_new w (B := B) (e := e) (A := none) (c := 0) z hzs [] news 0 (by simpa using h63) hbase
      simp only [List.length_nil, Nat.zero_add, List.nil_append, Array.empty_append] at hg hr ⊢
      exact ⟨_, _, hr, hg⟩
    · by_cases hroom : xs.length + news.length ≤ c
      · have hr := run_append_room (P := P) w t ty e i ht hi g xs.length c cur hh ad news.length cc news hl hnews h1 hroom (by rw [hsize, Nat.mul_one, hs]; exact hroom)
        refine ⟨_, _, hr, _, _, by rw [List.length_append], Own.mk hB (setRow_heap w g cur _ e _ hh) (by rw [List.length_append]; exact hroom) hm ?_ ?_, .inl ⟨rfl, rfl, rfl, rfl, rfl, by simp, fun k _ hk => setRow_other w g k _ (fun e => hk (by simp [e]))⟩⟩
        · simp only [List.size_toArray, List.length_append, List.length_take, List.length_drop, Array.length_toList, hsize, Nat.mul_one]
          omega
        · rw [hsize, Nat.mul_one, htk]
          exact List.take_left
      · have holds : ∀ j u, xs[j]? = some u → w.cell? ((⟨g, 0, none⟩ : Addr).add j) = some u := fun j u hj => by
          obtain ⟨ad', ha, hc⟩ := hown.rd j u hj
          injection ha with ha; subst ha; exact hc
        have hr := run_append_grow (P := P) w t ty e i z ht hi hz ⟨g, 0, none⟩ xs.length c xs (by rw [hsize]; simp) holds ad news.length cc news hl hnews (by omega) (by omega) (growslice_fits (by omega) hbytes)
        exact ⟨_, _, hr, grew_new w z hzs xs news c h63 hbase⟩
end

theorem Grew.parts {w : World} {B : Nat} {e : TypeId} {A : Option Addr} {c : Nat} {xs : List Value} {v' : Value} {w' : World} (h : Grew w B e A c xs v' w') :
    ∃ A' c', v' = .slice A' xs.length c' ∧ Own w' B e A' c' xs ∧ Fr (blk A) w w' ∧ (∀ i, blk A' i → blk A i ∨ w.heap.size ≤ i) := by
  obtain ⟨A', c', rfl, ho, h | h⟩ := h
  · obtain ⟨rfl, _, hg⟩ := h
    exact ⟨A', c', rfl, ho, Fr.ofGrown hg (fun g hg => hg), fun i hi => .inl hi⟩
  · obtain ⟨rfl, hg⟩ := h
    exact ⟨_, c', rfl, ho, Fr.ofGrown hg (fun g hg => by cases hg), fun i hi => .inr (by simp [blk] at hi; omega)⟩
end Go.Proofs.YtjnllilmimngoaaGreatDoor
namespace Go.Proofs.YtjnllilmimngoaaGreatDoor
open Go.RowKit

section
variable {P : Program} (w : World)

theorem wpList_append_rd {ops : Array Oper} {rest : List Oper} {o : Oper} {a : Act} {Q : Exit → Act → World → Prop} (hgd : o.guard = none) (s x : Operand) (t : TypeId)
    (ho : o.op = .call { callee := .builtin .append, args := #[s, x], argTypes := #[t, t] })
    (e : TypeId) (i : TypeInfo) (z : Value) (bytes : Nat) (ht : P.underlying t = some (.slice e)) (hi : P.info? e = some i) (hz : i.zero = some z)
    (hsize : i.size = 1) (hby : i.bytes = bytes) (hzs : z.cells.size = 1) (B : Nat) (A : Option Addr) (n c : Nat) (xs : List Value) (hs : a.eval s = .slice A n c) (hn : n = xs.length) (hown : Own w B e A c xs)
    (D : Option Addr) (m cc : Nat) (news : List Value) (hx : a.eval x = .slice D m cc) (hm : m = news.length) (hr : Rd w D news) (h1 : ∀ u ∈ news, u.oneCell' = true)
    (h63 : xs.length + news.length ≤ maxLen) (hbytes : (xs.length + news.length) * bytes ≤ 140737488355328) (hbase : B ≤ w.heap.size)
    (h : ∀ A' c' w', Own w' B e A' c' (xs ++ news) → Fr (blk A) w w' → (∀ i, blk A' i → blk A i ∨ w.heap.size ≤ i) → wpList P ops Q rest (a.put o.dst (.slice A' (xs ++ news).length c')) w') : wpList P ops Q (o :: rest) a w := by
  refine wpList_plain hgd fun K hK => ?_
  subst hn hm
  obtain ⟨v', w', hrun, hg⟩ := run_append_rd (P := P) w t o.type e i z bytes ht hi hz hsize hby hzs B A c xs hown D cc news hr h1 h63 hbytes hbase
  obtain ⟨A', c', rfl, h2, h3, h4⟩ := hg.parts
  unfold Oper.wp execOp
  simp only [ho, resolve, invoke, builtin, Sem.run_bind, Sem.run_pure, Result.andThen_ok, List.map_toArray, List.map_cons, List.map_nil, hs, hx, hrun]
  exact hK _ _ (h A' c' w' h2 h3 h4)

end
end Go.Proofs.YtjnllilmimngoaaGreatDoor
namespace Go.Proofs.YtjnllilmimngoaaGreatDoor
open Go.RowKit

theorem Ext.drewN {a b : World} (h : Ext a b) (n : Nat) : Ext a (b.drewN n) := ⟨h.os, h.tape, h.output, h.size, h.block⟩

theorem tmod_neg (x n : Int) (hn : 1 ≤ n) (h : x.tmod n < 0) : x.tmod n + n = x % n := by
  have h2 := Int.emod_nonneg x (show n ≠ 0 by omega)
  have h3 := Int.tmod_eq_emod (a := x) (b := n)
  rcases Int.lt_or_le x 0 with h1 | h1
  rotate_left
  · have := Int.tmod_nonneg n h1
    omega
  · split at h3
    · omega
    · rw [h3]; omega
theorem tmod_pos (x n : Int) (hn : 1 ≤ n) (h : ¬ x.tmod n < 0) : x.tmod n = x % n := by
  have h2 := Int.emod_lt_of_pos x (show 0 < n by omega)
  have h3 := Int.tmod_eq_emod (a := x) (b := n)
  split at h3
  · omega
  · rw [h3] at h; omega

def markI (k i : Nat) : Int := 1000003 * ((k : Int) + 7) + i
def markB (k i : Nat) : Int := IntKind.u64.wrap (markI k i * 11400714819323198485) / 72057594037927936 % 256
theorem take_snoc' {α : Type} {xs : List α} {k : Nat} {x : α} (h : xs[k]? = some x) : xs.take (k + 1) = xs.take k ++ [x] := by
  have hl : k < xs.length := by
    rcases Nat.lt_or_ge k xs.length with g | g
    · exact g
    · rw [List.getElem?_eq_none g] at h; cases h
  rw [List.take_succ_eq_append_getElem hl]
  rw [List.getElem?_eq_getElem hl] at h
  injection h with h
  rw [h]

def SameRel (n : Nat) (xs ys : List Int) (w : World) (i : Value) (wr : World) : Prop := ∃ k : Nat, k ≤ n ∧ i = .int .i64 k ∧ xs.take k = ys.take k ∧ Ext w wr
set_option maxHeartbeats 1000000 in
theorem sameBytes_any (A D : Option Addr) (c d : Nat) (xs ys : List Int) (w : World) (hA : Rd w A (xs.map (.int .u8))) (hD : Rd w D (ys.map (.int .u8))) (hx : xs.length ≤ maxLen) (_hy : ys.length ≤ maxLen) :
    Calls Tryz.prog 57 #[.slice A xs.length c, .slice D ys.length d] w fun e w' => e = .returned (.bool (decide (xs = ys))) ∧ Ext w w' := by
  unfold maxLen at hx _hy
  by_cases hl : xs.length = ys.length
  · have hne : ((xs.length : Int) != (ys.length : Int)) = false := by simp [hl]
    have HL := Lib.hid hl
    clear hl
    go_enter Tryz.func57, Tryz.ntmps57
    go_wp2
    go_loopw [5] (fun i wr => SameRel xs.length xs ys w i wr) (fun i _ => xs.length - (intOf i).toNat)
    case atStart => exact ⟨0, Nat.zero_le _, rfl, rfl, Ext.refl _⟩
    case round =>
      obtain ⟨k, hk, rfl, ht, hE⟩ := hrel
      have HT := Lib.hid ht
      clear ht
      by_cases hlt : k < xs.length
      · have hlt2 : k < ys.length := by have := HL.out; omega
        obtain ⟨ad, x, rfl, h1, hx1⟩ := (hA.ext hE).int hlt
        obtain ⟨ad2, y, rfl, h2, hy1⟩ := (hD.ext hE).int hlt2
        have HX := Lib.hid hx1
        have HY := Lib.hid hy1
        clear hx1 hy1
        by_cases heq : x = y
        · subst heq
          go_wp2
          go_quiet (fail)
          go_wp2
          exact ⟨⟨k + 1, by omega, by go_num, by rw [take_snoc' HX.out, take_snoc' HY.out, HT.out], hE.drewN _⟩, by simp [intOf]; omega⟩
        · have hb : (x != y) = true := by simpa using heq
          have HQ := Lib.hid heq
          clear heq
          go_wp2
          go_quiet (fail)
          go_wp2
          go_ret
          refine ⟨?_, hE.drewN _⟩
          have hn : ¬ xs = ys := fun h => HQ.out (by have h1 := HX.out; rw [h, HY.out] at h1; injection h1 with h1; exact h1.symm)
          simp [hn]
      · go_wp2
        go_ret
        refine ⟨?_, hE⟩
        have h1 := HT.out
        rw [List.take_of_length_le (by omega), List.take_of_length_le (by have := HL.out; omega)] at h1
        simp [h1]
  · have hne : ((xs.length : Int) != (ys.length : Int)) = true := by simp; omega
    have hn : ¬ xs = ys := fun h => hl (by rw [h])
    have HN := Lib.hid hn
    clear hn hl
    go_enter Tryz.func57, Tryz.ntmps57
    go_wp2
    go_ret
    exact ⟨by simp [HN.out], Ext.refl _⟩
end Go.Proofs.YtjnllilmimngoaaGreatDoor
namespace Go.Proofs.YtjnllilmimngoaaGreatDoor
open Go.RowKit

theorem run_mk0 {P : Program} (t e : TypeId) (i : TypeInfo) (z : Value) (ht : P.underlying t = some (.slice e)) (hi : P.info? e = some i) (hz : i.zero = some z) (hs : i.size = 1)
    (n c : Nat) (x : Int) (hx : x = c) (hnc : n ≤ c) (hb : i.bytes ≤ 64) (hc : c ≤ 1000000000000) (w : World) :
    (Instr.makeSlice t (.int .i64 (n : Int)) (.int .i64 x)).run P w = .ok (.slice (some ⟨w.heap.size, 0, none⟩) n c) (w.alloc (.cells (madeCells z.cells c) e)) := by
  subst hx
  have h : i.bytes * c ≤ 64 * 1000000000000 := Nat.mul_le_mul hb hc
  have h' : ((i.bytes * c : Nat) : Int) ≤ 281474976710656 := by omega
  rw [Int.natCast_mul] at h'
  have hr := run_make (P := P) w t e i z ht hi hz .i64 .i64 n c (by omega) (by omega) h' (by omega)
  simpa [hs] using hr

theorem Own.made (w : World) (B : Nat) (e : TypeId) (z : Value) (c : Nat) (hB : B ≤ w.heap.size) (hc : c ≤ 1000000000000) : Own (w.alloc (.cells (madeCells z.cells c) e)) B e (some ⟨w.heap.size, 0, none⟩) c [] :=
  Own.mk hB (heap_alloc_new w _) (by simp) (by unfold maxLen; omega) (size_madeCells _ _) rfl

def mks (mk : Nat → Int) (k : Nat) : List Int := (List.range k).map mk
theorem mks_succ (mk : Nat → Int) (k : Nat) : mks mk (k + 1) = mks mk k ++ [mk k] := by simp [mks, List.range_succ]
theorem mks_length (mk : Nat → Int) (k : Nat) : (mks mk k).length = k := by simp [mks]
theorem mks_get (mk : Nat → Int) {k n : Nat} (h : k < n) : (mks mk n)[k]? = some (mk k) := by simp [mks, h]

/-- A block that holds a row of c elements. -/
def HasRow (sz : Nat) (w : World) (g c : Nat) : Prop := ∃ (cs : Array Value) (e : TypeId), w.heap[g]? = some (.cells cs e (0, 0)) ∧ cs.size = c * sz
theorem HasRow.ext {sz : Nat} {w w' : World} {g c : Nat} (h : HasRow sz w g c) (he : Ext w w') : HasRow sz w' g c := by
  obtain ⟨cs, e, h1, h2⟩ := h
  exact ⟨cs, e, (he.below.block g (Array.getElem?_eq_some_iff.1 h1).1).trans h1, h2⟩
theorem HasRow.fr {sz : Nat} {S : Nat → Prop} {w w' : World} {g c : Nat} (h : HasRow sz w g c) (hf : Fr S w w') (ho : ¬ S g) : HasRow sz w' g c := by
  obtain ⟨cs, e, h1, h2⟩ := h
  exact ⟨cs, e, (hf.block g (Array.getElem?_eq_some_iff.1 h1).1 ho).trans h1, h2⟩
theorem HasRow.own {w : World} {B : Nat} {e : TypeId} {g c : Nat} {xs : List Value} (h : Own w B e (some ⟨g, 0, none⟩) c xs) : HasRow 1 w g c := by
  rcases h.cases with ⟨h0, _⟩ | ⟨g', cur, hg, _, _, hh, _, _, hs, _⟩
  · cases h0
  · injection hg with hg; injection hg with hg; subst hg
    exact ⟨cur, e, hh, by omega⟩
def RdO (w : World) (g c : Nat) (xs : List Value) : Prop := Rd w (some ⟨g, 0, none⟩) xs ∧ HasRow 1 w g c
theorem RdO.ext {w w' : World} {g c : Nat} {xs : List Value} (h : RdO w g c xs) (he : Ext w w') : RdO w' g c xs := ⟨h.1.ext he, h.2.ext he⟩
theorem RdO.fr {S : Nat → Prop} {w w' : World} {g c : Nat} {xs : List Value} (h : RdO w g c xs) (hf : Fr S w w') (ho : Off S (some ⟨g, 0, none⟩)) : RdO w' g c xs := ⟨h.1.fr hf ho, h.2.fr hf (ho _ rfl)⟩
/-- What a Lent leaves: a new row with marks behind. -/
def Lent (kd : IntKind) (mk : Nat → Int) (zs : List Int) (w : World) (e : Ending) (w' : World) : Prop :=
  ∃ g c', e = .returned (.slice (some ⟨g, 0, none⟩) zs.length c') ∧ zs.length + 12 ≤ c' ∧ c' ≤ maxLen ∧ w.heap.size ≤ g ∧ RdO w' g c' ((zs ++ mks mk 12).map (Value.int kd)) ∧ Ext w w'

def LentRel (kd : IntKind) (et : TypeId) (mk : Nat → Int) (zs : List Int) (w : World) (v i : Value) (wr : World) : Prop :=
  ∃ (k m : Nat) (A : Option Addr) (c : Nat), k ≤ 12 ∧ i = .int .i64 k ∧ v = .slice A m c ∧ m = zs.length + k ∧ Own wr w.heap.size et A c ((zs ++ mks mk k).map (Value.int kd)) ∧ Ext w wr
theorem own_fresh {w w1 w2 : World} {et : TypeId} {A : Option Addr} {c : Nat} {xs : List Value} (h : Own w1 w.heap.size et A c xs) (hE : Ext w w1) (hf : Fr (blk A) w1 w2) : Ext w w2 := by
  have h1 : Below w.heap.size w1 w2 := hf.below hE.sz (fun i hi => (h.lt hi).1)
  exact Below.trans hE h1
theorem one_int (kd : IntKind) (l : List Int) : ∀ u ∈ l.map (Value.int kd), u.oneCell' = true := ints_oneCell kd l
theorem rd_one (w : World) (x : Value) (t : TypeId) : Rd (w.alloc (.cells #[x] t)) (some ⟨w.heap.size, 0, none⟩) [x] := fun j u hj => by
  match j, hj with
  | 0, hj =>
    simp at hj
    subst hj
    exact ⟨_, rfl, by simp [Addr.add]⟩

theorem Tryz.infoEInts : (Tryz.prog.info? 3).map (fun i => (i.zero, i.size, i.bytes)) = some (some (.int .i64 0), 1, 8) := by kernel_rfl
theorem mk0Ints (n : Nat) (hn : n ≤ 1000000000) (w : World) : (Instr.makeSlice 29 (.int .i64 0) (.int .i64 ((n : Int) + 12))).run Tryz.prog w = .ok (.slice (some ⟨w.heap.size, 0, none⟩) 0 (n + 12)) (w.alloc (.cells (madeCells #[.int .i64 0] (n + 12)) 3)) := by
  obtain ⟨i0, hi, hz0, hz1, hz2⟩ := info_parts Tryz.infoEInts
  exact run_mk0 (P := Tryz.prog) 29 3 i0 _ Tryz.underlying29 hi hz0 hz1 0 (n + 12) ((n : Int) + 12) (by omega) (by omega) (by omega) (by omega) w
theorem appendInts {ops : Array Oper} {rest : List Oper} {o : Oper} {a : Act} {Q : Exit → Act → World → Prop} (w : World) (hgd : o.guard = none) (s x : Operand)
    (ho : o.op = .call { callee := .builtin .append, args := #[s, x], argTypes := #[29, 29] })
    (B : Nat) (A : Option Addr) (n c : Nat) (xs : List Int) (hs : a.eval s = .slice A n c) (hn : n = xs.length) (hown : Own w B 3 A c (xs.map (.int .i64)))
    (D : Option Addr) (m cc : Nat) (news : List Int) (hx : a.eval x = .slice D m cc) (hm : m = news.length) (hr : Rd w D (news.map (.int .i64)))
    (h63 : xs.length + news.length ≤ 10000000000000) (hbase : B ≤ w.heap.size)
    (h : ∀ A' c' m' w', m' = (xs ++ news).length → Own w' B 3 A' c' ((xs ++ news).map (.int .i64)) → Fr (blk A) w w' → (∀ i, blk A' i → blk A i ∨ w.heap.size ≤ i) → wpList Tryz.prog ops Q rest (a.put o.dst (.slice A' m' c')) w') : wpList Tryz.prog ops Q (o :: rest) a w := by
  obtain ⟨i0, hi, hz0, hz1, hz2⟩ := info_parts Tryz.infoEInts
  refine wpList_append_rd w hgd s x 29 ho 3 i0 _ 8 Tryz.underlying29 hi hz0 hz1 hz2 rfl B A n c (xs.map (.int .i64)) hs (by simpa using hn) hown D m cc (news.map (.int .i64)) hx (by simpa using hm) hr (one_int .i64 news) (by unfold maxLen; simp; omega) (by simp; omega) hbase ?_
  intro A' c' w' h1 h2 h3
  exact h A' c' _ w' (by simp) (by rw [List.map_append]; exact h1) h2 h3

def KeptRelInts (n : Nat) (w : World) (i : Value) (wr : World) : Prop := ∃ k : Nat, k ≤ n + 12 ∧ i = .int .i64 k ∧ Ext w wr
theorem Tryz.infoEBytes : (Tryz.prog.info? 5).map (fun i => (i.zero, i.size, i.bytes)) = some (some (.int .u8 0), 1, 1) := by kernel_rfl
theorem mk0Bytes (n : Nat) (hn : n ≤ 1000000000) (w : World) : (Instr.makeSlice 33 (.int .i64 0) (.int .i64 ((n : Int) + 12))).run Tryz.prog w = .ok (.slice (some ⟨w.heap.size, 0, none⟩) 0 (n + 12)) (w.alloc (.cells (madeCells #[.int .u8 0] (n + 12)) 5)) := by
  obtain ⟨i0, hi, hz0, hz1, hz2⟩ := info_parts Tryz.infoEBytes
  exact run_mk0 (P := Tryz.prog) 33 5 i0 _ Tryz.underlying33 hi hz0 hz1 0 (n + 12) ((n : Int) + 12) (by omega) (by omega) (by omega) (by omega) w
theorem appendBytes {ops : Array Oper} {rest : List Oper} {o : Oper} {a : Act} {Q : Exit → Act → World → Prop} (w : World) (hgd : o.guard = none) (s x : Operand)
    (ho : o.op = .call { callee := .builtin .append, args := #[s, x], argTypes := #[33, 33] })
    (B : Nat) (A : Option Addr) (n c : Nat) (xs : List Int) (hs : a.eval s = .slice A n c) (hn : n = xs.length) (hown : Own w B 5 A c (xs.map (.int .u8)))
    (D : Option Addr) (m cc : Nat) (news : List Int) (hx : a.eval x = .slice D m cc) (hm : m = news.length) (hr : Rd w D (news.map (.int .u8)))
    (h63 : xs.length + news.length ≤ 10000000000000) (hbase : B ≤ w.heap.size)
    (h : ∀ A' c' m' w', m' = (xs ++ news).length → Own w' B 5 A' c' ((xs ++ news).map (.int .u8)) → Fr (blk A) w w' → (∀ i, blk A' i → blk A i ∨ w.heap.size ≤ i) → wpList Tryz.prog ops Q rest (a.put o.dst (.slice A' m' c')) w') : wpList Tryz.prog ops Q (o :: rest) a w := by
  obtain ⟨i0, hi, hz0, hz1, hz2⟩ := info_parts Tryz.infoEBytes
  refine wpList_append_rd w hgd s x 33 ho 5 i0 _ 1 Tryz.underlying33 hi hz0 hz1 hz2 rfl B A n c (xs.map (.int .u8)) hs (by simpa using hn) hown D m cc (news.map (.int .u8)) hx (by simpa using hm) hr (one_int .u8 news) (by unfold maxLen; simp; omega) (by simp; omega) hbase ?_
  intro A' c' w' h1 h2 h3
  exact h A' c' _ w' (by simp) (by rw [List.map_append]; exact h1) h2 h3

def KeptRelBytes (n : Nat) (w : World) (i : Value) (wr : World) : Prop := ∃ k : Nat, k ≤ n + 12 ∧ i = .int .i64 k ∧ Ext w wr
end Go.Proofs.YtjnllilmimngoaaGreatDoor
namespace Go.Proofs.YtjnllilmimngoaaGreatDoor
open Go.RowKit

theorem heap_set {w : World} {v : Value} {cs : Array Value} {g k : Nat} {t : TypeId} (h : w.heap[g]? = some (.cells cs t)) : (w.setCell ⟨g, k, none⟩ v).heap[g]? = some (.cells (cs.setIfInBounds k v) t) := by
  simp [World.setCell, Array.getElem?_modify, h]
theorem set_app {l r : List Value} {n : Nat} (hn : n = l.length) (j : Nat) (u : Value) : (l ++ r).set (n + j) u = l ++ r.set j u := by
  subst hn
  rw [List.set_append_right _ _ (by omega), show l.length + j - l.length = j by omega]
theorem set_app0 {l r : List Value} {n : Nat} (hn : n = l.length) (u : Value) : (l ++ r).set n u = l ++ r.set 0 u := set_app hn 0 u
def isB (wb : Nat) : Nat → Prop := fun i => i = wb
theorem drop_at {α : Type} {l : List α} {k : Nat} {x : α} (h : l[k]? = some x) : l.drop k = x :: l.drop (k + 1) := by
  have hl : k < l.length := by
    rcases Nat.lt_or_ge k l.length with g | g
    · exact g
    · rw [List.getElem?_eq_none g] at h; cases h
  rw [List.drop_eq_getElem_cons hl]
  rw [List.getElem?_eq_getElem hl] at h
  injection h with h
  rw [h]
theorem rd_lit (w : World) (l : List Value) (t : TypeId) : Rd (w.alloc (.cells l.toArray t)) (some ⟨w.heap.size, 0, none⟩) l := fun j u hj => by
  refine ⟨_, rfl, ?_⟩
  rw [add_lit', Nat.zero_add, cell_of_heap (heap_alloc_new w _)]
  simpa using hj

end Go.Proofs.YtjnllilmimngoaaGreatDoor
namespace Go.Proofs.YtjnllilmimngoaaGreatDoor
open Go.RowKit

def inB (n least : Int) : Bool := decide (least ≤ n) && decide (n ≤ 1099511627776)
theorem inB_any (n least : Int) (w : World) : Calls Tryz.prog 181 #[.int .i64 n, .int .i64 least] w fun e w' => e = .returned (.bool (inB n least)) ∧ w = w' := by
  by_cases h1 : least ≤ n
  · have hd1 : decide (least ≤ n) = true := by simpa using h1
    by_cases h2 : n ≤ 1099511627776
    · have hd2 : decide (n ≤ 1099511627776) = true := by simpa using h2
      have hv : Hid (inB n least = true) := Lib.hid (by simp [inB, h1, h2])
      go_enter Tryz.func181, Tryz.ntmps181
      go_wp2
      go_ret
      exact ⟨by rw [hv.out]; rfl, rfl⟩
    · have hd2 : decide (n ≤ 1099511627776) = false := by simpa using h2
      have hv : Hid (inB n least = false) := Lib.hid (by simp [inB, h1, h2])
      go_enter Tryz.func181, Tryz.ntmps181
      go_wp2
      go_ret
      exact ⟨by rw [hv.out]; rfl, rfl⟩
  · have hd1 : decide (least ≤ n) = false := by simpa using h1
    have hv : Hid (inB n least = false) := Lib.hid (by simp [inB, h1])
    go_enter Tryz.func181, Tryz.ntmps181
    go_wp2
    go_ret
    exact ⟨by rw [hv.out]; rfl, rfl⟩

def rightE (i t k : Int) (n : Nat) : Bool := inB i 1 && inB t 0 && decide (1 ≤ k) && decide (k ≤ 3) && decide (n ≤ 200)
theorem rightE_iff {i t k : Int} {n : Nat} : rightE i t k n = true ↔ (1 ≤ i ∧ i ≤ 1099511627776) ∧ (0 ≤ t ∧ t ≤ 1099511627776) ∧ 1 ≤ k ∧ k ≤ 3 ∧ n ≤ 200 := by simp [rightE, inB, and_assoc]

set_option maxHeartbeats 600000 in
theorem right_any (i t k : Int) (D : Option Addr) (n d : Nat) (w : World) :
    Calls Tryz.prog 179 #[.agg #[.int .i64 i, .int .i64 t, .int .i64 k, .slice D n d]] w fun e w' => e = .returned (.bool (rightE i t k n)) ∧ Ext w w' := by
  cases h0 : inB i 1 with
  | false =>
    have hv : Hid (rightE i t k n = false) := Lib.hid (by rw [Bool.eq_false_iff, ne_eq, rightE_iff]; simp [inB] at *; omega)
    go_enter Tryz.func179, Tryz.ntmps179
    go_wp2_with (go_at_call 181; refine (inB_any _ _ _).mono ?_; rintro e w' ⟨rfl, rfl⟩)
    go_ret
    exact ⟨by rw [hv.out]; rfl, (Ext.refl _).alloc _⟩
  | true =>
    cases h1 : inB t 0 with
    | false =>
      have hv : Hid (rightE i t k n = false) := Lib.hid (by rw [Bool.eq_false_iff, ne_eq, rightE_iff]; simp [inB] at *; omega)
      go_enter Tryz.func179, Tryz.ntmps179
      go_wp2_with (go_at_call 181; refine (inB_any _ _ _).mono ?_; rintro e w' ⟨rfl, rfl⟩)
      go_ret
      exact ⟨by rw [hv.out]; rfl, (Ext.refl _).alloc _⟩
    | true =>
      cases h2 : decide (1 ≤ k) with
      | false =>
        have hv : Hid (rightE i t k n = false) := Lib.hid (by rw [Bool.eq_false_iff, ne_eq, rightE_iff]; simp [inB] at *; omega)
        go_enter Tryz.func179, Tryz.ntmps179
        go_wp2_with (go_at_call 181; refine (inB_any _ _ _).mono ?_; rintro e w' ⟨rfl, rfl⟩)
        go_ret
        exact ⟨by rw [hv.out]; rfl, (Ext.refl _).alloc _⟩
      | true =>
        cases h3 : decide (k ≤ 3) with
        | false =>
          have hv : Hid (rightE i t k n = false) := Lib.hid (by rw [Bool.eq_false_iff, ne_eq, rightE_iff]; simp [inB] at *; omega)
          go_enter Tryz.func179, Tryz.ntmps179
          go_wp2_with (go_at_call 181; refine (inB_any _ _ _).mono ?_; rintro e w' ⟨rfl, rfl⟩)
          go_ret
          exact ⟨by rw [hv.out]; rfl, (Ext.refl _).alloc _⟩
        | true =>
          cases h4 : decide (n ≤ 200) with
          | false =>
            have hz : decide ((n : Int) ≤ 200) = false := by simp at h4 ⊢; omega
            have hv : Hid (rightE i t k n = false) := Lib.hid (by rw [Bool.eq_false_iff, ne_eq, rightE_iff]; simp [inB] at *; omega)
            go_enter Tryz.func179, Tryz.ntmps179
            go_wp2_with (go_at_call 181; refine (inB_any _ _ _).mono ?_; rintro e w' ⟨rfl, rfl⟩)
            go_ret
            exact ⟨by rw [hv.out]; rfl, (Ext.refl _).alloc _⟩
          | true =>
            have hz : decide ((n : Int) ≤ 200) = true := by simp at h4 ⊢; omega
            have hv : Hid (rightE i t k n = true) := Lib.hid (by rw [rightE_iff]; simp [inB] at *; omega)
            go_enter Tryz.func179, Tryz.ntmps179
            go_wp2_with (go_at_call 181; refine (inB_any _ _ _).mono ?_; rintro e w' ⟨rfl, rfl⟩)
            go_ret
            exact ⟨by rw [hv.out]; rfl, (Ext.refl _).alloc _⟩
end Go.Proofs.YtjnllilmimngoaaGreatDoor
