/-
  Words for memory: a slice that reads as a list, a frame with a set of turned blocks, rows of the call's own, append onto them.
-/
import Derived.Test.YtigljihohpdpeaaGreatDoorStab
import Derived.Laws.AppendOwn
import Derived.Laws.OwnMore
import Derived.OwnWalk
import Derived.Deep.Draws
namespace Go.Proofs.YtigljihohpdpeaaGreatDoor
open Go.RowKit

theorem add_block (a : Addr) (n : Nat) : (a.add n).block = a.block := by unfold Addr.add; split <;> rfl
theorem add_add' (a : Addr) (i j : Nat) : (a.add i).add j = a.add (i + j) := by
  unfold Addr.add
  by_cases hi : i = 0 <;> by_cases hj : j = 0 <;> simp [hi, hj, Nat.add_assoc]
theorem add_lit' (b o n : Nat) : (⟨b, o, none⟩ : Addr).add n = ⟨b, o + n, none⟩ := by
  unfold Addr.add; split <;> simp_all

/-- The cells from A on read xs. -/
def Rd (w : World) (A : Option Addr) (xs : List Value) : Prop := ∀ j u, xs[j]? = some u → ∃ ad, A = some ad ∧ w.cell? (ad.add j) = some u

theorem Rd.at_ {w : World} {A : Option Addr} {xs : List Value} (h : Rd w A xs) {k : Nat} (hk : k < xs.length) : ∃ ad, A = some ad ∧ w.cell? (ad.add k) = some xs[k] :=
  h k _ (List.getElem?_eq_getElem hk)
theorem Rd.nil (w : World) (A : Option Addr) : Rd w A [] := fun j u h => by simp at h
theorem Rd.pre {w : World} {A : Option Addr} {xs ys : List Value} (h : Rd w A (xs ++ ys)) : Rd w A xs := fun j u hj => by
  refine h j u ?_
  have hl : j < xs.length := by
    rcases Nat.lt_or_ge j xs.length with g | g
    · exact g
    · rw [List.getElem?_eq_none g] at hj; cases hj
  rw [List.getElem?_append_left hl]; exact hj
theorem Rd.ext {w w' : World} {A : Option Addr} {xs : List Value} (h : Rd w A xs) (he : Ext w w') : Rd w' A xs := fun j u hj => by
  obtain ⟨ad, ha, hc⟩ := h j u hj
  exact ⟨ad, ha, he.cell hc⟩
theorem Rd.int {w : World} {A : Option Addr} {k : IntKind} {zs : List Int} (h : Rd w A (zs.map (Value.int k))) {i : Nat} (hi : i < zs.length) : ∃ ad x, A = some ad ∧ w.cell? (ad.add i) = some (.int k x) ∧ zs[i]? = some x := by
  obtain ⟨ad, ha, hc⟩ := h.at_ (k := i) (by simpa using hi)
  exact ⟨ad, zs[i], ha, by rw [hc]; simp, List.getElem?_eq_getElem hi⟩

/-- Blocks of w outside S are as they were. -/
structure Fr (S : Nat → Prop) (w w' : World) : Prop where
  os : w'.os = w.os
  tape : w'.tape = w.tape
  output : w'.output = w.output
  size : w.heap.size ≤ w'.heap.size
  block : ∀ i, i < w.heap.size → ¬ S i → w'.heap[i]? = w.heap[i]?

section
variable {S T : Nat → Prop} {a b c : World}
theorem Fr.refl (S : Nat → Prop) (w : World) : Fr S w w := ⟨rfl, rfl, rfl, Nat.le_refl _, fun _ _ _ => rfl⟩
theorem Fr.trans (h : Fr S a b) (k : Fr T b c) (hT : ∀ i, i < a.heap.size → T i → S i) : Fr S a c :=
  ⟨k.os.trans h.os, k.tape.trans h.tape, k.output.trans h.output, Nat.le_trans h.size k.size, fun i hi hn => (k.block i (Nat.lt_of_lt_of_le hi h.size) (fun t => hn (hT i hi t))).trans (h.block i hi hn)⟩
theorem Fr.mono (h : Fr T a b) (hT : ∀ i, i < a.heap.size → T i → S i) : Fr S a b := (Fr.refl S a).trans h hT
theorem Fr.ofExt (S : Nat → Prop) (h : Ext a b) : Fr S a b := ⟨h.below.os, h.below.tape, h.below.output, h.sz, fun i hi _ => h.below.block i hi⟩
theorem Fr.then (h : Fr S a b) (k : Ext b c) : Fr S a c := h.trans (Fr.ofExt S k) (fun _ _ t => t)
theorem Fr.ofGrown {row : Option Nat} (h : a.grownBy b row) (hS : ∀ g, row = some g → S g) : Fr S a b :=
  ⟨h.os, h.tape, h.output, h.size, fun i hi hn => h.block i hi (fun e => hn (hS i e.symm))⟩
theorem Fr.alloc (h : Fr S a b) (o : Obj) : Fr S a (b.alloc o) := h.then ((Ext.refl b).alloc o)
theorem Fr.drew (h : Fr S a b) : Fr S a b.drew := h.then (Ext.refl b).drew
theorem Fr.drewN (h : Fr S a b) (n : Nat) : Fr S a (b.drewN n) := ⟨h.os, h.tape, h.output, h.size, h.block⟩
theorem Fr.set (h : Fr S a b) {p : Addr} (hp : S p.block ∨ a.heap.size ≤ p.block) (u : Value) : Fr S a (b.setCell p u) :=
  ⟨h.os, h.tape, h.output, by simpa [World.setCell] using h.size, fun i hi hn => (Below.heap_setCell b p u i (by
    rintro rfl
    rcases hp with hp | hp
    · exact hn hp
    · omega)).trans (h.block i hi hn)⟩
theorem Fr.cell (h : Fr S a b) {p : Addr} {v : Value} (hp : ¬ S p.block) (hc : a.cell? p = some v) : b.cell? p = some v := by
  rw [World.cell?_of_block (h.block p.block (World.block_lt_of_cell? a _ hc) hp)]; exact hc
theorem Fr.below (h : Fr S a b) {B : Nat} (hB : B ≤ a.heap.size) (hS : ∀ i, S i → B ≤ i) : Below B a b :=
  ⟨h.os, h.tape, h.output, h.size, fun i hi => h.block i (by omega) (fun s => by have := hS i s; omega)⟩
theorem Fr.toExt (h : Fr S a b) (hS : ∀ i, S i → a.heap.size ≤ i) : Ext a b := h.below (Nat.le_refl _) hS
end

def Off (S : Nat → Prop) (A : Option Addr) : Prop := ∀ ad, A = some ad → ¬ S ad.block
theorem Rd.fr {S : Nat → Prop} {w w' : World} {A : Option Addr} {xs : List Value} (h : Rd w A xs) (hf : Fr S w w') (ho : Off S A) : Rd w' A xs := fun j u hj => by
  obtain ⟨ad, ha, hc⟩ := h j u hj
  exact ⟨ad, ha, hf.cell (by rw [add_block]; exact ho ad ha) hc⟩

/-- The slice .slice A n c is nil, or a row of the call's own, from block B on, whose first cells are xs. -/
def Own (w : World) (B : Nat) (e : TypeId) (A : Option Addr) (c : Nat) (xs : List Value) : Prop := w.ownsRow B e 1 (.slice A xs.length c) xs.length xs
/-- the block of a slice. -/
def blk (A : Option Addr) (i : Nat) : Prop := A.map Addr.block = some i

section
variable {w w' : World} {B : Nat} {e : TypeId} {A : Option Addr} {c : Nat} {xs : List Value}
theorem Own.nil (w : World) (B : Nat) (e : TypeId) : Own w B e none 0 [] := World.ownsRow_nil w B e 1
theorem Own.of {v : Value} {n : Nat} (h : w.ownsRow B e 1 v n xs) : ∃ A c, v = .slice A n c ∧ n = xs.length ∧ Own w B e A c xs := by
  have hn : n = xs.length := by have := h.1; omega
  subst hn
  rcases h.2 with ⟨rfl, h0⟩ | ⟨g, cap, cur, rfl, _⟩
  · have hx : xs = [] := List.eq_nil_of_length_eq_zero h0
    subst hx
    exact ⟨none, 0, rfl, rfl, Own.nil w B e⟩
  · exact ⟨_, _, rfl, rfl, h⟩
/-- nil, or a block that is known. -/
theorem Own.cases (h : Own w B e A c xs) : (A = none ∧ c = 0 ∧ xs = []) ∨ ∃ g cur, A = some ⟨g, 0, none⟩ ∧ B ≤ g ∧ g < w.heap.size ∧ w.heap[g]? = some (.cells cur e (0, 0)) ∧ xs.length ≤ c ∧ c ≤ maxLen ∧ cur.size = c ∧ cur.toList.take xs.length = xs := by
  rcases h.2 with ⟨h1, h2⟩ | ⟨g, cap, cur, h1, hB, hh, hle, hm, hs, ht⟩
  · injection h1 with h3 h4 h5
    exact .inl ⟨h3, h5, List.eq_nil_of_length_eq_zero h2⟩
  · injection h1 with h3 h4 h5
    subst h5
    refine .inr ⟨g, cur, h3, hB, ?_, hh, hle, hm, by simpa using hs, by simpa using ht⟩
    rcases Nat.lt_or_ge g w.heap.size with hlt | hge
    · exact hlt
    · rw [Array.getElem?_eq_none hge] at hh; cases hh
theorem Own.mk {g : Nat} {cur : Array Value} (hB : B ≤ g) (hh : w.heap[g]? = some (.cells cur e (0, 0))) (hle : xs.length ≤ c) (hm : c ≤ maxLen) (hs : cur.size = c) (ht : cur.toList.take xs.length = xs) : Own w B e (some ⟨g, 0, none⟩) c xs :=
  ⟨by simp, .inr ⟨g, c, cur, rfl, hB, hh, hle, hm, by simpa using hs, by simpa using ht⟩⟩
theorem Own.lt (h : Own w B e A c xs) {i : Nat} (hi : blk A i) : B ≤ i ∧ i < w.heap.size := by
  rcases h.cases with ⟨rfl, _, _⟩ | ⟨g, cur, rfl, hB, hg, _⟩
  · simp [blk] at hi
  · simp [blk] at hi; subst hi; exact ⟨hB, hg⟩
theorem Own.cap (h : Own w B e A c xs) : xs.length ≤ c ∧ c ≤ maxLen := by
  rcases h.cases with ⟨rfl, rfl, rfl⟩ | ⟨g, cur, rfl, hB, hg, _, h1, h2, _⟩
  · exact ⟨by simp, by simp⟩
  · exact ⟨h1, h2⟩
theorem Own.rd (h : Own w B e A c xs) : Rd w A xs := fun j u hj => by
  rcases h.cases with ⟨rfl, rfl, rfl⟩ | ⟨g, cur, rfl, hB, hg, hh, h1, h2, h3, h4⟩
  · simp at hj
  · refine ⟨_, rfl, ?_⟩
    rw [add_lit', Nat.zero_add, cell_of_heap hh]
    have hl : j < xs.length := by
      rcases Nat.lt_or_ge j xs.length with g | g
      · exact g
      · rw [List.getElem?_eq_none g] at hj; cases hj
    rw [← h4, List.getElem?_take, if_pos hl] at hj
    simpa using hj
theorem Own.keep (h : Own w B e A c xs) (hk : ∀ i, blk A i → i < w.heap.size → w'.heap[i]? = w.heap[i]?) : Own w' B e A c xs := by
  rcases h.cases with ⟨rfl, rfl, rfl⟩ | ⟨g, cur, rfl, hB, hg, hh, h1, h2, h3, h4⟩
  · exact Own.nil w' B e
  · exact Own.mk hB ((hk g rfl hg).trans hh) h1 h2 h3 h4
theorem Own.fr {S : Nat → Prop} (h : Own w B e A c xs) (hf : Fr S w w') (ho : ∀ i, blk A i → ¬ S i) : Own w' B e A c xs :=
  h.keep fun i hi hlt => hf.block i hlt (ho i hi)
theorem Own.ext (h : Own w B e A c xs) (he : Ext w w') : Own w' B e A c xs := h.keep fun i _ hlt => he.below.block i hlt
theorem Own.pre {ys : List Value} (h : Own w B e A c (xs ++ ys)) (hA : xs = [] → ys = [] ∨ A ≠ none) : Own w B e A c xs ∨ xs = [] := by
  rcases h.cases with ⟨rfl, rfl, h0⟩ | ⟨g, cur, rfl, hB, hg, hh, h1, h2, h3, h4⟩
  · exact .inr (List.append_eq_nil_iff.1 h0).1
  · left
    refine Own.mk hB hh (by simp at h1; omega) h2 h3 ?_
    have := congrArg (List.take xs.length) h4
    rw [List.take_take] at this
    simpa using this
theorem Own.lower {B' : Nat} (h : Own w B e A c xs) (hB : B' ≤ B) : Own w B' e A c xs := by
  rcases h.cases with ⟨rfl, rfl, rfl⟩ | ⟨g, cur, rfl, hb, hg, hh, h1, h2, h3, h4⟩
  · exact Own.nil w B' e
  · exact Own.mk (by omega) hh h1 h2 h3 h4
theorem Own.raise {B' : Nat} (h : Own w B e A c xs) (hB : ∀ i, blk A i → B' ≤ i) : Own w B' e A c xs := by
  rcases h.cases with ⟨rfl, rfl, rfl⟩ | ⟨g, cur, rfl, hb, hg, hh, h1, h2, h3, h4⟩
  · exact Own.nil w B' e
  · exact Own.mk (hB g rfl) hh h1 h2 h3 h4
/-- a store into the row. -/
theorem Own.set {g : Nat} (h : Own w B e (some ⟨g, 0, none⟩) c xs) (j : Nat) (u : Value) : Own (w.setCell ⟨g, j, none⟩ u) B e (some ⟨g, 0, none⟩) c (xs.set j u) := by
  rcases h.cases with ⟨h0, _, _⟩ | ⟨g', cur, hg', hB, hg, hh, h1, h2, h3, h4⟩
  · cases h0
  · injection hg' with hg'; injection hg' with hg'; subst hg'
    refine Own.mk (cur := cur.setIfInBounds j u) hB ?_ (by simpa using h1) h2 (by simpa using h3) ?_
    · simp [World.setCell, Array.getElem?_modify, hh]
    · rw [Array.toList_setIfInBounds, List.length_set]
      conv => rhs; rw [← h4]
      rw [List.take_set]
theorem Own.frozen {g : Nat} (h : Own w B e (some ⟨g, 0, none⟩) c xs) (j : Nat) : w.frozen? ⟨g, j, none⟩ = false := by
  rcases h.cases with ⟨h0, _, _⟩ | ⟨g', cur, hg', hB, hg, hh, h1, h2, h3, h4⟩
  · cases h0
  · injection hg' with hg'; injection hg' with hg'; subst hg'
    exact frozen_of_heap hh j
theorem Own.some_ (h : Own w B e A c xs) (hx : 0 < xs.length) : ∃ g, A = some ⟨g, 0, none⟩ := by
  rcases h.cases with ⟨_, _, rfl⟩ | ⟨g, cur, rfl, _⟩
  · simp at hx
  · exact ⟨g, rfl⟩
/-- rows of two types never share a block. -/
theorem Own.ne {e' : TypeId} {A' : Option Addr} {c' : Nat} {xs' : List Value} {B' : Nat} (h : Own w B e A c xs) (h' : Own w B' e' A' c' xs') (hne : e ≠ e') {i : Nat} (hi : blk A i) : ¬ blk A' i := by
  intro hi'
  rcases h.cases with ⟨rfl, _, _⟩ | ⟨g, cur, rfl, _, _, hh, _⟩
  · simp [blk] at hi
  · rcases h'.cases with ⟨rfl, _, _⟩ | ⟨g', cur', rfl, _, _, hh', _⟩
    · simp [blk] at hi'
    · simp [blk] at hi hi'
      subst hi hi'
      rw [hh] at hh'
      injection hh' with hh'
      injection hh' with _ ht
      exact hne ht
theorem Own.ne_blk {e' : TypeId} {g : Nat} {cs : Array Value} (h : Own w B e A c xs) (h' : w.heap[g]? = some (.cells cs e')) (hne : e ≠ e') : ¬ blk A g := by
  intro hi
  rcases h.cases with ⟨rfl, _, _⟩ | ⟨g', cur, rfl, _, _, hh, _⟩
  · simp [blk] at hi
  · simp [blk] at hi
    subst hi
    rw [hh] at h'
    injection h' with h'
    injection h' with _ ht
    exact hne ht
end

section
variable {P : Program} (w : World)

/-- What an append leaves: a row in the old block, or in a new one. -/
def Grew (w : World) (B : Nat) (e : TypeId) (A : Option Addr) (c : Nat) (xs : List Value) (v' : Value) (w' : World) : Prop :=
  ∃ A' c', v' = .slice A' xs.length c' ∧ Own w' B e A' c' xs ∧ ((A' = A ∧ c' = c ∧ w.grownBy w' (A.map Addr.block)) ∨ (A' = some ⟨w.heap.size, 0, none⟩ ∧ w.grownBy w' none))

theorem grew_new {B : Nat} {e : TypeId} {A : Option Addr} {c : Nat} (z : Value) (hz : z.cells.size = 1) (xs news : List Value) (old : Nat) (h63 : xs.length + news.length ≤ maxLen) (hB : B ≤ w.heap.size) :
    Grew w B e A c (xs ++ news) (.slice (some ⟨w.heap.size, 0, none⟩) (xs.length + news.length) (grownCap w (xs.length + news.length) old e))
      (w.drew.alloc (.cells (xs.toArray ++ news.toArray ++ Builtin.zeroCells z.cells (grownCap w (xs.length + news.length) old e - (xs.length + news.length))) e)) := by
  have hge := grownCap_ge w (xs.length + news.length) old e
  have hcm : grownCap w (xs.length + news.length) old e ≤ maxLen := grownCap_le_maxLen w _ old e h63
  refine ⟨_, _, by rw [List.length_append], Own.mk hB (heap_alloc_new w.drew _) (by rw [List.length_append]; exact hge) hcm ?_ ?_, .inr ⟨rfl, rfl, rfl, rfl, by simp, fun k hk _ => heap_alloc_old w.drew _ k hk⟩⟩
  · simp only [Array.size_append, List.size_toArray, size_zeroCells, hz]
    omega
  · simp only [Array.toList_append]
    exact List.take_left

theorem run_append_rd (t ty e : TypeId) (i : TypeInfo) (z : Value) (bytes : Nat) (ht : P.underlying t = some (.slice e)) (hi : P.info? e = some i) (hz : i.zero = some z)
    (hsize : i.size = 1) (hby : i.bytes = bytes) (hzs : z.cells.size = 1) (B : Nat) (A : Option Addr) (c : Nat) (xs : List Value) (hown : Own w B e A c xs)
    (D : Option Addr) (cc : Nat) (news : List Value) (hr : Rd w D news) (h1 : ∀ u ∈ news, u.oneCell' = true)
    (h63 : xs.length + news.length ≤ maxLen) (hbytes : (xs.length + news.length) * bytes ≤ 140737488355328) (hbase : B ≤ w.heap.size) :
    ∃ v' w', (Builtin.append_ #[t, t] ty #[.slice A xs.length c, .slice D news.length cc]).run P w = .ok v' w' ∧ Grew w B e A c (xs ++ news) v' w' := by
  have hsmall : xs.length + news.length ≤ 9223372036854775807 := by simp only [maxLen] at h63; omega
  subst hby
  have h0 : news = [] → ∃ v' w', (Builtin.append_ #[t, t] ty #[.slice A xs.length c, .slice D news.length cc]).run P w = .ok v' w' ∧ Grew w B e A c (xs ++ news) v' w' := by
    rintro rfl
    refine ⟨.slice A xs.length c, w, ?_, A, c, by simp, by simpa using hown, .inl ⟨rfl, rfl, World.grownBy.refl w _⟩⟩
    have hle := hown.cap.1
    rcases hown.cases with ⟨rfl, rfl, rfl⟩ | ⟨g, cur, rfl, hB, hg, hh, hle, hm, hs, htk⟩ <;> cases D <;>
      simp [Builtin.append_, run_underlying ht, sizeOf, typeInfo, hi, Builtin.lenOf, Builtin.firstCells, loadCells, loadCellsFrom, storeCells, hle]
  cases news with
  | nil => exact h0 rfl
  | cons n0 ns =>
    obtain ⟨ad, rfl, _⟩ := hr 0 n0 rfl
    have hnews : ∀ j u, (n0 :: ns)[j]? = some u → w.cell? (ad.add j) = some u := fun j u hj => by
      obtain ⟨ad', ha, hc⟩ := hr j u hj
      injection ha with ha; subst ha; exact hc
    have hl : (n0 :: ns).length = (n0 :: ns).length * i.size := by rw [hsize]; simp
    generalize hnn : n0 :: ns = news at *
    have hpos : 0 < news.length := by rw [← hnn]; simp
    rcases hown.cases with ⟨rfl, rfl, rfl⟩ | ⟨g, cur, rfl, hB, hg, hh, hle, hm, hs, htk⟩
    · have hr := run_append_nil (P := P) w t ty e i z ht hi hz ad news.length cc news hl hnews (by omega) (by simp at hsmall; omega) (by simp at hbytes; omega)
      have hg := grew_new w (B := B) (e := e) (A := none) (c := 0) z hzs [] news 0 (by simpa using h63) hbase
      simp only [List.length_nil, Nat.zero_add, List.nil_append, Array.empty_append] at hg hr ⊢
      exact ⟨_, _, hr, hg⟩
    · by_cases hroom : xs.length + news.length ≤ c
      · have hr := run_append_room (P := P) w t ty e i ht hi g xs.length c cur hh ad news.length cc news hl hnews h1 hroom (by rw [hsize, Nat.mul_one, hs]; exact hroom)
        refine ⟨_, _, hr, _, _, by rw [List.length_append], Own.mk hB (setRow_heap w g cur _ e _ hh) (by rw [List.length_append]; exact hroom) hm ?_ ?_, .inl ⟨rfl, rfl, rfl, rfl, rfl, by simp, fun k _ hk => setRow_other w g k _ (fun e => hk (by simp [e]))⟩⟩
        · simp only [List.size_toArray, List.length_append, List.length_take, List.length_drop, Array.length_toList, hsize, Nat.mul_one]
          omega
        · rw [hsize, Nat.mul_one, htk]
          exact List.take_left
      · have holds : ∀ j u, xs[j]? = some u → w.cell? ((⟨g, 0, none⟩ : Addr).add j) = some u := fun j u hj => by
          obtain ⟨ad', ha, hc⟩ := hown.rd j u hj
          injection ha with ha; subst ha; exact hc
        have hr := run_append_grow (P := P) w t ty e i z ht hi hz ⟨g, 0, none⟩ xs.length c xs (by rw [hsize]; simp) holds ad news.length cc news hl hnews (by omega) (by omega) (growslice_fits (by omega) hbytes)
        exact ⟨_, _, hr, grew_new w z hzs xs news c h63 hbase⟩
end

theorem Grew.parts {w : World} {B : Nat} {e : TypeId} {A : Option Addr} {c : Nat} {xs : List Value} {v' : Value} {w' : World} (h : Grew w B e A c xs v' w') :
    ∃ A' c', v' = .slice A' xs.length c' ∧ Own w' B e A' c' xs ∧ Fr (blk A) w w' ∧ (∀ i, blk A' i → blk A i ∨ w.heap.size ≤ i) := by
  obtain ⟨A', c', rfl, ho, h | h⟩ := h
  · obtain ⟨rfl, _, hg⟩ := h
    exact ⟨A', c', rfl, ho, Fr.ofGrown hg (fun g hg => hg), fun i hi => .inl hi⟩
  · obtain ⟨rfl, hg⟩ := h
    exact ⟨_, c', rfl, ho, Fr.ofGrown hg (fun g hg => by cases hg), fun i hi => .inr (by simp [blk] at hi; omega)⟩
end Go.Proofs.YtigljihohpdpeaaGreatDoor
