/-
  Rows whose elements are of more than one cell: what a row of the call's own is, append onto it, clear of its end, a load out of it.
  Rows of letters in memory; what a letter's rows lie apart from.
-/
import Derived.Test.YtigljihohpdpeaaGreatDoorM15
import Derived.Deep.MidRow
import Derived.Test.YtigljihohpdpeaaGreatDoorM25
namespace Go.Proofs.YtigljihohpdpeaaGreatDoor
open Go.RowKit

def OwnW (sz : Nat) (w : World) (B : Nat) (e : TypeId) (A : Option Addr) (n c : Nat) (xs : List Value) : Prop := w.ownsRow B e sz (.slice A n c) n xs

section
variable {sz : Nat} {w w' : World} {B n c : Nat} {e : TypeId} {A : Option Addr} {xs : List Value}
theorem OwnW.nil (sz : Nat) (w : World) (B : Nat) (e : TypeId) : OwnW sz w B e none 0 0 [] := World.ownsRow_nil w B e sz
theorem OwnW.len (h : OwnW sz w B e A n c xs) : xs.length = n * sz := h.1
theorem OwnW.cases (h : OwnW sz w B e A n c xs) : (A = none ∧ n = 0 ∧ c = 0 ∧ xs = []) ∨ ∃ g cur, A = some ⟨g, 0, none⟩ ∧ B ≤ g ∧ g < w.heap.size ∧ w.heap[g]? = some (.cells cur e (0, 0)) ∧ n ≤ c ∧ c ≤ maxLen ∧ cur.size = c * sz ∧ cur.toList.take (n * sz) = xs := by
  have hl := h.1
  rcases h.2 with ⟨h1, h2⟩ | ⟨g, cap, cur, h1, hB, hh, hle, hm, hs, ht⟩
  · injection h1 with h3 h4 h5
    subst h2
    exact .inl ⟨h3, rfl, h5, List.eq_nil_of_length_eq_zero (by simpa using hl)⟩
  · injection h1 with h3 h4 h5
    subst h5
    exact .inr ⟨g, cur, h3, hB, heap_lt hh, hh, hle, hm, hs, ht⟩
theorem OwnW.mk {g : Nat} {cur : Array Value} (hB : B ≤ g) (hh : w.heap[g]? = some (.cells cur e (0, 0))) (hle : n ≤ c) (hm : c ≤ maxLen) (hs : cur.size = c * sz) (ht : cur.toList.take (n * sz) = xs) : OwnW sz w B e (some ⟨g, 0, none⟩) n c xs := by
  refine ⟨?_, .inr ⟨g, c, cur, rfl, hB, hh, hle, hm, hs, ht⟩⟩
  rw [← ht, List.length_take, Array.length_toList, hs]
  exact Nat.min_eq_left (Nat.mul_le_mul_right _ hle)
theorem OwnW.lt (h : OwnW sz w B e A n c xs) {i : Nat} (hi : blk A i) : B ≤ i ∧ i < w.heap.size := by
  rcases h.cases with ⟨rfl, _⟩ | ⟨g, cur, rfl, hB, hg, _⟩
  · simp [blk] at hi
  · simp [blk] at hi; subst hi; exact ⟨hB, hg⟩
theorem OwnW.cap (h : OwnW sz w B e A n c xs) : n ≤ c ∧ c ≤ maxLen := by
  rcases h.cases with ⟨rfl, rfl, rfl, rfl⟩ | ⟨g, cur, rfl, hB, hg, _, h1, h2, _⟩
  · exact ⟨by simp, by simp⟩
  · exact ⟨h1, h2⟩
theorem OwnW.rd (h : OwnW sz w B e A n c xs) : Rd w A xs := fun j u hj => by
  rcases h.cases with ⟨rfl, rfl, rfl, rfl⟩ | ⟨g, cur, rfl, hB, hg, hh, h1, h2, h3, h4⟩
  · simp at hj
  · refine ⟨_, rfl, ?_⟩
    rw [add_lit', Nat.zero_add, cell_of_heap hh]
    rw [← h4, List.getElem?_take] at hj
    split at hj
    · simpa using hj
    · cases hj
theorem OwnW.keep (h : OwnW sz w B e A n c xs) (hk : ∀ i, blk A i → i < w.heap.size → w'.heap[i]? = w.heap[i]?) : OwnW sz w' B e A n c xs := by
  rcases h.cases with ⟨rfl, rfl, rfl, rfl⟩ | ⟨g, cur, rfl, hB, hg, hh, h1, h2, h3, h4⟩
  · exact OwnW.nil sz w' B e
  · exact OwnW.mk hB ((hk g rfl hg).trans hh) h1 h2 h3 h4
theorem OwnW.fr {S : Nat → Prop} (h : OwnW sz w B e A n c xs) (hf : Fr S w w') (ho : ∀ i, blk A i → ¬ S i) : OwnW sz w' B e A n c xs :=
  h.keep fun i hi hlt => hf.block i hlt (ho i hi)
theorem OwnW.ext (h : OwnW sz w B e A n c xs) (he : Ext w w') : OwnW sz w' B e A n c xs := h.keep fun i _ hlt => he.below.block i hlt
theorem OwnW.raise {B' : Nat} (h : OwnW sz w B e A n c xs) (hB : ∀ i, blk A i → B' ≤ i) : OwnW sz w B' e A n c xs := by
  rcases h.cases with ⟨rfl, rfl, rfl, rfl⟩ | ⟨g, cur, rfl, hb, hg, hh, h1, h2, h3, h4⟩
  · exact OwnW.nil sz w B' e
  · exact OwnW.mk (hB g rfl) hh h1 h2 h3 h4
theorem OwnW.ne_blk {e' : TypeId} {g : Nat} {cs : Array Value} {fz : Nat × Nat} (h : OwnW sz w B e A n c xs) (h' : w.heap[g]? = some (.cells cs e' fz)) (hne : e ≠ e') : ¬ blk A g := by
  intro hi
  rcases h.cases with ⟨rfl, _⟩ | ⟨g', cur, rfl, _, _, hh, _⟩
  · simp [blk] at hi
  · simp [blk] at hi
    subst hi
    rw [hh] at h'
    injection h' with h'
    injection h' with _ ht _
    exact hne ht
theorem OwnW.ne {sz' : Nat} {e' : TypeId} {A' : Option Addr} {n' c' : Nat} {xs' : List Value} {B' : Nat} (h : OwnW sz w B e A n c xs) (h' : OwnW sz' w B' e' A' n' c' xs') (hne : e ≠ e') {i : Nat} (hi : blk A i) : ¬ blk A' i := by
  intro hi'
  rcases h'.cases with ⟨rfl, _⟩ | ⟨g', cur, rfl, _, _, hh, _⟩
  · simp [blk] at hi'
  · simp [blk] at hi'
    subst hi'
    exact h.ne_blk hh hne hi
theorem OwnW.frozen {g : Nat} (h : OwnW sz w B e (some ⟨g, 0, none⟩) n c xs) (j : Nat) : w.frozen? ⟨g, j, none⟩ = false := by
  rcases h.cases with ⟨h0, _⟩ | ⟨g', cur, hg', hB, hg, hh, h1, h2, h3, h4⟩
  · cases h0
  · injection hg' with hg'; injection hg' with hg'; subst hg'
    exact frozen_of_heap hh j
theorem OwnW.some_ (h : OwnW sz w B e A n c xs) (hx : 0 < n) : ∃ g, A = some ⟨g, 0, none⟩ := by
  rcases h.cases with ⟨_, rfl, _⟩ | ⟨g, cur, rfl, _⟩
  · omega
  · exact ⟨g, rfl⟩
end

/-- What an append leaves. -/
def GrewW (sz : Nat) (w : World) (B : Nat) (e : TypeId) (A : Option Addr) (n : Nat) (xs : List Value) (v' : Value) (w' : World) : Prop :=
  ∃ A' c', v' = .slice A' n c' ∧ OwnW sz w' B e A' n c' xs ∧ Fr (blk A) w w' ∧ (∀ i, blk A' i → blk A i ∨ w.heap.size ≤ i)

section
variable {P : Program} (w : World)
theorem grewW_new {sz B : Nat} {e : TypeId} {A : Option Addr} {n m : Nat} (z : Value) (hz : z.cells.size = sz) (xs news : List Value) (old : Nat) (hx : xs.length = n * sz) (hn : news.length = m * sz) (h63 : n + m ≤ maxLen) (hB : B ≤ w.heap.size) :
    GrewW sz w B e A (n + m) (xs ++ news) (.slice (some ⟨w.heap.size, 0, none⟩) (n + m) (grownCap w (n + m) old e))
      (w.drew.alloc (.cells (xs.toArray ++ news.toArray ++ Builtin.zeroCells z.cells (grownCap w (n + m) old e - (n + m))) e)) := by
  have hge := grownCap_ge w (n + m) old e
  have hcm : grownCap w (n + m) old e ≤ maxLen := grownCap_le_maxLen w _ old e h63
  have hl : (xs ++ news).length = (n + m) * sz := by rw [List.length_append, hx, hn, Nat.add_mul]
  refine ⟨_, _, rfl, OwnW.mk hB (heap_alloc_new w.drew _) hge hcm ?_ ?_, ⟨rfl, rfl, rfl, by simp, fun k hk _ => heap_alloc_old w.drew _ hk⟩, fun i hi => .inr (by simp [blk] at hi; omega)⟩
  · simp only [Array.size_append, List.size_toArray, size_zeroCells, hz, hx, hn, ← Nat.add_mul]
    congr 1
    omega
  · simp only [Array.toList_append, List.append_assoc]
    rw [← List.append_assoc, ← hl]
    exact List.take_left

theorem run_append_W (t ty e : TypeId) (i : TypeInfo) (z : Value) (sz bytes : Nat) (ht : P.underlying t = some (.slice e)) (hi : P.info? e = some i) (hz : i.zero = some z)
    (hsize : i.size = sz) (hsz : 0 < sz) (hby : i.bytes = bytes) (hzs : z.cells.size = sz) (B : Nat) (A : Option Addr) (n c : Nat) (xs : List Value) (hown : OwnW sz w B e A n c xs)
    (D : Option Addr) (m cc : Nat) (news : List Value) (hl : news.length = m * sz) (hr : Rd w D news) (h1 : ∀ u ∈ news, u.oneCell' = true)
    (h63 : n + m ≤ maxLen) (hbytes : (n + m) * bytes ≤ 140737488355328) (hbase : B ≤ w.heap.size) :
    ∃ v' w', (Builtin.append_ #[t, t] ty #[.slice A n c, .slice D m cc]).run P w = .ok v' w' ∧ GrewW sz w B e A (n + m) (xs ++ news) v' w' := by
  subst hsize
  subst hby
  have hsmall : n + m ≤ 9223372036854775807 := by simp only [maxLen] at h63; omega
  by_cases hm : m = 0
  · subst hm
    have hn : news = [] := List.eq_nil_of_length_eq_zero (by simpa using hl)
    subst hn
    refine ⟨.slice A n c, w, ?_, A, c, by simp, by simpa using hown, Fr.refl _ _, fun _ h => .inl h⟩
    have hle := hown.cap.1
    rcases hown.cases with ⟨rfl, rfl, rfl, rfl⟩ | ⟨g, cur, rfl, hB, hg, hh, hle, hm, hs, htk⟩ <;> cases D <;>
      simp [Builtin.append_, run_underlying ht, sizeOf, typeInfo, hi, Builtin.lenOf, Builtin.firstCells, loadCells, loadCellsFrom, storeCells, hle]
  · have hpos : 0 < news.length := by rw [hl]; exact Nat.mul_pos (by omega) hsz
    obtain ⟨ad, rfl, _⟩ := hr 0 news[0] (List.getElem?_eq_getElem hpos)
    have hnews : ∀ j u, news[j]? = some u → w.cell? (ad.add j) = some u := fun j u hj => by
      obtain ⟨ad', ha, hc⟩ := hr j u hj
      injection ha with ha; subst ha; exact hc
    rcases hown.cases with ⟨rfl, rfl, rfl, rfl⟩ | ⟨g, cur, rfl, hB, hg, hh, hle, hcm, hs, htk⟩
    · have hr := run_append_nil (P := P) w t ty e i z ht hi hz ad m cc news hl hnews (by omega) (by omega) (by simp at hbytes; omega)
      have hg := grewW_new w (sz := i.size) (B := B) (e := e) (A := none) (n := 0) (m := m) z hzs [] news 0 (by simp) hl h63 hbase
      simp only [Nat.zero_add, List.nil_append, Array.empty_append] at hg hr ⊢
      exact ⟨_, _, hr, hg⟩
    · by_cases hroom : n + m ≤ c
      · have hfit : n * i.size + news.length ≤ cur.size := by rw [hl, hs, ← Nat.add_mul]; exact Nat.mul_le_mul_right _ hroom
        have hr := run_append_room (P := P) w t ty e i ht hi g n c cur hh ad m cc news hl hnews h1 hroom hfit
        have hxl : xs.length = n * i.size := hown.len
        refine ⟨_, _, hr, _, _, rfl, OwnW.mk hB (setRow_heap w g cur _ e _ hh) hroom hcm ?_ ?_, ⟨rfl, rfl, rfl, by simp [World.setRow], fun k _ hk => setRow_other w g k _ (fun e => hk (by simp [blk, e]))⟩, fun _ h => .inl h⟩
        · simp only [List.size_toArray, List.length_append, List.length_take, List.length_drop, Array.length_toList]
          omega
        · rw [htk, show (n + m) * i.size = (xs ++ news).length by rw [List.length_append, hxl, hl, Nat.add_mul]]
          exact List.take_left
      · have holds : ∀ j u, xs[j]? = some u → w.cell? ((⟨g, 0, none⟩ : Addr).add j) = some u := fun j u hj => by
          obtain ⟨ad', ha, hc⟩ := hown.rd j u hj
          injection ha with ha; subst ha; exact hc
        have hr := run_append_grow (P := P) w t ty e i z ht hi hz ⟨g, 0, none⟩ n c xs hown.len holds ad m cc news hl hnews (by omega) (by omega) (growslice_fits (by omega) hbytes)
        exact ⟨_, _, hr, grewW_new w z hzs xs news c hown.len hl h63 hbase⟩
end
end Go.Proofs.YtigljihohpdpeaaGreatDoor
namespace Go.Proofs.YtigljihohpdpeaaGreatDoor
open Go.RowKit

theorem infoLetP : (Tryz.prog.info? 44).map (fun i => (i.zero.map (fun z => z.cells.size), i.size, i.bytes)) = some (some 23, 23, 264) := by kernel_rfl
def flat (ls : List Let) : List Value := ls.flatMap fun l => l.arr.toList
theorem arr_len (l : Let) : l.arr.toList.length = 23 := by simp [Let.arr]
theorem flat_length (ls : List Let) : (flat ls).length = ls.length * 23 := by
  induction ls with
  | nil => rfl
  | cons l ls ih => simp only [flat, List.flatMap_cons, List.length_append, List.length_cons, arr_len] at ih ⊢; omega
theorem flat_append (ls ms : List Let) : flat (ls ++ ms) = flat ls ++ flat ms := by simp [flat]
theorem flat_get {ls : List Let} {k : Nat} {l : Let} (h : ls[k]? = some l) {j : Nat} {u : Value} (hj : l.arr.toList[j]? = some u) : (flat ls)[k * 23 + j]? = some u := by
  induction ls generalizing k with
  | nil => simp at h
  | cons x xs ih =>
    have hl := (List.getElem?_eq_some_iff.1 hj).1
    rw [arr_len] at hl
    simp only [flat, List.flatMap_cons]
    cases k with
    | zero =>
      simp at h
      subst h
      rw [List.getElem?_append_left (by rw [arr_len]; omega)]
      simpa using hj
    | succ k =>
      rw [List.getElem?_append_right (by rw [arr_len]; omega), arr_len, show (k + 1) * 23 + j - 23 = k * 23 + j by omega]
      exact ih (by simpa using h)
theorem flat_inv {ls : List Let} {i : Nat} {u : Value} (h : (flat ls)[i]? = some u) : ∃ (k : Nat) (l : Let) (j : Nat), i = k * 23 + j ∧ ls[k]? = some l ∧ l.arr.toList[j]? = some u := by
  induction ls generalizing i with
  | nil => simp [flat] at h
  | cons x xs ih =>
    simp only [flat, List.flatMap_cons] at h
    by_cases hi : i < 23
    · rw [List.getElem?_append_left (by rw [arr_len]; omega)] at h
      exact ⟨0, x, i, by omega, rfl, h⟩
    · rw [List.getElem?_append_right (by rw [arr_len]; omega), arr_len] at h
      obtain ⟨k, l, j, h1, h2, h3⟩ := ih h
      exact ⟨k + 1, l, j, by omega, by simpa using h2, h3⟩
theorem flat_one (ls : List Let) : ∀ u ∈ flat ls, u.oneCell' = true := fun u hu => by
  obtain ⟨l, _, hl⟩ := List.mem_flatMap.1 hu
  exact l.one u (by simpa using hl)

/-- The letters ls lie one behind the other from A on. -/
def LetsIn (w : World) (A : Option Addr) (ls : List Let) : Prop := ∀ k l, ls[k]? = some l → ∃ b f, A = some ⟨b, f, none⟩ ∧ World.rangeAt w b (f + k * 23) l.arr.toList ∧ l.inW w
theorem LetsIn.nil (w : World) (A : Option Addr) : LetsIn w A [] := fun k l h => by simp at h
theorem LetsIn.at_ {w : World} {A : Option Addr} {ls : List Let} (h : LetsIn w A ls) {k : Nat} (hk : k < ls.length) : ∃ b f l, A = some ⟨b, f, none⟩ ∧ ls[k]? = some l ∧ World.rangeAt w b (f + k * 23) l.arr.toList ∧ l.inW w := by
  obtain ⟨b, f, h1, h2⟩ := h k _ (List.getElem?_eq_getElem hk)
  exact ⟨b, f, ls[k], h1, List.getElem?_eq_getElem hk, h2⟩
theorem LetsIn.ext {w w' : World} {A : Option Addr} {ls : List Let} (h : LetsIn w A ls) (he : Ext w w') : LetsIn w' A ls := fun k l hk => by
  obtain ⟨b, f, h1, h2, h3⟩ := h k l hk
  exact ⟨b, f, h1, fun j v hv => he.cell (h2 j v hv), h3.ext he⟩
theorem LetsIn.rd {w : World} {A : Option Addr} {ls : List Let} (h : LetsIn w A ls) : Rd w A (flat ls) := fun i u hu => by
  obtain ⟨k, l, j, rfl, h2, h3⟩ := flat_inv hu
  obtain ⟨b, f, h4, h5, _⟩ := h k l h2
  refine ⟨_, h4, ?_⟩
  rw [add_lit', ← Nat.add_assoc]
  exact h5 j u h3
theorem LetsIn.all {w : World} {A : Option Addr} {ls : List Let} (h : LetsIn w A ls) : ∀ l ∈ ls, l.inW w := fun l hl => by
  obtain ⟨k, hk⟩ := List.getElem?_of_mem hl
  obtain ⟨_, _, _, _, h1⟩ := h k l hk
  exact h1
theorem LetsIn.of {w : World} {b f : Nat} {ls : List Let} (h : Rd w (some ⟨b, f, none⟩) (flat ls)) (ha : ∀ l ∈ ls, l.inW w) : LetsIn w (some ⟨b, f, none⟩) ls := fun k l hk => by
  refine ⟨b, f, rfl, fun j v hv => ?_, ha l (List.mem_of_getElem? hk)⟩
  obtain ⟨ad, h1, h2⟩ := h _ _ (flat_get hk hv)
  injection h1 with h1
  subst h1
  rwa [add_lit', ← Nat.add_assoc] at h2
theorem LetsIn.own {w : World} {B c n : Nat} {e : TypeId} {A : Option Addr} {ls : List Let} (h : OwnW 23 w B e A n c (flat ls)) (ha : ∀ l ∈ ls, l.inW w) : LetsIn w A ls := by
  rcases h.cases with ⟨rfl, rfl, rfl, h0⟩ | ⟨g, cur, rfl, _⟩
  · have hl := flat_length ls
    rw [h0] at hl
    have : ls = [] := List.eq_nil_of_length_eq_zero (by simp at hl; omega)
    subst this
    exact LetsIn.nil w none
  · exact LetsIn.of h.rd ha

/-- What a letter's rows lie apart from. -/
structure Let.off (S : Nat → Prop) (l : Let) : Prop where
  w1 : l.want ≠ [] → Off S l.wA
  e1 : l.ents ≠ [] → Off S l.eA
  e2 : ∀ e ∈ l.ents, e.bs ≠ [] → Off S e.bA
  m1 : l.mems ≠ [] → Off S l.mA
  u1 : l.sums ≠ [] → Off S l.uA
  b1 : l.bs ≠ [] → Off S l.bA
theorem Rd.fr' {S : Nat → Prop} {w w' : World} {A : Option Addr} {xs : List Value} (h : Rd w A xs) (hf : Fr S w w') (ho : xs ≠ [] → Off S A) : Rd w' A xs := fun j u hj => by
  have hx : xs ≠ [] := by rintro rfl; simp at hj
  obtain ⟨ad, ha, hc⟩ := h j u hj
  exact ⟨ad, ha, hf.cell (by rw [add_block]; exact ho hx ad ha) hc⟩
theorem IdsIn.fr {S : Nat → Prop} {w w' : World} {A : Option Addr} {ps : List Id} (h : IdsIn w A ps) (hf : Fr S w w') (ho : ps ≠ [] → Off S A) : IdsIn w' A ps := fun j p hj => by
  have hx : ps ≠ [] := by rintro rfl; simp at hj
  obtain ⟨b, f, ha, h1, h2, h3⟩ := h j p hj
  have hb : ¬ S b := ho hx _ ha
  exact ⟨b, f, ha, hf.cell hb h1, hf.cell hb h2, hf.cell hb h3⟩
theorem EntsIn.fr {S : Nat → Prop} {w w' : World} {A : Option Addr} {es : List Ent} (h : EntsIn w A es) (hf : Fr S w w') (ho : es ≠ [] → Off S A) (ho2 : ∀ e ∈ es, e.bs ≠ [] → Off S e.bA) : EntsIn w' A es := fun j e hj => by
  have hx : es ≠ [] := by rintro rfl; simp at hj
  obtain ⟨b, f, ha, h1, h2, h3, h4, h5, h6⟩ := h j e hj
  have hb : ¬ S b := ho hx _ ha
  exact ⟨b, f, ha, hf.cell hb h1, hf.cell hb h2, hf.cell hb h3, hf.cell hb h4, h5.fr' hf (fun hn => ho2 e (List.mem_of_getElem? hj) (by rintro h0; rw [h0] at hn; exact hn rfl)), h6⟩
theorem map_ne {α β : Type} {f : α → β} {l : List α} (h : l.map f ≠ []) : l ≠ [] := by rintro rfl; exact h rfl
theorem Let.inW.fr {S : Nat → Prop} {w w' : World} {l : Let} (h : l.inW w) (hf : Fr S w w') (ho : l.off S) : l.inW w' :=
  ⟨h.w1.fr hf ho.w1, h.e1.fr hf ho.e1 ho.e2, h.m1.fr' hf fun hn => ho.m1 (map_ne hn), h.u1.fr' hf fun hn => ho.u1 (map_ne hn), h.b1.fr' hf fun hn => ho.b1 (map_ne hn), h.w2, h.e2, h.m2, h.u2, h.b2, h.u3⟩
theorem Rd.block_lt {w : World} {A : Option Addr} {xs : List Value} (h : Rd w A xs) (hx : xs ≠ []) : ∃ ad, A = some ad ∧ ad.block < w.heap.size := by
  cases xs with
  | nil => exact absurd rfl hx
  | cons x xs =>
    obtain ⟨ad, ha, hc⟩ := h 0 x rfl
    exact ⟨ad, ha, by have := World.block_lt_of_cell? w _ hc; rwa [add_block] at this⟩
theorem Rd.off_new {S T : Nat → Prop} {w : World} {A : Option Addr} {xs : List Value} (h : Rd w A xs) (hT : ∀ i, i < w.heap.size → T i → S i) (ho : xs ≠ [] → Off S A) (hx : xs ≠ []) : Off T A := fun ad ha hn => by
  obtain ⟨ad', ha', hl⟩ := h.block_lt hx
  rw [ha] at ha'
  injection ha' with ha'
  subst ha'
  exact ho hx ad ha (hT _ hl hn)
/-- A set that has no more of the blocks that are there. -/
theorem Let.off.new {S T : Nat → Prop} {w : World} {l : Let} (h : l.off S) (hi : l.inW w) (hT : ∀ i, i < w.heap.size → T i → S i) : l.off T := by
  refine ⟨fun hx ad ha hn => ?_, fun hx ad ha hn => ?_, fun e he hx => ?_, fun hx => hi.m1.off_new hT (fun h0 => h.m1 (map_ne h0)) (by simpa using hx), fun hx => hi.u1.off_new hT (fun h0 => h.u1 (map_ne h0)) (by simpa using hx), fun hx => hi.b1.off_new hT (fun h0 => h.b1 (map_ne h0)) (by simpa using hx)⟩
  · obtain ⟨b, f, ha', h1, _⟩ := hi.w1 0 _ (List.getElem?_eq_getElem (by cases hl : l.want with | nil => exact absurd hl hx | cons x xs => simp))
    rw [ha] at ha'
    injection ha' with ha'
    subst ha'
    exact h.w1 hx _ ha (hT _ (World.block_lt_of_cell? w _ h1) hn)
  · obtain ⟨b, f, ha', h1, _⟩ := hi.e1 0 _ (List.getElem?_eq_getElem (by cases hl : l.ents with | nil => exact absurd hl hx | cons x xs => simp))
    rw [ha] at ha'
    injection ha' with ha'
    subst ha'
    exact h.e1 hx _ ha (hT _ (World.block_lt_of_cell? w _ h1) hn)
  · obtain ⟨k, hk⟩ := List.getElem?_of_mem he
    obtain ⟨_, _, _, _, _, _, _, h6⟩ := hi.e1 k e hk
    exact h6.1.off_new hT (fun h0 => h.e2 e he (map_ne h0)) (by simpa using hx)
theorem Let.off.sub {S T : Nat → Prop} {l : Let} (h : l.off S) (hT : ∀ i, T i → S i) : l.off T :=
  ⟨fun hx ad ha hn => h.w1 hx ad ha (hT _ hn), fun hx ad ha hn => h.e1 hx ad ha (hT _ hn), fun e he hx ad ha hn => h.e2 e he hx ad ha (hT _ hn), fun hx ad ha hn => h.m1 hx ad ha (hT _ hn), fun hx ad ha hn => h.u1 hx ad ha (hT _ hn), fun hx ad ha hn => h.b1 hx ad ha (hT _ hn)⟩

set_option maxRecDepth 100000 in
theorem wpList_load_letAt {ops : Array Oper} {rest : List Oper} {o : Oper} {a : Act} {w : World} {Q : Exit → Act → World → Prop} (hw : Region.wanted o (yielded ops a.tmps) = true) (x : Operand) (ho : o.op = .load 44 x)
    (b f : Nat) (l : Let) (hx : a.eval x = .pointer (some ⟨b, f, none⟩)) (hg : World.rangeAt w b f l.arr.toList)
    (h : wpList Tryz.prog ops Q rest (a.put o.dst l.v) w) : wpList Tryz.prog ops Q (o :: rest) a w :=
  wpList_step fun K hK => by
    rw [if_pos hw]
    exact wp_load_mid 44 x ho b f hx l.arr.toList _ hg Tryz.underlying44 rfl (by rw [infoLet, arr_len]) (hK _ _ (by simpa [Let.v] using h))
set_option maxRecDepth 100000 in
theorem run_load_letAt {w : World} {b f : Nat} {l : Let} (hg : World.rangeAt w b f l.arr.toList) : (Instr.loadAt 44 (.pointer (some ⟨b, f, none⟩))).run Tryz.prog w = .ok l.v w := by
  have h := run_loadAt_mid (P := Tryz.prog) w b f 44 l.arr.toList _ hg Tryz.underlying44 rfl (by rw [infoLet, arr_len])
  simpa [Let.v] using h

theorem appendLets {ops : Array Oper} {rest : List Oper} {o : Oper} {a : Act} {Q : Exit → Act → World → Prop} (w : World) (hgd : o.guard = none) (s x : Operand)
    (ho : o.op = .call { callee := .builtin .append, args := #[s, x], argTypes := #[27, 27] })
    (B : Nat) (A : Option Addr) (n c : Nat) (us : List Let) (hs : a.eval s = .slice A n c) (hn : n = us.length) (hown : OwnW 23 w B 44 A us.length c (flat us))
    (D : Option Addr) (m cc : Nat) (news : List Let) (hx : a.eval x = .slice D m cc) (hm : m = news.length) (hr : Rd w D (flat news))
    (h63 : us.length + news.length ≤ 1000000) (hbase : B ≤ w.heap.size)
    (h : ∀ A' c' w', OwnW 23 w' B 44 A' (us ++ news).length c' (flat (us ++ news)) → Fr (blk A) w w' → (∀ i, blk A' i → blk A i ∨ w.heap.size ≤ i) → wpList Tryz.prog ops Q rest (a.put o.dst (.slice A' (us ++ news).length c')) w') : wpList Tryz.prog ops Q (o :: rest) a w := by
  subst hn hm
  refine wpList_plain hgd fun K hK => ?_
  obtain ⟨i0, hi, hz⟩ := Option.map_eq_some_iff.1 infoLetP
  simp only [Prod.mk.injEq] at hz
  obtain ⟨hz0, hz1, hz2⟩ := hz
  obtain ⟨z, hz3, hz4⟩ := Option.map_eq_some_iff.1 hz0
  obtain ⟨v', w', h1, A', c', rfl, h2, h3, h4⟩ := run_append_W (P := Tryz.prog) w 27 o.type 44 i0 z 23 264 Tryz.underlying27 hi hz3 hz1 (by omega) hz2 hz4 B A us.length c (flat us) hown D news.length cc (flat news) (flat_length news) hr (flat_one news) (by unfold maxLen; omega) (by omega) hbase
  have h5 := h A' c' w' (by rw [List.length_append, flat_append]; exact h2) h3 h4
  rw [List.length_append] at h5
  unfold Oper.wp execOp
  simp only [ho, resolve, invoke, builtin, Sem.run_bind, Sem.run_pure, Result.andThen_ok, List.map_toArray, List.map_cons, List.map_nil, hs, hx, h1]
  exact hK _ _ h5
end Go.Proofs.YtigljihohpdpeaaGreatDoor
