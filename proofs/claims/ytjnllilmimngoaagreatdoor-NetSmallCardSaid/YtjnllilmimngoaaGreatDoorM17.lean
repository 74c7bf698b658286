/-
  Rows of identities and of entries: as cells, one behind the other.
  own: a letter in memory of its own.
-/
import Derived.Test.YtjnllilmimngoaaGreatDoorM14
import Derived.Test.YtjnllilmimngoaaGreatDoorM16
namespace Go.Proofs.YtjnllilmimngoaaGreatDoor
open Go.RowKit

section
variable {α : Type} {f : α → List Value} {m : Nat}
def fl (f : α → List Value) (xs : List α) : List Value := xs.flatMap f
theorem fl_length (hf : ∀ x, (f x).length = m) (xs : List α) : (fl f xs).length = xs.length * m := by
  induction xs with
  | nil => simp [fl]
  | cons x xs ih =>
    simp only [fl, List.flatMap_cons, List.length_append, List.length_cons, hf] at ih ⊢
    rw [ih, Nat.add_mul]
    omega
theorem fl_get (hf : ∀ x, (f x).length = m) {xs : List α} {k : Nat} {x : α} (h : xs[k]? = some x) {j : Nat} {u : Value} (hj : (f x)[j]? = some u) : (fl f xs)[k * m + j]? = some u := by
  induction xs generalizing k with
  | nil => simp at h
  | cons y ys ih =>
    have hl := (List.getElem?_eq_some_iff.1 hj).1
    rw [hf] at hl
    simp only [fl, List.flatMap_cons]
    cases k with
    | zero =>
      simp at h
      subst h
      rw [List.getElem?_append_left (by rw [hf]; omega)]
      simpa using hj
    | succ k =>
      rw [Nat.add_mul, List.getElem?_append_right (by rw [hf]; omega), hf, show k * m + 1 * m + j - m = k * m + j by omega]
      exact ih (by simpa using h)
theorem fl_inv (hf : ∀ x, (f x).length = m) {xs : List α} {i : Nat} {u : Value} (h : (fl f xs)[i]? = some u) : ∃ (k : Nat) (x : α) (j : Nat), i = k * m + j ∧ xs[k]? = some x ∧ (f x)[j]? = some u := by
  induction xs generalizing i with
  | nil => simp [fl] at h
  | cons y ys ih =>
    simp only [fl, List.flatMap_cons] at h
    by_cases hi : i < m
    · rw [List.getElem?_append_left (by rw [hf]; omega)] at h
      exact ⟨0, y, i, by omega, rfl, h⟩
    · rw [List.getElem?_append_right (by rw [hf]; omega), hf] at h
      obtain ⟨k, x, j, h1, h2, h3⟩ := ih h
      exact ⟨k + 1, x, j, by rw [Nat.add_mul]; omega, by simpa using h2, h3⟩
theorem fl_set (hf : ∀ x, (f x).length = m) {xs : List α} {k : Nat} {x y : α} (h : xs[k]? = some x) {j : Nat} {u : Value} (hy : (f x).set j u = f y) (hj : j < m) : (fl f xs).set (k * m + j) u = fl f (xs.set k y) := by
  induction xs generalizing k with
  | nil => simp at h
  | cons z zs ih =>
    simp only [fl, List.flatMap_cons]
    cases k with
    | zero =>
      simp at h
      subst h
      rw [Nat.zero_mul, Nat.zero_add, List.set_append_left _ _ (by rw [hf]; omega), hy]
      simp
    | succ k =>
      rw [Nat.add_mul, List.set_append_right _ _ (by rw [hf]; omega), hf, show k * m + 1 * m + j - m = k * m + j by omega]
      have := ih (k := k) (by simpa using h)
      simp only [fl] at this
      rw [this]
      simp
end
theorem idc_len (p : Id) : p.cells.length = 3 := rfl
theorem entc_len (e : Ent) : e.cells.length = 4 := rfl
theorem IdsIn.rd {w : World} {A : Option Addr} {ps : List Id} (h : IdsIn w A ps) : Rd w A (fl Id.cells ps) := fun i u hu => by
  obtain ⟨k, p, j, rfl, h2, h3⟩ := fl_inv idc_len hu
  obtain ⟨b, f, h4, c0, c1, c2⟩ := h k p h2
  refine ⟨_, h4, ?_⟩
  rw [add_lit', ← Nat.add_assoc]
  match j, h3 with
  | 0, h3 => simp [Id.cells] at h3; subst h3; exact c0
  | 1, h3 => simp [Id.cells] at h3; subst h3; exact c1
  | 2, h3 => simp [Id.cells] at h3; subst h3; exact c2
  | j + 3, h3 => simp [Id.cells] at h3
theorem EntsIn.rd {w : World} {A : Option Addr} {es : List Ent} (h : EntsIn w A es) : Rd w A (fl Ent.cells es) := fun i u hu => by
  obtain ⟨k, p, j, rfl, h2, h3⟩ := fl_inv entc_len hu
  obtain ⟨b, f, h4, c0, c1, c2, c3, _⟩ := h k p h2
  refine ⟨_, h4, ?_⟩
  rw [add_lit', ← Nat.add_assoc]
  match j, h3 with
  | 0, h3 => simp [Ent.cells] at h3; subst h3; exact c0
  | 1, h3 => simp [Ent.cells] at h3; subst h3; exact c1
  | 2, h3 => simp [Ent.cells] at h3; subst h3; exact c2
  | 3, h3 => simp [Ent.cells] at h3; subst h3; exact c3
  | j + 4, h3 => simp [Ent.cells] at h3
theorem ids_one (ps : List Id) : ∀ u ∈ fl Id.cells ps, u.oneCell' = true := fun u hu => by
  obtain ⟨p, _, hp⟩ := List.mem_flatMap.1 hu
  simp only [Id.cells, List.mem_cons, List.not_mem_nil, or_false] at hp
  rcases hp with rfl | rfl | rfl <;> rfl
theorem ents_one (es : List Ent) : ∀ u ∈ fl Ent.cells es, u.oneCell' = true := fun u hu => by
  obtain ⟨p, _, hp⟩ := List.mem_flatMap.1 hu
  simp only [Ent.cells, List.mem_cons, List.not_mem_nil, or_false] at hp
  rcases hp with rfl | rfl | rfl | rfl <;> rfl
theorem Rd.at0 {w : World} {g : Nat} {xs : List Value} (h : Rd w (some ⟨g, 0, none⟩) xs) {i : Nat} {u : Value} (hi : xs[i]? = some u) : w.cell? ⟨g, i, none⟩ = some u := by
  obtain ⟨ad, h1, h2⟩ := h i u hi
  injection h1 with h1
  subst h1
  rwa [add_lit', Nat.zero_add] at h2
theorem IdsIn.of {w : World} {B n c : Nat} {e : TypeId} {A : Option Addr} {ps : List Id} (h : OwnW 3 w B e A n c (fl Id.cells ps)) : IdsIn w A ps := fun k p hk => by
  rcases h.cases with ⟨rfl, rfl, rfl, h0⟩ | ⟨g, cur, rfl, _⟩
  · have := fl_get idc_len hk (j := 0) (u := .int .i64 p.i) rfl
    rw [h0] at this
    simp at this
  · have hr := h.rd
    have g0 := hr.at0 (fl_get idc_len hk (j := 0) (u := .int .i64 p.i) rfl)
    have g1 := hr.at0 (fl_get idc_len hk (j := 1) (u := .int .i64 p.t) rfl)
    have g2 := hr.at0 (fl_get idc_len hk (j := 2) (u := .int .i64 p.k) rfl)
    exact ⟨g, 0, rfl, by rw [Nat.zero_add]; exact g0, by rw [Nat.zero_add]; exact g1, by rw [Nat.zero_add]; exact g2⟩
theorem EntsIn.of {w : World} {B n c : Nat} {e : TypeId} {A : Option Addr} {es : List Ent} (h : OwnW 4 w B e A n c (fl Ent.cells es)) (hi : ∀ e ∈ es, e.inW w) : EntsIn w A es := fun k p hk => by
  rcases h.cases with ⟨rfl, rfl, rfl, h0⟩ | ⟨g, cur, rfl, _⟩
  · have := fl_get entc_len hk (j := 0) (u := .int .i64 p.i) rfl
    rw [h0] at this
    simp at this
  · have hr := h.rd
    have g0 := hr.at0 (fl_get entc_len hk (j := 0) (u := .int .i64 p.i) rfl)
    have g1 := hr.at0 (fl_get entc_len hk (j := 1) (u := .int .i64 p.t) rfl)
    have g2 := hr.at0 (fl_get entc_len hk (j := 2) (u := .int .i64 p.k) rfl)
    have g3 := hr.at0 (fl_get entc_len hk (j := 3) (u := .slice p.bA p.bs.length p.bc) rfl)
    exact ⟨g, 0, rfl, by rw [Nat.zero_add]; exact g0, by rw [Nat.zero_add]; exact g1, by rw [Nat.zero_add]; exact g2, by rw [Nat.zero_add]; exact g3, hi p (List.mem_of_getElem? hk)⟩
/-- a store into a row. -/
theorem OwnW.set {sz : Nat} {w : World} {B n c : Nat} {e : TypeId} {g : Nat} {xs : List Value} (h : OwnW sz w B e (some ⟨g, 0, none⟩) n c xs) (j : Nat) (u : Value) : OwnW sz (w.setCell ⟨g, j, none⟩ u) B e (some ⟨g, 0, none⟩) n c (xs.set j u) := by
  rcases h.cases with ⟨h0, _⟩ | ⟨g', cur, hg', hB, hg, hh, h1, h2, h3, h4⟩
  · cases h0
  · injection hg' with hg'; injection hg' with hg'; subst hg'
    refine OwnW.mk (cur := cur.setIfInBounds j u) hB ?_ h1 h2 (by simpa using h3) ?_
    · simp [World.setCell, Array.getElem?_modify, hh]
    · rw [Array.toList_setIfInBounds]
      conv => rhs; rw [← h4]
      rw [List.take_set]
theorem OwnW.offB {sz : Nat} {w : World} {B n c : Nat} {e : TypeId} {A : Option Addr} {xs : List Value} (h : OwnW sz w B e A n c xs) : Off (fun i => i < B) A := fun ad ha hn => by
  have := (h.lt (i := ad.block) (by simp [blk, ha])).1
  omega
end Go.Proofs.YtjnllilmimngoaaGreatDoor
namespace Go.Proofs.YtjnllilmimngoaaGreatDoor
open Go.RowKit

/-- An empty row has no spare room. -/
def Let.tight (l : Let) : Prop := (l.want = [] → l.wc = 0) ∧ (l.ents = [] → l.ec = 0) ∧ (l.mems = [] → l.mc = 0) ∧ (l.sums = [] → l.uc = 0) ∧ (l.bs = [] → l.bc = 0)
/-- A letter whose rows lie in memory of its own. -/
def Let.fresh (N : Nat) (l : Let) : Prop := l.off (fun i => i < N) ∧ l.tight
theorem Let.fresh.le {N M : Nat} {l : Let} (h : l.fresh N) (hM : M ≤ N) : l.fresh M := ⟨h.1.sub fun _ hi => Nat.lt_of_lt_of_le hi hM, h.2⟩
def OwnP (l : Let) (w : World) (e : Ending) (w' : World) : Prop := ∃ l' : Let, e = .returned l'.v ∧ l'.cont = l.cont ∧ l'.inW w' ∧ l'.fresh w.heap.size ∧ Ext w w'
def RowR (sz : Nat) (B : Nat) (et : TypeId) (n : Nat) (xs : List Value) (u : Value) (w : World) : Prop := ∃ A c, u = .slice A n c ∧ OwnW sz w B et A n c xs ∧ (n = 0 → c = 0)
theorem RowR.up {sz B n : Nat} {et : TypeId} {xs : List Value} {u : Value} : Stab.Up Ext (RowR sz B et n xs u) := fun w w' h he => by
  obtain ⟨A, c, h1, h2, h3⟩ := h
  exact ⟨A, c, h1, h2.ext he, h3⟩
theorem RowR.inj {sz B n c : Nat} {et : TypeId} {xs : List Value} {A : Option Addr} {w : World} (h : RowR sz B et n xs (.slice A n c) w) : OwnW sz w B et A n c xs := by
  obtain ⟨A', c', h1, h2, _⟩ := h
  injection h1 with h3 _ h4
  subst h3 h4
  exact h2
theorem RowR.z {sz B n c : Nat} {et : TypeId} {xs : List Value} {A : Option Addr} {w : World} (h : RowR sz B et n xs (.slice A n c) w) : n = 0 → c = 0 := by
  obtain ⟨A', c', h1, _, h2⟩ := h
  injection h1 with h3 _ h4
  subst h3 h4
  exact h2
/-- The entries of which the first k have bodies of their own. -/
def EsOk (es es' : List Ent) (k B : Nat) (w : World) : Prop := es'.length = es.length ∧ ∀ j e, es[j]? = some e → ∃ e', es'[j]? = some e' ∧ e'.cont = e.cont ∧ (j < k → OwnW 1 w B 5 e'.bA e'.bs.length e'.bc (e'.bs.map (.int .u8))) ∧ (k ≤ j → e' = e)
def OnRel (l : Let) (w W3 : World) (B : Nat) (A3 : Option Addr) (c3 : Nat) (i : Value) (wr : World) : Prop :=
  ∃ (k : Nat) (es' : List Ent), k ≤ l.ents.length ∧ i = .int .i64 k ∧ EsOk l.ents es' k w.heap.size wr ∧ OwnW 4 wr B 121 A3 l.ents.length c3 (fl Ent.cells es') ∧ Fr (blk A3) W3 wr
theorem wpList_load_letW {ops : Array Oper} {rest : List Oper} {o : Oper} {a : Act} {w : World} {Q : Exit → Act → World → Prop} (hw : Region.wanted o (yielded ops a.tmps) = true) (x : Operand) (ho : o.op = .load 35 x)
    (b : Nat) (l : Let) (hx : a.eval x = .pointer (some ⟨b, 0, none⟩)) (hg : w.heap[b]? = some (.cells l.arr 35))
    (h : wpList Tryz.prog ops Q rest (a.put o.dst l.v) w) : wpList Tryz.prog ops Q (o :: rest) a w :=
  wpList_step fun K hK => by
    rw [if_pos hw]
    exact wp_load_row 35 x ho b hx 35 l.arr (0, 0) _ hg Tryz.underlying35 rfl (by rw [infoLet]; rfl) (hK _ _ h)
theorem arr_set3 (l : Let) (A1 A2 A3 : Option Addr) (c1 c2 c3 : Nat) : ((l.arr.setIfInBounds 11 (.slice A1 l.want.length c1)).setIfInBounds 22 (.slice A2 l.bs.length c2)).setIfInBounds 14 (.slice A3 l.ents.length c3) = Let.arr { l with wA := A1, wc := c1, bA := A2, bc := c2, eA := A3, ec := c3 } := by
  simp [Let.arr]
theorem arr_set2 (l : Let) (A4 A5 : Option Addr) (c4 c5 : Nat) : (l.arr.setIfInBounds 18 (.slice A4 l.mems.length c4)).setIfInBounds 20 (.slice A5 l.sums.length c5) = Let.arr { l with mA := A4, mc := c4, uA := A5, uc := c5 } := by
  simp [Let.arr]
set_option maxRecDepth 100000 in
set_option maxHeartbeats 4000000 in
theorem own_any (l : Let) (w : World) (hin : l.inW w) (hs : l.small) : Calls Tryz.prog 41 #[l.v] w (OwnP l w) := by
  have H1 := Lib.hid (fun w' (h : Ext w w') => cloneIds_any l.wA l.want.length l.wc (fl Id.cells l.want) w' (fl_length idc_len _) (hin.w1.ext h).rd (ids_one _) hs.s1)
  have H2 := Lib.hid (fun w' (h : Ext w w') => cloneBytes_any l.bA l.bs.length l.bc (l.bs.map (.int .u8)) w' (by simp) (hin.b1.ext h) (one_int .u8 l.bs) hs.s6)
  have H3 := Lib.hid (fun w' (h : Ext w w') => cloneEnts_any l.eA l.ents.length l.ec (fl Ent.cells l.ents) w' (fl_length entc_len _) (hin.e1.ext h).rd (ents_one _) hs.s2)
  have H4 := Lib.hid (fun w' (h : Ext w w') => cloneInts_any l.mA l.mems.length l.mc (l.mems.map (.int .i64)) w' (by simp) (hin.m1.ext h) (one_int .i64 l.mems) hs.s4)
  have H5 := Lib.hid (fun w' (h : Ext w w') => cloneLimbs_any l.uA l.sums.length l.uc (l.sums.map (.int .u32)) w' (by simp) (hin.u1.ext h) (one_int .u32 l.sums) hs.s5)
  have HI := Lib.hid hin
  have HS := Lib.hid hs
  have hV : l.v = .agg l.arr := rfl
  rw [hV]
  clear hin hs hV
  have HB0 := Lib.hid (heap0 w (.cells l.arr 35) (.cells voteZ.arr 35))
  have HB1 := Lib.hid (heap1 w (.cells l.arr 35) (.cells voteZ.arr 35))
  have HE0 := Lib.hid (((Ext.refl w).alloc (.cells l.arr 35)).alloc (.cells voteZ.arr 35))
  go_enter Tryz.func41, Tryz.ntmps41
  go_wp2_with fail
  change Code.wp _ _ _ _ ((w.alloc (.cells l.arr 35)).alloc (.cells voteZ.arr 35))
  generalize (w.alloc (.cells l.arr 35)).alloc (.cells voteZ.arr 35) = W at *
  have hWs : w.heap.size ≤ W.heap.size := HE0.out.sz
  refine Stab.wp_region_lexTail 10 Ext (Ext W) (fun _ => True) (by kernel_rfl) (by kernel_rfl) (fun _ _ h => h) (fun _ _ h k => Ext.trans h k) (fun _ _ _ _ => trivial) ((Ext.refl _).drew) trivial ?_
  simp only [Stab.zipL, Nat.reduceAdd, List.take, List.drop]
  iterate 2 (refine Stab.wpX_val rfl rfl ?_; apply Exists.intro; refine ⟨fun wx hC _ => ?_, ?_⟩; (have r := cell_of_heap (hC.blk HB0.out); go_simp; exact ⟨Ext.refl _, rfl⟩); simp only [Act.put, List.setIfInBounds_toArray, List.set_cons_zero, List.set_cons_succ])
  refine Stab.wpX_call (RowR 3 W.heap.size 26 l.want.length (fl Id.cells l.want)) (fun _ _ => True) rfl rfl (fun _ => RowR.up) (fun _ _ _ _ _ => trivial) ?_ ?_
  · intro wx hC _ hF
    go_simp
    refine ⟨rfl, ?_⟩
    refine (H1.out _ (HE0.out.trans hC)).mono ?_
    rintro ev w9 ⟨A1, c1, rfl, hO, hE, hz⟩
    exact ⟨hE, A1, c1, rfl, hO.raise fun i hi => Nat.le_trans hC.sz (hO.lt hi).1, hz⟩
  rintro ux ⟨_, _, ⟨A1, c1, rfl, -⟩, _⟩
  simp only [Act.put, List.setIfInBounds_toArray, List.set_cons_zero, List.set_cons_succ]
  iterate 2 (refine Stab.wpX_val rfl rfl ?_; apply Exists.intro; refine ⟨fun wx hC _ => ?_, ?_⟩; (have r := cell_of_heap (hC.blk HB0.out); go_simp; exact ⟨Ext.refl _, rfl⟩); simp only [Act.put, List.setIfInBounds_toArray, List.set_cons_zero, List.set_cons_succ])
  refine Stab.wpX_call (RowR 1 W.heap.size 5 l.bs.length (l.bs.map (.int .u8))) (fun _ _ => True) rfl rfl (fun _ => RowR.up) (fun _ _ _ _ _ => trivial) ?_ ?_
  · intro wx hC _ hF
    go_simp
    refine ⟨rfl, ?_⟩
    refine (H2.out _ (HE0.out.trans hC)).mono ?_
    rintro ev w9 ⟨A2, c2, rfl, hO, hE, hz⟩
    exact ⟨hE, A2, c2, rfl, hO.raise fun i hi => Nat.le_trans hC.sz (hO.lt hi).1, hz⟩
  rintro ux ⟨_, _, ⟨A2, c2, rfl, -⟩, _⟩
  simp only [Act.put, List.setIfInBounds_toArray, List.set_cons_zero, List.set_cons_succ]
  iterate 2 (refine Stab.wpX_val rfl rfl ?_; apply Exists.intro; refine ⟨fun wx hC _ => ?_, ?_⟩; (have r := cell_of_heap (hC.blk HB0.out); go_simp; exact ⟨Ext.refl _, rfl⟩); simp only [Act.put, List.setIfInBounds_toArray, List.set_cons_zero, List.set_cons_succ])
  refine Stab.wpX_call (RowR 4 W.heap.size 121 l.ents.length (fl Ent.cells l.ents)) (fun _ _ => True) rfl rfl (fun _ => RowR.up) (fun _ _ _ _ _ => trivial) ?_ ?_
  · intro wx hC _ hF
    go_simp
    refine ⟨rfl, ?_⟩
    refine (H3.out _ (HE0.out.trans hC)).mono ?_
    rintro ev w9 ⟨A3, c3, rfl, hO, hE, hz⟩
    exact ⟨hE, A3, c3, rfl, hO.raise fun i hi => Nat.le_trans hC.sz (hO.lt hi).1, hz⟩
  rintro ux ⟨_, _, ⟨A3, c3, rfl, -⟩, _⟩
  simp only [Act.put, List.setIfInBounds_toArray, List.set_cons_zero, List.set_cons_succ]
  (refine Stab.wpX_val rfl rfl ?_; apply Exists.intro; refine ⟨fun wx hC _ => ?_, ?_⟩; (go_simp; exact ⟨Ext.refl _, rfl⟩); simp only [Act.put, List.setIfInBounds_toArray, List.set_cons_zero, List.set_cons_succ])
  refine Stab.wpX_end fun w8 hC8 _ hF8 => ?_
  have O1 := RowR.inj ((hF8 2).1.1.2 rfl)
  have Z1 := Lib.hid (RowR.z ((hF8 2).1.1.2 rfl))
  have Z2 := Lib.hid (RowR.z ((hF8 5).1.2 rfl))
  have Z3 := Lib.hid (RowR.z ((hF8 8).2 rfl))
  have O2 := RowR.inj ((hF8 5).1.2 rfl)
  have O3 := RowR.inj ((hF8 8).2 rfl)
  have g0 := hC8.blk HB0.out
  have g1 := hC8.blk HB1.out
  have HE8 := Lib.hid (HE0.out.trans hC8)
  clear hC8 hF8
  have c11 : w8.cell? ⟨w.heap.size, 11, none⟩ = some (.slice l.wA l.want.length l.wc) := by rw [cell_of_heap g0]; rfl
  have c22 : w8.cell? ⟨w.heap.size, 22, none⟩ = some (.slice l.bA l.bs.length l.bc) := by rw [cell_of_heap g0]; rfl
  have c14 : w8.cell? ⟨w.heap.size, 14, none⟩ = some (.slice l.eA l.ents.length l.ec) := by rw [cell_of_heap g0]; rfl
  have f0 := frozen_of_heap g0
  have G0 := Lib.hid g0
  have G1 := Lib.hid g1
  have P1 := Lib.hid O1
  have P2 := Lib.hid O2
  have P3 := Lib.hid O3
  clear O1 O2 O3 g0 g1
  go_wp2_with fail
  obtain ⟨l1, hl1⟩ : ∃ l1 : Let, l1 = { l with wA := A1, wc := c1, bA := A2, bc := c2, eA := A3, ec := c3 } := ⟨_, rfl⟩
  have g2 : (((w8.setCell ⟨w.heap.size, 11, none⟩ (.slice A1 l.want.length c1)).setCell ⟨w.heap.size, 22, none⟩ (.slice A2 l.bs.length c2)).setCell ⟨w.heap.size, 14, none⟩ (.slice A3 l.ents.length c3)).heap[w.heap.size]? = some (.cells l1.arr 35) := by
    rw [heap_set (heap_set (heap_set G0.out)), hl1, arr_set3]
  have fB : Fr (isB w.heap.size) w8 (((w8.setCell ⟨w.heap.size, 11, none⟩ (.slice A1 l.want.length c1)).setCell ⟨w.heap.size, 22, none⟩ (.slice A2 l.bs.length c2)).setCell ⟨w.heap.size, 14, none⟩ (.slice A3 l.ents.length c3)) := (((Fr.refl (isB w.heap.size) w8).set (p := ⟨w.heap.size, 11, none⟩) (.inl rfl) _).set (p := ⟨w.heap.size, 22, none⟩) (.inl rfl) _).set (p := ⟨w.heap.size, 14, none⟩) (.inl rfl) _
  generalize (((w8.setCell ⟨w.heap.size, 11, none⟩ (.slice A1 l.want.length c1)).setCell ⟨w.heap.size, 22, none⟩ (.slice A2 l.bs.length c2)).setCell ⟨w.heap.size, 14, none⟩ (.slice A3 l.ents.length c3)) = W2 at *
  have Q1 := Lib.hid (P1.out.fr fB fun i hi e => P1.out.ne_blk G0.out (by decide) (by rw [← e]; exact hi))
  have Q2 := Lib.hid (P2.out.fr fB fun i hi e => P2.out.ne_blk G0.out (by decide) (by rw [← e]; exact hi))
  have Q3 := Lib.hid (P3.out.fr fB fun i hi e => P3.out.ne_blk G0.out (by decide) (by rw [← e]; exact hi))
  have G3 := Lib.hid ((fB.block (w.heap.size + 1) (heap_lt G1.out) (by unfold isB; omega)).trans G1.out)
  have HE2 := Lib.hid (((Fr.ofExt (isB w.heap.size) HE8.out).trans fB (fun _ _ h => h)).toExt (fun i hi => by unfold isB at hi; omega))
  have G2 := Lib.hid g2
  have hW2 : w.heap.size ≤ W2.heap.size := HE2.out.sz
  clear fB P1 P2 P3 G0 G1 HE8 g2 c11 c22 c14 f0 HB0 HB1 HE0
  refine Stab.wp_region_lexTail 10 Ext (Ext W2) (fun _ => True) (by kernel_rfl) (by kernel_rfl) (fun _ _ h => h) (fun _ _ h k => Ext.trans h k) (fun _ _ _ _ => trivial) ((Ext.refl _).drew) trivial ?_
  simp only [Stab.zipL, Nat.reduceAdd, List.take, List.drop]
  have m18 : W2.cell? ⟨w.heap.size, 18, none⟩ = some (.slice l.mA l.mems.length l.mc) := by rw [cell_of_heap G2.out, hl1]; rfl
  have m20 : W2.cell? ⟨w.heap.size, 20, none⟩ = some (.slice l.uA l.sums.length l.uc) := by rw [cell_of_heap G2.out, hl1]; rfl
  iterate 3 (refine Stab.wpX_val rfl rfl ?_; apply Exists.intro; refine ⟨fun wx hC _ => ?_, ?_⟩; (have r := hC.cell m18; go_simp; exact ⟨Ext.refl _, rfl⟩); simp only [Act.put, List.setIfInBounds_toArray, List.set_cons_zero, List.set_cons_succ])
  refine Stab.wpX_call (RowR 1 W2.heap.size 3 l.mems.length (l.mems.map (.int .i64))) (fun _ _ => True) rfl rfl (fun _ => RowR.up) (fun _ _ _ _ _ => trivial) ?_ ?_
  · intro wx hC _ hF
    go_simp
    refine ⟨rfl, ?_⟩
    refine (H4.out _ (HE2.out.trans hC)).mono ?_
    rintro ev w9 ⟨A4, c4, rfl, hO, hE, hz⟩
    exact ⟨hE, A4, c4, rfl, hO.raise fun i hi => Nat.le_trans hC.sz (hO.lt hi).1, hz⟩
  rintro ux ⟨_, _, ⟨A4, c4, rfl, -⟩, _⟩
  simp only [Act.put, List.setIfInBounds_toArray, List.set_cons_zero, List.set_cons_succ]
  iterate 3 (refine Stab.wpX_val rfl rfl ?_; apply Exists.intro; refine ⟨fun wx hC _ => ?_, ?_⟩; (have r := hC.cell m20; go_simp; exact ⟨Ext.refl _, rfl⟩); simp only [Act.put, List.setIfInBounds_toArray, List.set_cons_zero, List.set_cons_succ])
  refine Stab.wpX_call (RowR 1 W2.heap.size 145 l.sums.length (l.sums.map (.int .u32))) (fun _ _ => True) rfl rfl (fun _ => RowR.up) (fun _ _ _ _ _ => trivial) ?_ ?_
  · intro wx hC _ hF
    go_simp
    refine ⟨rfl, ?_⟩
    refine (H5.out _ (HE2.out.trans hC)).mono ?_
    rintro ev w9 ⟨A5, c5, rfl, hO, hE, hz⟩
    exact ⟨hE, A5, c5, rfl, hO.raise fun i hi => Nat.le_trans hC.sz (hO.lt hi).1, hz⟩
  rintro ux ⟨_, _, ⟨A5, c5, rfl, -⟩, _⟩
  simp only [Act.put, List.setIfInBounds_toArray, List.set_cons_zero, List.set_cons_succ]
  iterate 2 (refine Stab.wpX_val rfl rfl ?_; apply Exists.intro; refine ⟨fun wx hC _ => ?_, ?_⟩; (go_simp; exact ⟨Ext.refl _, rfl⟩); simp only [Act.put, List.setIfInBounds_toArray, List.set_cons_zero, List.set_cons_succ])
  refine Stab.wpX_end fun w10 hC10 _ hF10 => ?_
  have P4 := Lib.hid (RowR.inj ((hF10 3).1.2 rfl))
  have P5 := Lib.hid (RowR.inj ((hF10 7).2 rfl))
  have Z4 := Lib.hid (RowR.z ((hF10 3).1.2 rfl))
  have Z5 := Lib.hid (RowR.z ((hF10 7).2 rfl))
  have G4 := Lib.hid (hC10.blk G2.out)
  have G5 := Lib.hid (hC10.blk G3.out)
  have HE10 := Lib.hid (HE2.out.trans hC10)
  have R1 := Lib.hid (Q1.out.ext hC10)
  have R2 := Lib.hid (Q2.out.ext hC10)
  have R3 := Lib.hid (Q3.out.ext hC10)
  have n14 : w10.cell? ⟨w.heap.size, 14, none⟩ = some (.slice A3 l.ents.length c3) := by rw [cell_of_heap G4.out, hl1]; rfl
  have n18 := hC10.cell m18
  have n20 := hC10.cell m20
  have f0 := frozen_of_heap G4.out
  clear hC10 hF10 m18 m20 Q1 Q2 Q3 G2 G3
  go_wp2_with fail
  obtain ⟨l2, hl2⟩ : ∃ l2 : Let, l2 = { l1 with mA := A4, mc := c4, uA := A5, uc := c5 } := ⟨_, rfl⟩
  have g6 : ((w10.setCell ⟨w.heap.size, 18, none⟩ (.slice A4 l.mems.length c4)).setCell ⟨w.heap.size, 20, none⟩ (.slice A5 l.sums.length c5)).heap[w.heap.size]? = some (.cells l2.arr 35) := by
    have h1 : l.mems = l1.mems := by rw [hl1]
    have h2 : l.sums = l1.sums := by rw [hl1]
    rw [heap_set (heap_set G4.out), hl2, h1, h2, arr_set2]
  have fB : Fr (isB w.heap.size) w10 ((w10.setCell ⟨w.heap.size, 18, none⟩ (.slice A4 l.mems.length c4)).setCell ⟨w.heap.size, 20, none⟩ (.slice A5 l.sums.length c5)) := ((Fr.refl (isB w.heap.size) w10).set (p := ⟨w.heap.size, 18, none⟩) (.inl rfl) _).set (p := ⟨w.heap.size, 20, none⟩) (.inl rfl) _
  generalize ((w10.setCell ⟨w.heap.size, 18, none⟩ (.slice A4 l.mems.length c4)).setCell ⟨w.heap.size, 20, none⟩ (.slice A5 l.sums.length c5)) = W3 at *
  have S1 := Lib.hid (R1.out.fr fB fun i hi e => R1.out.ne_blk G4.out (by decide) (by rw [← e]; exact hi))
  have S2 := Lib.hid (R2.out.fr fB fun i hi e => R2.out.ne_blk G4.out (by decide) (by rw [← e]; exact hi))
  have S3 := Lib.hid (R3.out.fr fB fun i hi e => R3.out.ne_blk G4.out (by decide) (by rw [← e]; exact hi))
  have S4 := Lib.hid (P4.out.fr fB fun i hi e => P4.out.ne_blk G4.out (by decide) (by rw [← e]; exact hi))
  have S5 := Lib.hid (P5.out.fr fB fun i hi e => P5.out.ne_blk G4.out (by decide) (by rw [← e]; exact hi))
  have G7 := Lib.hid ((fB.block (w.heap.size + 1) (heap_lt G5.out) (by unfold isB; omega)).trans G5.out)
  have HE3 := Lib.hid (((Fr.ofExt (isB w.heap.size) HE10.out).trans fB (fun _ _ h => h)).toExt (fun i hi => by unfold isB at hi; omega))
  have G6 := Lib.hid g6
  have hW3 : w.heap.size ≤ W3.heap.size := HE3.out.sz
  clear fB P4 P5 R1 R2 R3 G4 G5 HE10 g6 n14 n18 n20 f0
  go_loopw [31] (fun i wr => OnRel l w W3 W.heap.size A3 c3 i wr) (fun i _ => l.ents.length - (intOf i).toNat)
  case atStart => exact ⟨0, l.ents, Nat.zero_le _, rfl, ⟨rfl, fun j e h => ⟨e, h, rfl, fun hj => by omega, fun _ => rfl⟩⟩, S3.out, Fr.refl _ _⟩
  case round =>
    obtain ⟨k, es', hk, rfl, hes, hown, hF⟩ := hrel
    have hs2 := HS.out.s2
    have HEW := Lib.hid (((Fr.ofExt (blk A3) HE3.out).trans hF (fun _ _ t => t)).toExt (fun i hi => Nat.le_trans hWs (S3.out.lt hi).1))
    have G8 := Lib.hid ((hF.block w.heap.size (heap_lt G6.out) (S3.out.ne_blk G6.out (by decide))).trans G6.out)
    have HES := Lib.hid hes
    have HF := Lib.hid hF
    have HO := Lib.hid hown
    clear hes hF hown
    by_cases hlt : k < l.ents.length
    · obtain ⟨g3, rfl⟩ := HO.out.some_ (by omega)
      obtain ⟨e, he⟩ : ∃ e, l.ents[k]? = some e := ⟨_, List.getElem?_eq_getElem hlt⟩
      obtain ⟨e', he', hce, _, heq⟩ := HES.out.2 k e he
      obtain rfl := heq (Nat.le_refl _)
      have cb : wr.cell? ⟨g3, k * 4 + 3, none⟩ = some (.slice e'.bA e'.bs.length e'.bc) := HO.out.rd.at0 (fl_get entc_len he' (j := 3) rfl)
      have c14 : wr.cell? ⟨w.heap.size, 14, none⟩ = some (.slice (some ⟨g3, 0, none⟩) l.ents.length c3) := by rw [cell_of_heap G8.out, hl2, hl1]; rfl
      have hbi : e'.inW w := by obtain ⟨_, _, _, _, _, _, _, h6⟩ := HI.out.e1 k e' he; exact h6
      have H6 := Lib.hid (fun w' (h : Ext w w') => cloneBytes_any e'.bA e'.bs.length e'.bc (e'.bs.map (.int .u8)) w' (by simp) (hbi.1.ext h) (one_int .u8 e'.bs) (HS.out.s3 e' (List.mem_of_getElem? he)))
      have HBI := Lib.hid hbi
      have HEE := Lib.hid (And.intro he (And.intro he' hce))
      clear hbi he he' hce heq
      go_wp2_with fail
      refine Stab.wp_region_lexTail 10 Ext (Ext wr) (fun _ => True) (by kernel_rfl) (by kernel_rfl) (fun _ _ h => h) (fun _ _ h k => Ext.trans h k) (fun _ _ _ _ => trivial) ((Ext.refl _).drew) trivial ?_
      simp only [Stab.zipL, Nat.reduceAdd, List.take, List.drop]
      iterate 9 (refine Stab.wpX_val rfl rfl ?_; apply Exists.intro; refine ⟨fun wx hC _ => ?_, ?_⟩; (have r1 := hC.cell c14; have r2 := hC.cell cb; go_simp; exact ⟨Ext.refl _, rfl⟩); simp only [Act.put, List.setIfInBounds_toArray, List.set_cons_zero, List.set_cons_succ])
      refine Stab.wpX_call (RowR 1 wr.heap.size 5 e'.bs.length (e'.bs.map (.int .u8))) (fun _ _ => True) rfl rfl (fun _ => RowR.up) (fun _ _ _ _ _ => trivial) ?_ ?_
      · intro wx hC _ hF
        go_simp
        refine ⟨rfl, ?_⟩
        refine (H6.out _ (HEW.out.trans hC)).mono ?_
        rintro ev w9 ⟨A6, c6, rfl, hO, hE, hz⟩
        exact ⟨hE, A6, c6, rfl, hO.raise fun i hi => Nat.le_trans hC.sz (hO.lt hi).1, hz⟩
      rintro ux ⟨_, _, ⟨A6, c6, rfl, -⟩, _⟩
      simp only [Act.put, List.setIfInBounds_toArray, List.set_cons_zero, List.set_cons_succ]
      refine Stab.wpX_end fun w9 hC9 _ hF9 => ?_
      have T6 := Lib.hid (RowR.inj ((hF9 9).2 rfl))
      have d14 := hC9.cell c14
      have db := hC9.cell cb
      have HO9 := Lib.hid (HO.out.ext hC9)
      have HX9 := Lib.hid hC9
      have fz := HO9.out.frozen (k * 4 + 3)
      clear hC9 hF9 c14 cb
      go_wp2_with fail
      go_roundw
      case rel =>
        obtain ⟨hee1, hee2, hee3⟩ := HEE.out
        refine ⟨k + 1, es'.set k { e' with bA := A6, bc := c6 }, by omega, by go_num, ?_, ?_, ?_⟩
        · refine ⟨by rw [List.length_set]; exact HES.out.1, fun j x hj => ?_⟩
          by_cases hjk : j = k
          · subst hjk
            rw [hee1] at hj
            injection hj with hj
            subst hj
            refine ⟨_, List.getElem?_set_self (List.getElem?_eq_some_iff.1 hee2).1, rfl, fun _ => ?_, fun h => by omega⟩
            exact (T6.out.fr ((Fr.refl (isB g3) w9).set (p := ⟨g3, j * 4 + 3, none⟩) (.inl rfl) _) (fun i hi e => T6.out.ne HO9.out (by decide) hi (by simp [blk]; exact e.symm))).raise (fun i hi => Nat.le_trans HEW.out.sz (T6.out.lt hi).1)
          · obtain ⟨y, hy1, hy2, hy3, hy4⟩ := HES.out.2 j x hj
            refine ⟨y, by rw [List.getElem?_set_ne (Ne.symm hjk)]; exact hy1, hy2, fun h => ?_, fun h => hy4 (by omega)⟩
            have hy5 := (hy3 (by omega)).ext HX9.out
            exact hy5.fr ((Fr.refl (isB g3) w9).set (p := ⟨g3, k * 4 + 3, none⟩) (.inl rfl) _) (fun i hi e => hy5.ne HO9.out (by decide) hi (by simp [blk]; exact e.symm))
        · have h7 := HO9.out.set (k * 4 + 3) (.slice A6 e'.bs.length c6)
          rw [fl_set entc_len hee2 (y := { e' with bA := A6, bc := c6 }) (j := 3) rfl (by omega)] at h7
          exact h7
        · exact (HF.out.then HX9.out).set (p := ⟨g3, k * 4 + 3, none⟩) (.inl (by simp [blk])) _
      case measure => simp [intOf]; omega
    · obtain rfl : k = l.ents.length := by omega
      obtain ⟨l3, hl3⟩ : ∃ l3 : Let, l3 = { l2 with ents := es' } := ⟨_, rfl⟩
      have harr : l2.arr = l3.arr := by
        have h8 := HES.out.1
        rw [hl3]
        simp [Let.arr, hl2, hl1, h8]
      have g9 := G8.out
      rw [harr] at g9
      have G9 := Lib.hid g9
      have g10 := (HF.out.block (w.heap.size + 1) (heap_lt G7.out) (S3.out.ne_blk G7.out (by decide))).trans G7.out
      clear g9
      go_wp2_with (first | (refine wpList_load_letW rfl _ rfl w.heap.size l3 rfl G9.out ?_) | (refine wpList_store_all rfl _ _ rfl rfl (w.heap.size + 1) l3 _ rfl rfl g10 (by simp [Let.arr]) ?_; intro w5 hG5 hF5; have HG5 := Lib.hid hG5; have HF5 := Lib.hid hF5; clear hG5 hF5))
      refine bodyPost_ret (v := l3.v) (results_cell_row Tryz.results41 _ w5 (w.heap.size + 1) 35 _ (0, 0) _ rfl HG5.out Tryz.underlying35 rfl (by rw [infoLet]; rfl)) rfl ?_
      have HFE : Ext w w5 := ((Fr.ofExt (isB (w.heap.size + 1)) HEW.out).trans HF5.out (fun _ _ h => h)).toExt (fun i hi => by unfold isB at hi; omega)
      have hnb : ∀ {sz n c B : Nat} {e : TypeId} {A : Option Addr} {xs : List Value}, OwnW sz wr B e A n c xs → e ≠ 35 → OwnW sz w5 B e A n c xs := fun h hne => h.fr HF5.out (fun i hi e => h.ne_blk g10 hne (by rw [← e]; exact hi))
      have t1 := hnb (S1.out.fr HF.out fun i hi e => S1.out.ne S3.out (by decide) hi e) (by decide)
      have t2 := hnb (S2.out.fr HF.out fun i hi e => S2.out.ne S3.out (by decide) hi e) (by decide)
      have t3 := hnb HO.out (by decide)
      have t4 := hnb (S4.out.fr HF.out fun i hi e => S4.out.ne S3.out (by decide) hi e) (by decide)
      have t5 := hnb (S5.out.fr HF.out fun i hi e => S5.out.ne S3.out (by decide) hi e) (by decide)
      have hlen := HES.out.1
      have hcont : es'.map Ent.cont = l.ents.map Ent.cont := by
        apply List.ext_getElem?
        intro j
        rw [List.getElem?_map, List.getElem?_map]
        by_cases hj : j < l.ents.length
        · obtain ⟨y, hy1, hy2, _⟩ := HES.out.2 j _ (List.getElem?_eq_getElem hj)
          rw [hy1, List.getElem?_eq_getElem hj]
          simp [hy2]
        · rw [List.getElem?_eq_none (by omega), List.getElem?_eq_none (by omega)]
      have hbod : ∀ e ∈ es', OwnW 1 w5 w.heap.size 5 e.bA e.bs.length e.bc (e.bs.map (.int .u8)) ∧ okBytes e.bs ∧ e.bs.length ≤ maxLen := fun e he => by
        obtain ⟨j, hj⟩ := List.getElem?_of_mem he
        have hjl : j < l.ents.length := by have := (List.getElem?_eq_some_iff.1 hj).1; omega
        obtain ⟨y, hy1, hy2, hy3, _⟩ := HES.out.2 j _ (List.getElem?_eq_getElem hjl)
        rw [hj] at hy1
        injection hy1 with hy1
        subst hy1
        obtain ⟨_, _, _, _, _, _, _, h6⟩ := HI.out.e1 j _ (List.getElem?_eq_getElem hjl)
        have hb : e.bs = (l.ents[j]).bs := congrArg (fun c => c.2.2.2) hy2
        exact ⟨hnb (hy3 hjl) (by decide), by rw [hb]; exact h6.2.1, by rw [hb]; exact h6.2.2⟩
      have q1 : l3.wA = A1 := by rw [hl3, hl2, hl1]
      have q2 : l3.want = l.want := by rw [hl3, hl2, hl1]
      have q3 : l3.eA = A3 := by rw [hl3, hl2, hl1]
      have q4 : l3.ents = es' := by rw [hl3]
      have q5 : l3.mA = A4 := by rw [hl3, hl2]
      have q6 : l3.mems = l.mems := by rw [hl3, hl2, hl1]
      have q7 : l3.uA = A5 := by rw [hl3, hl2]
      have q8 : l3.sums = l.sums := by rw [hl3, hl2, hl1]
      have q9 : l3.bA = A2 := by rw [hl3, hl2, hl1]
      have q10 : l3.bs = l.bs := by rw [hl3, hl2, hl1]
      refine ⟨l3, rfl, ?_, ?_, ?_, HFE⟩
      · unfold Let.cont Let.snc
        rw [q2, q4, q6, q8, q10, hcont, hl3, hl2, hl1]
      · refine ⟨by rw [q1, q2]; exact IdsIn.of t1, by rw [q3, q4]; exact EntsIn.of t3 fun e he => ⟨(hbod e he).1.rd, (hbod e he).2⟩, by rw [q5, q6]; exact t4.rd, by rw [q7, q8]; exact t5.rd, by rw [q9, q10]; exact t2.rd, by rw [q2]; exact HI.out.w2, by rw [q4, hlen]; exact HI.out.e2, by rw [q6]; exact HI.out.m2, by rw [q8]; exact HI.out.u2, by rw [q10]; exact HI.out.b2, by rw [q8]; exact HI.out.u3⟩
      · have lo : ∀ {sz n c B : Nat} {e : TypeId} {A : Option Addr} {xs : List Value}, OwnW sz w5 B e A n c xs → w.heap.size ≤ B → Off (fun i => i < w.heap.size) A := fun h hB => (h.raise (fun i hi => Nat.le_trans hB (h.lt hi).1)).offB
        refine ⟨⟨fun _ => by rw [q1]; exact lo t1 hWs, fun _ => by rw [q3]; exact lo t3 hWs, fun e he _ => (hbod e (by rw [← q4]; exact he)).1.offB, fun _ => by rw [q5]; exact lo t4 hW2, fun _ => by rw [q7]; exact lo t5 hW2, fun _ => by rw [q9]; exact lo t2 hWs⟩, fun h => ?_, fun h => ?_, fun h => ?_, fun h => ?_, fun h => ?_⟩
        · rw [q2] at h; rw [hl3, hl2, hl1]; exact Z1.out (by rw [h]; rfl)
        · rw [q4] at h; rw [h] at hlen; rw [hl3, hl2, hl1]; exact Z3.out hlen.symm
        · rw [q6] at h; rw [hl3, hl2]; exact Z4.out (by rw [h]; rfl)
        · rw [q8] at h; rw [hl3, hl2]; exact Z5.out (by rw [h]; rfl)
        · rw [q10] at h; rw [hl3, hl2, hl1]; exact Z2.out (by rw [h]; rfl)
end Go.Proofs.YtjnllilmimngoaaGreatDoor
