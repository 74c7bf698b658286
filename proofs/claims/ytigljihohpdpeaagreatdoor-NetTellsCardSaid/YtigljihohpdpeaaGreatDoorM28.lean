/-
  slices.Clone of the five rows of a letter.
  Whether a letter is right is told by its content.
-/
import Derived.Test.YtigljihohpdpeaaGreatDoorM27
import Derived.Test.YtigljihohpdpeaaGreatDoorM26
import Derived.Test.YtigljihohpdpeaaGreatDoorM24
namespace Go.Proofs.YtigljihohpdpeaaGreatDoor
open Go.RowKit

theorem wpList_append_W {ops : Array Oper} {rest : List Oper} {o : Oper} {a : Act} {Q : Exit → Act → World → Prop} (w : World) (hgd : o.guard = none) (s x : Operand) (t : TypeId)
    (ho : o.op = .call { callee := .builtin .append, args := #[s, x], argTypes := #[t, t] }) (e : TypeId) (sz bytes : Nat) (ht : Tryz.prog.underlying t = some (.slice e))
    (hinfo : (Tryz.prog.info? e).map (fun i => (i.zero.map (fun z => z.cells.size), i.size, i.bytes)) = some (some sz, sz, bytes)) (hsz : 0 < sz)
    (B : Nat) (A : Option Addr) (n c : Nat) (xs : List Value) (hs : a.eval s = .slice A n c) (hown : OwnW sz w B e A n c xs)
    (D : Option Addr) (m cc : Nat) (news : List Value) (hx : a.eval x = .slice D m cc) (hl : news.length = m * sz) (hr : Rd w D news) (h1 : ∀ u ∈ news, u.oneCell' = true)
    (h63 : n + m ≤ maxLen) (hbytes : (n + m) * bytes ≤ 140737488355328) (hbase : B ≤ w.heap.size)
    (h : ∀ A' c' w', OwnW sz w' B e A' (n + m) c' (xs ++ news) → Fr (blk A) w w' → (∀ i, blk A' i → blk A i ∨ w.heap.size ≤ i) → wpList Tryz.prog ops Q rest (a.put o.dst (.slice A' (n + m) c')) w') : wpList Tryz.prog ops Q (o :: rest) a w := by
  refine wpList_plain hgd fun K hK => ?_
  obtain ⟨i0, hi, hz⟩ := Option.map_eq_some_iff.1 hinfo
  simp only [Prod.mk.injEq] at hz
  obtain ⟨hz0, hz1, hz2⟩ := hz
  obtain ⟨z, hz3, hz4⟩ := Option.map_eq_some_iff.1 hz0
  obtain ⟨v', w', h2, A', c', rfl, h3, h4, h5⟩ := run_append_W (P := Tryz.prog) w t o.type e i0 z sz bytes ht hi hz3 hz1 hsz hz2 hz4 B A n c xs hown D m cc news hl hr h1 h63 hbytes hbase
  unfold Oper.wp execOp
  simp only [ho, resolve, invoke, builtin, Sem.run_bind, Sem.run_pure, Result.andThen_ok, List.map_toArray, List.map_cons, List.map_nil, hs, hx, h2]
  exact hK _ _ (h A' c' w' h3 h4 h5)
theorem ownW_empty (sz : Nat) (w : World) (B : Nat) (e : TypeId) (hB : B ≤ w.heap.size) : OwnW sz (w.alloc (.cells #[] e)) B e (some ⟨w.heap.size, 0, none⟩) 0 0 [] :=
  OwnW.mk hB (heap_alloc_new w _) (by simp) (by simp) (by simp) (by simp)
theorem ownW_fresh {sz : Nat} {w w1 w2 : World} {et : TypeId} {A : Option Addr} {n c : Nat} {xs : List Value} (h : OwnW sz w1 w.heap.size et A n c xs) (hE : Ext w w1) (hf : Fr (blk A) w1 w2) : Ext w w2 := by
  have h1 : Below w.heap.size w1 w2 := hf.below hE.sz (fun i hi => (h.lt hi).1)
  exact Below.trans hE h1
/-- A row of its own that reads xs. -/
def FreshW (sz : Nat) (et : TypeId) (n : Nat) (xs : List Value) (w : World) (e : Ending) (w' : World) : Prop := ∃ A' c', e = .returned (.slice A' n c') ∧ OwnW sz w' w.heap.size et A' n c' xs ∧ Ext w w'
theorem infoClBytes : (Tryz.prog.info? 5).map (fun i => (i.zero.map (fun z => z.cells.size), i.size, i.bytes)) = some (some 1, 1, 1) := by kernel_rfl
set_option maxHeartbeats 400000 in
theorem cloneBytes_any (D : Option Addr) (n d : Nat) (xs : List Value) (w : World) (hx : xs.length = n * 1) (hD : Rd w D xs) (h1 : ∀ u ∈ xs, u.oneCell' = true) (hl : n ≤ 1000000000) :
    Calls Tryz.prog 36 #[.slice D n d] w (FreshW 1 5 n xs w) := by
  cases D with
  | none =>
    have hb : xs = [] := by
      cases xs with
      | nil => rfl
      | cons b bs => obtain ⟨ad, h, _⟩ := hD 0 b rfl; cases h
    subst hb
    obtain rfl : n = 0 := by simp at hx; omega
    have hq := fun (W : World) => Lib.run_eql_slice_nil (P := Tryz.prog) W 42 5 none 0 d 0 0 Tryz.underlying42
    go_enter Tryz.func36, Tryz.ntmps36
    go_wp2
    go_ret
    exact ⟨none, 0, rfl, OwnW.nil _ _ _ _, Ext.refl _⟩
  | some ad =>
    have hD1 := hD.ext ((Ext.refl w).alloc (.cells #[] 5))
    have hO1 := ownW_empty 1 w w.heap.size 5 (Nat.le_refl _)
    have hq := fun (W : World) => Lib.run_eql_slice_nil (P := Tryz.prog) W 42 5 (some ad) n d 0 0 Tryz.underlying42
    go_enter Tryz.func36, Tryz.ntmps36
    go_wp2_with (at_builtin; refine wpList_append_W _ rfl _ _ 42 rfl 5 1 1 Tryz.underlying42 infoClBytes (by omega) w.heap.size _ _ _ [] rfl hO1 _ _ _ xs rfl hx hD1 h1 (by unfold maxLen; omega) (by omega) (by simp) ?_; intro A3 c3 w3 hown3 hfr3 hA3)
    go_ret
    simp only [Nat.zero_add, List.nil_append] at hown3 ⊢
    exact ⟨A3, c3, rfl, hown3, ownW_fresh hO1 ((Ext.refl w).alloc _) hfr3⟩
theorem infoClInts : (Tryz.prog.info? 3).map (fun i => (i.zero.map (fun z => z.cells.size), i.size, i.bytes)) = some (some 1, 1, 8) := by kernel_rfl
set_option maxHeartbeats 400000 in
theorem cloneInts_any (D : Option Addr) (n d : Nat) (xs : List Value) (w : World) (hx : xs.length = n * 1) (hD : Rd w D xs) (h1 : ∀ u ∈ xs, u.oneCell' = true) (hl : n ≤ 1000000000) :
    Calls Tryz.prog 38 #[.slice D n d] w (FreshW 1 3 n xs w) := by
  cases D with
  | none =>
    have hb : xs = [] := by
      cases xs with
      | nil => rfl
      | cons b bs => obtain ⟨ad, h, _⟩ := hD 0 b rfl; cases h
    subst hb
    obtain rfl : n = 0 := by simp at hx; omega
    have hq := fun (W : World) => Lib.run_eql_slice_nil (P := Tryz.prog) W 38 3 none 0 d 0 0 Tryz.underlying38
    go_enter Tryz.func38, Tryz.ntmps38
    go_wp2
    go_ret
    exact ⟨none, 0, rfl, OwnW.nil _ _ _ _, Ext.refl _⟩
  | some ad =>
    have hD1 := hD.ext ((Ext.refl w).alloc (.cells #[] 3))
    have hO1 := ownW_empty 1 w w.heap.size 3 (Nat.le_refl _)
    have hq := fun (W : World) => Lib.run_eql_slice_nil (P := Tryz.prog) W 38 3 (some ad) n d 0 0 Tryz.underlying38
    go_enter Tryz.func38, Tryz.ntmps38
    go_wp2_with (at_builtin; refine wpList_append_W _ rfl _ _ 38 rfl 3 1 8 Tryz.underlying38 infoClInts (by omega) w.heap.size _ _ _ [] rfl hO1 _ _ _ xs rfl hx hD1 h1 (by unfold maxLen; omega) (by omega) (by simp) ?_; intro A3 c3 w3 hown3 hfr3 hA3)
    go_ret
    simp only [Nat.zero_add, List.nil_append] at hown3 ⊢
    exact ⟨A3, c3, rfl, hown3, ownW_fresh hO1 ((Ext.refl w).alloc _) hfr3⟩
theorem infoClLimbs : (Tryz.prog.info? 91).map (fun i => (i.zero.map (fun z => z.cells.size), i.size, i.bytes)) = some (some 1, 1, 4) := by kernel_rfl
set_option maxHeartbeats 400000 in
theorem cloneLimbs_any (D : Option Addr) (n d : Nat) (xs : List Value) (w : World) (hx : xs.length = n * 1) (hD : Rd w D xs) (h1 : ∀ u ∈ xs, u.oneCell' = true) (hl : n ≤ 1000000000) :
    Calls Tryz.prog 39 #[.slice D n d] w (FreshW 1 91 n xs w) := by
  cases D with
  | none =>
    have hb : xs = [] := by
      cases xs with
      | nil => rfl
      | cons b bs => obtain ⟨ad, h, _⟩ := hD 0 b rfl; cases h
    subst hb
    obtain rfl : n = 0 := by simp at hx; omega
    have hq := fun (W : World) => Lib.run_eql_slice_nil (P := Tryz.prog) W 39 91 none 0 d 0 0 Tryz.underlying39
    go_enter Tryz.func39, Tryz.ntmps39
    go_wp2
    go_ret
    exact ⟨none, 0, rfl, OwnW.nil _ _ _ _, Ext.refl _⟩
  | some ad =>
    have hD1 := hD.ext ((Ext.refl w).alloc (.cells #[] 91))
    have hO1 := ownW_empty 1 w w.heap.size 91 (Nat.le_refl _)
    have hq := fun (W : World) => Lib.run_eql_slice_nil (P := Tryz.prog) W 39 91 (some ad) n d 0 0 Tryz.underlying39
    go_enter Tryz.func39, Tryz.ntmps39
    go_wp2_with (at_builtin; refine wpList_append_W _ rfl _ _ 39 rfl 91 1 4 Tryz.underlying39 infoClLimbs (by omega) w.heap.size _ _ _ [] rfl hO1 _ _ _ xs rfl hx hD1 h1 (by unfold maxLen; omega) (by omega) (by simp) ?_; intro A3 c3 w3 hown3 hfr3 hA3)
    go_ret
    simp only [Nat.zero_add, List.nil_append] at hown3 ⊢
    exact ⟨A3, c3, rfl, hown3, ownW_fresh hO1 ((Ext.refl w).alloc _) hfr3⟩
theorem infoClIds : (Tryz.prog.info? 35).map (fun i => (i.zero.map (fun z => z.cells.size), i.size, i.bytes)) = some (some 3, 3, 24) := by kernel_rfl
set_option maxHeartbeats 400000 in
theorem cloneIds_any (D : Option Addr) (n d : Nat) (xs : List Value) (w : World) (hx : xs.length = n * 3) (hD : Rd w D xs) (h1 : ∀ u ∈ xs, u.oneCell' = true) (hl : n ≤ 1000000000) :
    Calls Tryz.prog 35 #[.slice D n d] w (FreshW 3 35 n xs w) := by
  cases D with
  | none =>
    have hb : xs = [] := by
      cases xs with
      | nil => rfl
      | cons b bs => obtain ⟨ad, h, _⟩ := hD 0 b rfl; cases h
    subst hb
    obtain rfl : n = 0 := by simp at hx; omega
    have hq := fun (W : World) => Lib.run_eql_slice_nil (P := Tryz.prog) W 36 35 none 0 d 0 0 Tryz.underlying36
    go_enter Tryz.func35, Tryz.ntmps35
    go_wp2
    go_ret
    exact ⟨none, 0, rfl, OwnW.nil _ _ _ _, Ext.refl _⟩
  | some ad =>
    have hD1 := hD.ext ((Ext.refl w).alloc (.cells #[] 35))
    have hO1 := ownW_empty 3 w w.heap.size 35 (Nat.le_refl _)
    have hq := fun (W : World) => Lib.run_eql_slice_nil (P := Tryz.prog) W 36 35 (some ad) n d 0 0 Tryz.underlying36
    go_enter Tryz.func35, Tryz.ntmps35
    go_wp2_with (at_builtin; refine wpList_append_W _ rfl _ _ 36 rfl 35 3 24 Tryz.underlying36 infoClIds (by omega) w.heap.size _ _ _ [] rfl hO1 _ _ _ xs rfl hx hD1 h1 (by unfold maxLen; omega) (by omega) (by simp) ?_; intro A3 c3 w3 hown3 hfr3 hA3)
    go_ret
    simp only [Nat.zero_add, List.nil_append] at hown3 ⊢
    exact ⟨A3, c3, rfl, hown3, ownW_fresh hO1 ((Ext.refl w).alloc _) hfr3⟩
theorem infoClEnts : (Tryz.prog.info? 88).map (fun i => (i.zero.map (fun z => z.cells.size), i.size, i.bytes)) = some (some 4, 4, 48) := by kernel_rfl
set_option maxHeartbeats 400000 in
theorem cloneEnts_any (D : Option Addr) (n d : Nat) (xs : List Value) (w : World) (hx : xs.length = n * 4) (hD : Rd w D xs) (h1 : ∀ u ∈ xs, u.oneCell' = true) (hl : n ≤ 1000000000) :
    Calls Tryz.prog 37 #[.slice D n d] w (FreshW 4 88 n xs w) := by
  cases D with
  | none =>
    have hb : xs = [] := by
      cases xs with
      | nil => rfl
      | cons b bs => obtain ⟨ad, h, _⟩ := hD 0 b rfl; cases h
    subst hb
    obtain rfl : n = 0 := by simp at hx; omega
    have hq := fun (W : World) => Lib.run_eql_slice_nil (P := Tryz.prog) W 37 88 none 0 d 0 0 Tryz.underlying37
    go_enter Tryz.func37, Tryz.ntmps37
    go_wp2
    go_ret
    exact ⟨none, 0, rfl, OwnW.nil _ _ _ _, Ext.refl _⟩
  | some ad =>
    have hD1 := hD.ext ((Ext.refl w).alloc (.cells #[] 88))
    have hO1 := ownW_empty 4 w w.heap.size 88 (Nat.le_refl _)
    have hq := fun (W : World) => Lib.run_eql_slice_nil (P := Tryz.prog) W 37 88 (some ad) n d 0 0 Tryz.underlying37
    go_enter Tryz.func37, Tryz.ntmps37
    go_wp2_with (at_builtin; refine wpList_append_W _ rfl _ _ 37 rfl 88 4 48 Tryz.underlying37 infoClEnts (by omega) w.heap.size _ _ _ [] rfl hO1 _ _ _ xs rfl hx hD1 h1 (by unfold maxLen; omega) (by omega) (by simp) ?_; intro A3 c3 w3 hown3 hfr3 hA3)
    go_ret
    simp only [Nat.zero_add, List.nil_append] at hown3 ⊢
    exact ⟨A3, c3, rfl, hown3, ownW_fresh hO1 ((Ext.refl w).alloc _) hfr3⟩
end Go.Proofs.YtigljihohpdpeaaGreatDoor
namespace Go.Proofs.YtigljihohpdpeaaGreatDoor
open Go.RowKit

/-- An entry without its address. -/
def Ent.er (e : Ent) : Ent := ⟨e.i, e.t, e.k, none, 0, e.bs⟩
theorem er_len {es es' : List Ent} (h : es'.map Ent.er = es.map Ent.er) : es'.length = es.length := by have := congrArg List.length h; simpa using this
theorem good_er (e : Ent) : e.er.good = e.good := rfl
theorem goods_er {es es' : List Ent} (h : es'.map Ent.er = es.map Ent.er) : es'.all Ent.good = es.all Ent.good := by
  have h1 : ∀ l : List Ent, l.all Ent.good = (l.map Ent.er).all Ent.good := fun l => by rw [List.all_map]; rfl
  rw [h1 es', h1 es, h]
theorem rowE_er : ∀ (es es' : List Ent) (a : Id) (j : Nat), es'.map Ent.er = es.map Ent.er → rowE a j es' = rowE a j es := by
  intro es
  induction es with
  | nil => intro es' a j h; cases es' with | nil => rfl | cons _ _ => cases h
  | cons x es ih =>
    intro es' a j h
    cases es' with
    | nil => cases h
    | cons y ys =>
      simp only [List.map_cons, List.cons.injEq] at h
      obtain ⟨h1, h2⟩ := h
      have hm : meetsN a y = meetsN a x := by
        have e1 : meetsN a y = meetsN a y.er := rfl
        have e2 : meetsN a x = meetsN a x.er := rfl
        rw [e1, e2, h1]
      have hid : y.id = x.id := by
        have e1 : y.id = y.er.id := rfl
        have e2 : x.id = x.er.id := rfl
        rw [e1, e2, h1]
      unfold rowE
      rw [hm, hid, ih ys x.id (j + 1) h2]
theorem follows_er {es es' : List Ent} (p : Id) (h : es'.map Ent.er = es.map Ent.er) : followsN p es' = followsN p es := by
  unfold followsN
  rw [rowE_er es es' p 0 h]
theorem lastId_er {es es' : List Ent} (p : Id) (h : es'.map Ent.er = es.map Ent.er) : lastId p es' = lastId p es := by
  have hl := er_len h
  unfold lastId
  by_cases h0 : 0 < es.length
  · rw [dif_pos (by omega), dif_pos h0]
    have h1 : (es'.map Ent.er)[es'.length - 1]? = (es.map Ent.er)[es.length - 1]? := by rw [h, hl]
    rw [List.getElem?_map, List.getElem?_map, List.getElem?_eq_getElem (by omega), List.getElem?_eq_getElem (by omega)] at h1
    simp only [Option.map_some, Option.some.injEq] at h1
    have h2 := congrArg Ent.id h1
    exact h2
  · rw [dif_neg (by omega), dif_neg h0]
theorem aheads_er : ∀ (es es' : List Ent) (ps : List Id), es'.map Ent.er = es.map Ent.er → aheadsL es' ps = aheadsL es ps := by
  intro es
  induction es with
  | nil => intro es' ps h; cases es' with | nil => rfl | cons _ _ => cases h
  | cons x es ih =>
    intro es' ps h
    cases es' with
    | nil => cases h
    | cons y ys =>
      simp only [List.map_cons, List.cons.injEq] at h
      obtain ⟨h1, h2⟩ := h
      cases ps with
      | nil => rfl
      | cons p ps =>
        have hm : aheadAt y p = aheadAt x p := by
          have e1 : aheadAt y p = aheadAt y.er p := rfl
          have e2 : aheadAt x p = aheadAt x.er p := rfl
          rw [e1, e2, h1]
        simp only [aheadsL]
        rw [hm, ih ys ps h2]

theorem er_cont {es es' : List Ent} (h : es'.map Ent.cont = es.map Ent.cont) : es'.map Ent.er = es.map Ent.er := by
  have h1 : ∀ l : List Ent, l.map Ent.er = (l.map Ent.cont).map (fun c => (⟨c.1, c.2.1, c.2.2.1, none, 0, c.2.2.2⟩ : Ent)) := fun l => by rw [List.map_map]; rfl
  rw [h1 es', h1 es, h]
theorem Let.cont_fields {l l' : Let} (h : l'.cont = l.cont) : l' = { l with wA := l'.wA, wc := l'.wc, eA := l'.eA, ec := l'.ec, ents := l'.ents, mA := l'.mA, mc := l'.mc, uA := l'.uA, uc := l'.uc, bA := l'.bA, bc := l'.bc } ∧ l'.ents.map Ent.cont = l.ents.map Ent.cont := by
  obtain ⟨k1, k2, k3, k4, k5, k6, k7, k8, k9, k10, k11, k12, k13, k14, k15, k16, k17, k18, k19, k20, k21, k22, k23, k24, k25, k26, k27⟩ := l
  obtain ⟨j1, j2, j3, j4, j5, j6, j7, j8, j9, j10, j11, j12, j13, j14, j15, j16, j17, j18, j19, j20, j21, j22, j23, j24, j25, j26, j27⟩ := l'
  simp only [Let.cont, Let.snc, LetC.mk.injEq, Prod.mk.injEq] at h
  obtain ⟨rfl, rfl, rfl, rfl, rfl, rfl, rfl, rfl, rfl, rfl, h, ⟨rfl, rfl, rfl, rfl⟩, rfl, rfl⟩ := h
  exact ⟨rfl, h⟩
theorem right_cont {l l' : Let} (h : l'.cont = l.cont) : rightL l' = rightL l := by
  obtain ⟨h1, h2⟩ := Let.cont_fields h
  have her := er_cont h2
  have hl := er_len her
  generalize l'.ents = es' at *
  rw [h1]
  have hok : Let.ok { l with wA := l'.wA, wc := l'.wc, eA := l'.eA, ec := l'.ec, ents := es', mA := l'.mA, mc := l'.mc, uA := l'.uA, uc := l'.uc, bA := l'.bA, bc := l'.bc } = l.ok := by
    simp only [Let.ok, okT, ok0, carriedOk, snapOk, rowOk, goodsOk, aheadsOk, follows_er _ her, lastId_er _ her, goods_er her, aheads_er _ _ _ her, hl]
  unfold rightL
  rw [hok]
  congr 1
  unfold Let.own
  simp only [hl]
  split <;> try (simp only [plainEq, Let.base, Let.o1, Let.o2, Let.o3, Let.o4, Let.o5, Let.o6, Let.o7a, Let.o7b, Let.o8a, hl])
  all_goals (split <;> try (simp only [plainEq, Let.base, Let.o1, Let.o2, Let.o3, Let.o4, Let.o5, Let.o6, Let.o7a, Let.o7b, Let.o8a, hl]))
  all_goals (split <;> try (simp only [plainEq, Let.base, Let.o1, Let.o2, Let.o3, Let.o4, Let.o5, Let.o6, Let.o7a, Let.o7b, Let.o8a, hl]))
  all_goals (split <;> try (simp only [plainEq, Let.base, Let.o1, Let.o2, Let.o3, Let.o4, Let.o5, Let.o6, Let.o7a, Let.o7b, Let.o8a, hl]))
  all_goals (split <;> try (simp only [plainEq, Let.base, Let.o1, Let.o2, Let.o3, Let.o4, Let.o5, Let.o6, Let.o7a, Let.o7b, Let.o8a, hl]))
  all_goals (split <;> try (simp only [plainEq, Let.base, Let.o1, Let.o2, Let.o3, Let.o4, Let.o5, Let.o6, Let.o7a, Let.o7b, Let.o8a, hl]))
  all_goals (split <;> try (simp only [plainEq, Let.base, Let.o1, Let.o2, Let.o3, Let.o4, Let.o5, Let.o6, Let.o7a, Let.o7b, Let.o8a, hl]))
  all_goals (split <;> try (simp only [plainEq, Let.base, Let.o1, Let.o2, Let.o3, Let.o4, Let.o5, Let.o6, Let.o7a, Let.o7b, Let.o8a, hl]))
  all_goals (split <;> try (simp only [plainEq, Let.base, Let.o1, Let.o2, Let.o3, Let.o4, Let.o5, Let.o6, Let.o7a, Let.o7b, Let.o8a, hl]))
/-- A right letter goes between two replicas. -/
theorem right_ends {l : Let} (h : rightL l = true) : (1 ≤ l.frm ∧ l.frm ≤ 7) ∧ (1 ≤ l.too ∧ l.too ≤ 7) := by
  unfold rightL at h
  have h1 : l.ok = true := by revert h; cases l.ok <;> simp
  have h2 : ok0 l = true := by
    revert h1
    unfold Let.ok okT
    cases ok0 l
    · repeat' split
      all_goals simp
    · simp
  unfold ok0 at h2
  simp only [Bool.and_eq_true, inR_iff] at h2
  exact ⟨h2.1, h2.2.1.1⟩
end Go.Proofs.YtigljihohpdpeaaGreatDoor
