/-
  slices.Clone of the five rows of a letter.
  Whether a letter is right is told by its content.
  How great letters are: LetterOf, LettersOf.
  The argument opened: a letter.
  The argument opened: a whole letter.
  The argument opened: a row of deeds.
  great: what is gone through is small.
-/
import Derived.Test.YtjnllilmimngoaaGreatDoorM13
import Derived.Test.YtjnllilmimngoaaGreatDoorM12
import Derived.Test.YtjnllilmimngoaaGreatDoorM6
import Derived.SizedLaws
import Derived.ProofKit
import Derived.Deep.Slices
namespace Go.Proofs.YtjnllilmimngoaaGreatDoor
open Go.RowKit

theorem wpList_append_W {ops : Array Oper} {rest : List Oper} {o : Oper} {a : Act} {Q : Exit → Act → World → Prop} (w : World) (hgd : o.guard = none) (s x : Operand) (t : TypeId)
    (ho : o.op = .call { callee := .builtin .append, args := #[s, x], argTypes := #[t, t] }) (e : TypeId) (sz bytes : Nat) (ht : Tryz.prog.underlying t = some (.slice e))
    (hinfo : (Tryz.prog.info? e).map (fun i => (i.zero.map (fun z => z.cells.size), i.size, i.bytes)) = some (some sz, sz, bytes)) (hsz : 0 < sz)
    (B : Nat) (A : Option Addr) (n c : Nat) (xs : List Value) (hs : a.eval s = .slice A n c) (hown : OwnW sz w B e A n c xs)
    (D : Option Addr) (m cc : Nat) (news : List Value) (hx : a.eval x = .slice D m cc) (hl : news.length = m * sz) (hr : Rd w D news) (h1 : ∀ u ∈ news, u.oneCell' = true)
    (h63 : n + m ≤ maxLen) (hbytes : (n + m) * bytes ≤ 140737488355328) (hbase : B ≤ w.heap.size)
    (h : ∀ A' c' w', OwnW sz w' B e A' (n + m) c' (xs ++ news) → Fr (blk A) w w' → (∀ i, blk A' i → blk A i ∨ w.heap.size ≤ i) → (m = 0 → c' = c) → ((n + m ≤ c ∧ A' = A ∧ c' = c) ∨ (c < n + m ∧ Ext w w')) → wpList Tryz.prog ops Q rest (a.put o.dst (.slice A' (n + m) c')) w') : wpList Tryz.prog ops Q (o :: rest) a w := by
  refine wpList_plain hgd fun K hK => ?_
  obtain ⟨i0, hi, hz⟩ := Option.map_eq_some_iff.1 hinfo
  simp only [Prod.mk.injEq] at hz
  obtain ⟨hz0, hz1, hz2⟩ := hz
  obtain ⟨z, hz3, hz4⟩ := Option.map_eq_some_iff.1 hz0
  obtain ⟨v', w', h2, ⟨A', c', rfl, h3, h4, h5⟩, h6⟩ := run_append_W (P := Tryz.prog) w t o.type e i0 z sz bytes ht hi hz3 hz1 hsz hz2 hz4 B A n c xs hown D m cc news hl hr h1 h63 hbytes hbase
  unfold Oper.wp execOp
  simp only [ho, resolve, invoke, builtin, Sem.run_bind, Sem.run_pure, Result.andThen_ok, List.map_toArray, List.map_cons, List.map_nil, hs, hx, h2]
  exact hK _ _ (h A' c' w' h3 h4 h5 (fun hm => (Value.slice.inj (h6.1 hm)).2.2) (h6.2.imp (fun t => ⟨t.1, (Value.slice.inj t.2).1, (Value.slice.inj t.2).2.2⟩) id))
theorem ownW_empty (sz : Nat) (w : World) (B : Nat) (e : TypeId) (hB : B ≤ w.heap.size) : OwnW sz (w.alloc (.cells #[] e)) B e (some ⟨w.heap.size, 0, none⟩) 0 0 [] :=
  OwnW.mk hB (heap_alloc_new w _) (by simp) (by simp) (by simp) (by simp)
theorem ownW_fresh {sz : Nat} {w w1 w2 : World} {et : TypeId} {A : Option Addr} {n c : Nat} {xs : List Value} (h : OwnW sz w1 w.heap.size et A n c xs) (hE : Ext w w1) (hf : Fr (blk A) w1 w2) : Ext w w2 := by
  have h1 : Below w.heap.size w1 w2 := hf.below hE.sz (fun i hi => (h.lt hi).1)
  exact Below.trans hE h1
/-- A row of its own that reads xs. -/
def FreshW (sz : Nat) (et : TypeId) (n : Nat) (xs : List Value) (w : World) (e : Ending) (w' : World) : Prop := ∃ A' c', e = .returned (.slice A' n c') ∧ OwnW sz w' w.heap.size et A' n c' xs ∧ Ext w w' ∧ (n = 0 → c' = 0)
theorem infoClBytes : (Tryz.prog.info? 5).map (fun i => (i.zero.map (fun z => z.cells.size), i.size, i.bytes)) = some (some 1, 1, 1) := by kernel_rfl
set_option maxHeartbeats 400000 in
theorem cloneBytes_any (D : Option Addr) (n d : Nat) (xs : List Value) (w : World) (hx : xs.length = n * 1) (hD : Rd w D xs) (h1 : ∀ u ∈ xs, u.oneCell' = true) (hl : n ≤ 1000000000) :
    Calls Tryz.prog 85 #[.slice D n d] w (FreshW 1 5 n xs w) := by
  cases D with
  | none =>
    have hb : xs = [] := by
      cases xs with
      | nil => rfl
      | cons b bs => obtain ⟨ad, h, _⟩ := hD 0 b rfl; cases h
    subst hb
    obtain rfl : n = 0 := by simp at hx; omega
    have hq := fun (W : World) => Lib.run_eql_slice_nil (P := Tryz.prog) W 33 5 none 0 d 0 0 Tryz.underlying33
    go_enter Tryz.func85, Tryz.ntmps85
    go_wp2
    go_ret
    exact ⟨none, 0, rfl, OwnW.nil _ _ _ _, Ext.refl _, fun _ => rfl⟩
  | some ad =>
    have hD1 := hD.ext ((Ext.refl w).alloc (.cells #[] 5))
    have hO1 := ownW_empty 1 w w.heap.size 5 (Nat.le_refl _)
    have hq := fun (W : World) => Lib.run_eql_slice_nil (P := Tryz.prog) W 33 5 (some ad) n d 0 0 Tryz.underlying33
    go_enter Tryz.func85, Tryz.ntmps85
    go_wp2_with (at_builtin; refine wpList_append_W _ rfl _ _ 33 rfl 5 1 1 Tryz.underlying33 infoClBytes (by omega) w.heap.size _ _ _ [] rfl hO1 _ _ _ xs rfl hx hD1 h1 (by unfold maxLen; omega) (by omega) (by simp) ?_; intro A3 c3 w3 hown3 hfr3 hA3 hz3 hg3; have HZ3 := Lib.hid hz3; clear hz3 hg3)
    go_ret
    simp only [Nat.zero_add, List.nil_append] at hown3 ⊢
    exact ⟨A3, c3, rfl, hown3, ownW_fresh hO1 ((Ext.refl w).alloc _) hfr3, HZ3.out⟩
theorem infoClInts : (Tryz.prog.info? 3).map (fun i => (i.zero.map (fun z => z.cells.size), i.size, i.bytes)) = some (some 1, 1, 8) := by kernel_rfl
set_option maxHeartbeats 400000 in
theorem cloneInts_any (D : Option Addr) (n d : Nat) (xs : List Value) (w : World) (hx : xs.length = n * 1) (hD : Rd w D xs) (h1 : ∀ u ∈ xs, u.oneCell' = true) (hl : n ≤ 1000000000) :
    Calls Tryz.prog 87 #[.slice D n d] w (FreshW 1 3 n xs w) := by
  cases D with
  | none =>
    have hb : xs = [] := by
      cases xs with
      | nil => rfl
      | cons b bs => obtain ⟨ad, h, _⟩ := hD 0 b rfl; cases h
    subst hb
    obtain rfl : n = 0 := by simp at hx; omega
    have hq := fun (W : World) => Lib.run_eql_slice_nil (P := Tryz.prog) W 29 3 none 0 d 0 0 Tryz.underlying29
    go_enter Tryz.func87, Tryz.ntmps87
    go_wp2
    go_ret
    exact ⟨none, 0, rfl, OwnW.nil _ _ _ _, Ext.refl _, fun _ => rfl⟩
  | some ad =>
    have hD1 := hD.ext ((Ext.refl w).alloc (.cells #[] 3))
    have hO1 := ownW_empty 1 w w.heap.size 3 (Nat.le_refl _)
    have hq := fun (W : World) => Lib.run_eql_slice_nil (P := Tryz.prog) W 29 3 (some ad) n d 0 0 Tryz.underlying29
    go_enter Tryz.func87, Tryz.ntmps87
    go_wp2_with (at_builtin; refine wpList_append_W _ rfl _ _ 29 rfl 3 1 8 Tryz.underlying29 infoClInts (by omega) w.heap.size _ _ _ [] rfl hO1 _ _ _ xs rfl hx hD1 h1 (by unfold maxLen; omega) (by omega) (by simp) ?_; intro A3 c3 w3 hown3 hfr3 hA3 hz3 hg3; have HZ3 := Lib.hid hz3; clear hz3 hg3)
    go_ret
    simp only [Nat.zero_add, List.nil_append] at hown3 ⊢
    exact ⟨A3, c3, rfl, hown3, ownW_fresh hO1 ((Ext.refl w).alloc _) hfr3, HZ3.out⟩
theorem infoClLimbs : (Tryz.prog.info? 145).map (fun i => (i.zero.map (fun z => z.cells.size), i.size, i.bytes)) = some (some 1, 1, 4) := by kernel_rfl
set_option maxHeartbeats 400000 in
theorem cloneLimbs_any (D : Option Addr) (n d : Nat) (xs : List Value) (w : World) (hx : xs.length = n * 1) (hD : Rd w D xs) (h1 : ∀ u ∈ xs, u.oneCell' = true) (hl : n ≤ 1000000000) :
    Calls Tryz.prog 88 #[.slice D n d] w (FreshW 1 145 n xs w) := by
  cases D with
  | none =>
    have hb : xs = [] := by
      cases xs with
      | nil => rfl
      | cons b bs => obtain ⟨ad, h, _⟩ := hD 0 b rfl; cases h
    subst hb
    obtain rfl : n = 0 := by simp at hx; omega
    have hq := fun (W : World) => Lib.run_eql_slice_nil (P := Tryz.prog) W 30 145 none 0 d 0 0 Tryz.underlying30
    go_enter Tryz.func88, Tryz.ntmps88
    go_wp2
    go_ret
    exact ⟨none, 0, rfl, OwnW.nil _ _ _ _, Ext.refl _, fun _ => rfl⟩
  | some ad =>
    have hD1 := hD.ext ((Ext.refl w).alloc (.cells #[] 145))
    have hO1 := ownW_empty 1 w w.heap.size 145 (Nat.le_refl _)
    have hq := fun (W : World) => Lib.run_eql_slice_nil (P := Tryz.prog) W 30 145 (some ad) n d 0 0 Tryz.underlying30
    go_enter Tryz.func88, Tryz.ntmps88
    go_wp2_with (at_builtin; refine wpList_append_W _ rfl _ _ 30 rfl 145 1 4 Tryz.underlying30 infoClLimbs (by omega) w.heap.size _ _ _ [] rfl hO1 _ _ _ xs rfl hx hD1 h1 (by unfold maxLen; omega) (by omega) (by simp) ?_; intro A3 c3 w3 hown3 hfr3 hA3 hz3 hg3; have HZ3 := Lib.hid hz3; clear hz3 hg3)
    go_ret
    simp only [Nat.zero_add, List.nil_append] at hown3 ⊢
    exact ⟨A3, c3, rfl, hown3, ownW_fresh hO1 ((Ext.refl w).alloc _) hfr3, HZ3.out⟩
theorem infoClIds : (Tryz.prog.info? 26).map (fun i => (i.zero.map (fun z => z.cells.size), i.size, i.bytes)) = some (some 3, 3, 24) := by kernel_rfl
set_option maxHeartbeats 400000 in
theorem cloneIds_any (D : Option Addr) (n d : Nat) (xs : List Value) (w : World) (hx : xs.length = n * 3) (hD : Rd w D xs) (h1 : ∀ u ∈ xs, u.oneCell' = true) (hl : n ≤ 1000000000) :
    Calls Tryz.prog 84 #[.slice D n d] w (FreshW 3 26 n xs w) := by
  cases D with
  | none =>
    have hb : xs = [] := by
      cases xs with
      | nil => rfl
      | cons b bs => obtain ⟨ad, h, _⟩ := hD 0 b rfl; cases h
    subst hb
    obtain rfl : n = 0 := by simp at hx; omega
    have hq := fun (W : World) => Lib.run_eql_slice_nil (P := Tryz.prog) W 27 26 none 0 d 0 0 Tryz.underlying27
    go_enter Tryz.func84, Tryz.ntmps84
    go_wp2
    go_ret
    exact ⟨none, 0, rfl, OwnW.nil _ _ _ _, Ext.refl _, fun _ => rfl⟩
  | some ad =>
    have hD1 := hD.ext ((Ext.refl w).alloc (.cells #[] 26))
    have hO1 := ownW_empty 3 w w.heap.size 26 (Nat.le_refl _)
    have hq := fun (W : World) => Lib.run_eql_slice_nil (P := Tryz.prog) W 27 26 (some ad) n d 0 0 Tryz.underlying27
    go_enter Tryz.func84, Tryz.ntmps84
    go_wp2_with (at_builtin; refine wpList_append_W _ rfl _ _ 27 rfl 26 3 24 Tryz.underlying27 infoClIds (by omega) w.heap.size _ _ _ [] rfl hO1 _ _ _ xs rfl hx hD1 h1 (by unfold maxLen; omega) (by omega) (by simp) ?_; intro A3 c3 w3 hown3 hfr3 hA3 hz3 hg3; have HZ3 := Lib.hid hz3; clear hz3 hg3)
    go_ret
    simp only [Nat.zero_add, List.nil_append] at hown3 ⊢
    exact ⟨A3, c3, rfl, hown3, ownW_fresh hO1 ((Ext.refl w).alloc _) hfr3, HZ3.out⟩
theorem infoClEnts : (Tryz.prog.info? 121).map (fun i => (i.zero.map (fun z => z.cells.size), i.size, i.bytes)) = some (some 4, 4, 48) := by kernel_rfl
set_option maxHeartbeats 400000 in
theorem cloneEnts_any (D : Option Addr) (n d : Nat) (xs : List Value) (w : World) (hx : xs.length = n * 4) (hD : Rd w D xs) (h1 : ∀ u ∈ xs, u.oneCell' = true) (hl : n ≤ 1000000000) :
    Calls Tryz.prog 86 #[.slice D n d] w (FreshW 4 121 n xs w) := by
  cases D with
  | none =>
    have hb : xs = [] := by
      cases xs with
      | nil => rfl
      | cons b bs => obtain ⟨ad, h, _⟩ := hD 0 b rfl; cases h
    subst hb
    obtain rfl : n = 0 := by simp at hx; omega
    have hq := fun (W : World) => Lib.run_eql_slice_nil (P := Tryz.prog) W 28 121 none 0 d 0 0 Tryz.underlying28
    go_enter Tryz.func86, Tryz.ntmps86
    go_wp2
    go_ret
    exact ⟨none, 0, rfl, OwnW.nil _ _ _ _, Ext.refl _, fun _ => rfl⟩
  | some ad =>
    have hD1 := hD.ext ((Ext.refl w).alloc (.cells #[] 121))
    have hO1 := ownW_empty 4 w w.heap.size 121 (Nat.le_refl _)
    have hq := fun (W : World) => Lib.run_eql_slice_nil (P := Tryz.prog) W 28 121 (some ad) n d 0 0 Tryz.underlying28
    go_enter Tryz.func86, Tryz.ntmps86
    go_wp2_with (at_builtin; refine wpList_append_W _ rfl _ _ 28 rfl 121 4 48 Tryz.underlying28 infoClEnts (by omega) w.heap.size _ _ _ [] rfl hO1 _ _ _ xs rfl hx hD1 h1 (by unfold maxLen; omega) (by omega) (by simp) ?_; intro A3 c3 w3 hown3 hfr3 hA3 hz3 hg3; have HZ3 := Lib.hid hz3; clear hz3 hg3)
    go_ret
    simp only [Nat.zero_add, List.nil_append] at hown3 ⊢
    exact ⟨A3, c3, rfl, hown3, ownW_fresh hO1 ((Ext.refl w).alloc _) hfr3, HZ3.out⟩
end Go.Proofs.YtjnllilmimngoaaGreatDoor
namespace Go.Proofs.YtjnllilmimngoaaGreatDoor
open Go.RowKit

/-- An entry without its address. -/
def Ent.er (e : Ent) : Ent := ⟨e.i, e.t, e.k, none, 0, e.bs⟩
theorem er_len {es es' : List Ent} (h : es'.map Ent.er = es.map Ent.er) : es'.length = es.length := by have := congrArg List.length h; simpa using this
theorem goods_er {es es' : List Ent} (h : es'.map Ent.er = es.map Ent.er) : es'.all Ent.good = es.all Ent.good := by
  have h1 : ∀ l : List Ent, l.all Ent.good = (l.map Ent.er).all Ent.good := fun l => by rw [List.all_map]; rfl
  rw [h1 es', h1 es, h]
theorem rowE_er : ∀ (es es' : List Ent) (a : Id) (j : Nat), es'.map Ent.er = es.map Ent.er → rowE a j es' = rowE a j es := by
  intro es
  induction es with
  | nil => intro es' a j h; cases es' with | nil => rfl | cons _ _ => cases h
  | cons x es ih =>
    intro es' a j h
    cases es' with
    | nil => cases h
    | cons y ys =>
      simp only [List.map_cons, List.cons.injEq] at h
      obtain ⟨h1, h2⟩ := h
      have hm : meetsN a y = meetsN a x := by
        have e1 : meetsN a y = meetsN a y.er := rfl
        have e2 : meetsN a x = meetsN a x.er := rfl
        rw [e1, e2, h1]
      have hid : y.id = x.id := by
        have e1 : y.id = y.er.id := rfl
        have e2 : x.id = x.er.id := rfl
        rw [e1, e2, h1]
      unfold rowE
      rw [hm, hid, ih ys x.id (j + 1) h2]
theorem follows_er {es es' : List Ent} (p : Id) (h : es'.map Ent.er = es.map Ent.er) : followsN p es' = followsN p es := by
  unfold followsN
  rw [rowE_er es es' p 0 h]
theorem lastId_er {es es' : List Ent} (p : Id) (h : es'.map Ent.er = es.map Ent.er) : lastId p es' = lastId p es := by
  have hl := er_len h
  unfold lastId
  by_cases h0 : 0 < es.length
  · rw [dif_pos (by omega), dif_pos h0]
    have h1 : (es'.map Ent.er)[es'.length - 1]? = (es.map Ent.er)[es.length - 1]? := by rw [h, hl]
    rw [List.getElem?_map, List.getElem?_map, List.getElem?_eq_getElem (by omega), List.getElem?_eq_getElem (by omega)] at h1
    simp only [Option.map_some, Option.some.injEq] at h1
    have h2 := congrArg Ent.id h1
    exact h2
  · rw [dif_neg (by omega), dif_neg h0]
theorem aheads_er : ∀ (es es' : List Ent) (ps : List Id), es'.map Ent.er = es.map Ent.er → aheadsL es' ps = aheadsL es ps := by
  intro es
  induction es with
  | nil => intro es' ps h; cases es' with | nil => rfl | cons _ _ => cases h
  | cons x es ih =>
    intro es' ps h
    cases es' with
    | nil => cases h
    | cons y ys =>
      simp only [List.map_cons, List.cons.injEq] at h
      obtain ⟨h1, h2⟩ := h
      cases ps with
      | nil => rfl
      | cons p ps =>
        have hm : aheadAt y p = aheadAt x p := by
          have e1 : aheadAt y p = aheadAt y.er p := rfl
          have e2 : aheadAt x p = aheadAt x.er p := rfl
          rw [e1, e2, h1]
        simp only [aheadsL]
        rw [hm, ih ys ps h2]

theorem er_cont {es es' : List Ent} (h : es'.map Ent.cont = es.map Ent.cont) : es'.map Ent.er = es.map Ent.er := by
  have h1 : ∀ l : List Ent, l.map Ent.er = (l.map Ent.cont).map (fun c => (⟨c.1, c.2.1, c.2.2.1, none, 0, c.2.2.2⟩ : Ent)) := fun l => by rw [List.map_map]; rfl
  rw [h1 es', h1 es, h]
theorem Let.cont_fields {l l' : Let} (h : l'.cont = l.cont) : l' = { l with wA := l'.wA, wc := l'.wc, eA := l'.eA, ec := l'.ec, ents := l'.ents, mA := l'.mA, mc := l'.mc, uA := l'.uA, uc := l'.uc, bA := l'.bA, bc := l'.bc } ∧ l'.ents.map Ent.cont = l.ents.map Ent.cont := by
  obtain ⟨k1, k2, k3, k4, k5, k6, k7, k8, k9, k10, k11, k12, k13, k14, k15, k16, k17, k18, k19, k20, k21, k22, k23, k24, k25, k26, k27⟩ := l
  obtain ⟨j1, j2, j3, j4, j5, j6, j7, j8, j9, j10, j11, j12, j13, j14, j15, j16, j17, j18, j19, j20, j21, j22, j23, j24, j25, j26, j27⟩ := l'
  simp only [Let.cont, Let.snc, LetC.mk.injEq, Prod.mk.injEq] at h
  obtain ⟨rfl, rfl, rfl, rfl, rfl, rfl, rfl, rfl, rfl, rfl, h, ⟨rfl, rfl, rfl, rfl⟩, rfl, rfl⟩ := h
  exact ⟨rfl, h⟩
theorem right_cont {l l' : Let} (h : l'.cont = l.cont) : rightL l' = rightL l := by
  obtain ⟨h1, h2⟩ := Let.cont_fields h
  have her := er_cont h2
  have hl := er_len her
  generalize l'.ents = es' at *
  rw [h1]
  have hok : Let.ok { l with wA := l'.wA, wc := l'.wc, eA := l'.eA, ec := l'.ec, ents := es', mA := l'.mA, mc := l'.mc, uA := l'.uA, uc := l'.uc, bA := l'.bA, bc := l'.bc } = l.ok := by
    simp only [Let.ok, okT, ok0, carriedOk, snapOk, rowOk, goodsOk, aheadsOk, follows_er _ her, lastId_er _ her, goods_er her, aheads_er _ _ _ her, hl]
  unfold rightL
  rw [hok]
  congr 1
  unfold Let.own
  simp only [hl]
  split <;> try (simp only [plainEq, Let.base, Let.o1, Let.o2, Let.o3, Let.o4, Let.o5, Let.o6, Let.o7a, Let.o7b, Let.o8a, hl])
  all_goals (split <;> try (simp only))
  all_goals (split <;> try (simp only [hl]))
  all_goals (split <;> try (simp only))
  all_goals (split <;> try (simp only))
  all_goals (split <;> try (simp only))
  all_goals (split <;> try (simp only [plainEq, Let.base, Let.o1, Let.o2, Let.o3, Let.o4, Let.o5, Let.o6, Let.o7a, Let.o7b, Let.o8a, hl]))
  all_goals (split <;> try (simp only))
  all_goals (split <;> try (simp only [hl]))
/-- A right letter goes between two replicas. -/
theorem right_ends {l : Let} (h : rightL l = true) : (1 ≤ l.frm ∧ l.frm ≤ 7) ∧ (1 ≤ l.too ∧ l.too ≤ 7) := by
  unfold rightL at h
  have h1 : l.ok = true := by revert h; cases l.ok <;> simp
  have h2 : ok0 l = true := by
    revert h1
    unfold Let.ok okT
    cases ok0 l
    · repeat' split
      all_goals simp
    · simp
  unfold ok0 at h2
  simp only [Bool.and_eq_true, inR_iff] at h2
  exact ⟨h2.1, h2.2.1.1⟩
end Go.Proofs.YtjnllilmimngoaaGreatDoor
namespace Go.Proofs.YtjnllilmimngoaaGreatDoor
open Go.RowKit

/-- What is needed of a letter's lengths. -/
structure Let.small (l : Let) : Prop where
  s1 : l.want.length ≤ 1000000000
  s2 : l.ents.length ≤ 1000000000
  s3 : ∀ e ∈ l.ents, e.bs.length ≤ 1000000000
  s4 : l.mems.length ≤ 1000000000
  s5 : l.sums.length ≤ 1000000000
  s6 : l.bs.length ≤ 1000000000
def EoP (es : List Ent) (w : World) (e : Ending) (w' : World) : Prop := ∃ n : Int, e = .returned (.int .i64 n) ∧ 0 ≤ n ∧ n ≤ 140737488359400 ∧ (n ≤ 1500 → (es.length : Int) ≤ n ∧ ∀ x ∈ es, (x.bs.length : Int) ≤ n) ∧ w = w'
def EoRel2 (es : List Ent) (v i : Value) : Prop := ∃ (k : Nat) (z : Int), k ≤ es.length ∧ i = .int .i64 k ∧ v = .int .i64 z ∧ 0 ≤ z ∧ z ≤ 140737488359400 ∧ (k : Int) ≤ z ∧ ∀ x ∈ es.take k, (x.bs.length : Int) ≤ z
set_option maxHeartbeats 600000 in
theorem entriesOf_le (A : Option Addr) (c : Nat) (es : List Ent) (w : World) (hA : EntsIn w A es) (hl : es.length ≤ maxLen) (hb : ∀ x ∈ es, x.bs.length ≤ 140737488355328) :
    Calls Tryz.prog 95 #[.slice A es.length c, .int .i64 1500] w (EoP es w) := by
  unfold maxLen at hl
  go_enter Tryz.func95, Tryz.ntmps95
  go_wp2
  go_loop [5, 6] (fun v i => EoRel2 es v i) (fun _ i => es.length - (intOf i).toNat)
  case atStart => exact ⟨0, 0, Nat.zero_le _, rfl, rfl, by omega, by omega, by omega, fun x hx => by simp at hx⟩
  case round =>
    obtain ⟨k, z, hk, rfl, rfl, hz0, hz1, hkz, hr⟩ := hrel
    have HR := Lib.hid hr
    clear hr
    by_cases hlt : k < es.length
    · by_cases hz : z ≤ 1500
      · have dz : decide (z ≤ 1500) = true := by simpa using hz
        obtain ⟨b, f, e, rfl, he, c0, c1, c2, c3, hin⟩ := hA.at_ hlt
        have hbe := hb e (List.mem_of_getElem? he)
        have HT := Lib.hid (take_snoc' he)
        have w1 : IntKind.i64.wrap (z + 1) = z + 1 := IntWalk.i64_in _ (by omega)
        have w2 : IntKind.i64.wrap (z + 1 + (e.bs.length : Int)) = z + 1 + (e.bs.length : Int) := IntWalk.i64_in _ (by omega)
        clear he c0 c1 c2 hin
        go_wp2
        go_round
        case rel => exact ⟨k + 1, z + 1 + (e.bs.length : Int), by omega, by go_num, rfl, by omega, by omega, by omega, fun x hx => by
          rw [HT.out] at hx
          rcases List.mem_append.1 hx with hx | hx
          · have := HR.out x hx; omega
          · simp at hx; subst hx; omega⟩
        case measure => simp [intOf]; omega
      · have dz : decide (z ≤ 1500) = false := by simpa using hz
        go_wp2
        go_ret
        exact ⟨z, rfl, hz0, hz1, fun h => by omega, rfl⟩
    · obtain rfl : k = es.length := by omega
      have hr := HR.out
      rw [List.take_length] at hr
      go_wp2
      go_ret
      exact ⟨z, rfl, hz0, hz1, fun _ => ⟨hkz, hr⟩, rfl⟩
def LoP (l : Let) (w : World) (e : Ending) (w' : World) : Prop := ∃ n : Int, e = .returned (.int .i64 n) ∧ 1 ≤ n ∧ n ≤ 1000000000000000 ∧ (n ≤ 1500 → l.small) ∧ Ext w w'
set_option maxRecDepth 100000 in
set_option maxHeartbeats 1000000 in
theorem letterOf_le (l : Let) (w : World) (hin : l.inW w) (hb : ∀ x ∈ l.ents, x.bs.length ≤ 140737488355328) : Calls Tryz.prog 51 #[l.v, .int .i64 1500] w (LoP l w) := by
  have he2 := hin.e2
  have hw2 := hin.w2
  have hm2 := hin.m2
  have hu2 := hin.u2
  have hb2 := hin.b2
  have HEO := Lib.hid (fun w' (h : Ext w w') => entriesOf_le l.eA l.ec l.ents w' (hin.e1.ext h) (by unfold maxLen; omega) hb)
  have hV : l.v = .agg l.arr := rfl
  rw [hV]
  clear hin hV hb
  have x1 : IntKind.i64.wrap (1 + (l.want.length : Int)) = 1 + (l.want.length : Int) := IntWalk.i64_in _ (by omega)
  have x2 : IntKind.i64.wrap (1 + (l.want.length : Int) + (l.bs.length : Int)) = 1 + (l.want.length : Int) + (l.bs.length : Int) := IntWalk.i64_in _ (by omega)
  have x3 : IntKind.i64.wrap (1 + (l.want.length : Int) + (l.bs.length : Int) + (l.mems.length : Int)) = 1 + (l.want.length : Int) + (l.bs.length : Int) + (l.mems.length : Int) := IntWalk.i64_in _ (by omega)
  have x4 : IntKind.i64.wrap (1 + (l.want.length : Int) + (l.bs.length : Int) + (l.mems.length : Int) + (l.sums.length : Int)) = 1 + (l.want.length : Int) + (l.bs.length : Int) + (l.mems.length : Int) + (l.sums.length : Int) := IntWalk.i64_in _ (by omega)
  go_enter Tryz.func51, Tryz.ntmps51
  go_wp2_with fail
  have EB := Lib.hid (heap_alloc_new w (.cells l.arr 35))
  refine Stab.wp_region_lex Ext (Ext _) (fun _ => True) (by kernel_rfl) (by kernel_rfl) (fun _ _ h => h) (fun _ _ h k => Ext.trans h k) (fun _ _ _ _ => trivial) ((Ext.refl _).drew) trivial ?_
  simp only [Stab.zipL, Nat.reduceAdd]
  iterate 21 (refine Stab.wpX_val rfl rfl ?_; apply Exists.intro; refine ⟨fun wx hC _ => ?_, ?_⟩; (have r := cell_of_heap (hC.blk EB.out); go_simp; exact ⟨Ext.refl _, rfl⟩); simp only [Act.put, List.setIfInBounds_toArray, List.set_cons_zero, List.set_cons_succ])
  refine Stab.wpX_call (fun u _ => ∃ n : Int, u = .int .i64 n ∧ 0 ≤ n ∧ n ≤ 140737488359400 ∧ (n ≤ 1500 → (l.ents.length : Int) ≤ n ∧ ∀ x ∈ l.ents, (x.bs.length : Int) ≤ n)) (fun _ _ => True) rfl rfl (fun _ _ _ h _ => h) (fun _ _ _ _ _ => trivial) ?_ ?_
  · intro wx hC _ hF
    go_simp
    refine ⟨rfl, ?_⟩
    refine (HEO.out _ (((Ext.refl _).alloc _).trans hC)).mono ?_
    rintro ev w9 ⟨n, rfl, h0, h1, h2, rfl⟩
    exact ⟨Ext.refl _, n, rfl, h0, h1, h2⟩
  rintro ux ⟨_, _, ⟨n, rfl, hn0, hn1, hn2⟩, _⟩
  have x5 : IntKind.i64.wrap (1 + (l.want.length : Int) + (l.bs.length : Int) + (l.mems.length : Int) + (l.sums.length : Int) + n) = 1 + (l.want.length : Int) + (l.bs.length : Int) + (l.mems.length : Int) + (l.sums.length : Int) + n := IntWalk.i64_in _ (by omega)
  have HN := Lib.hid hn2
  clear hn2
  simp only [Act.put, List.setIfInBounds_toArray, List.set_cons_zero, List.set_cons_succ]
  iterate 2 (refine Stab.wpX_val rfl rfl ?_; apply Exists.intro; refine ⟨fun wx hC _ => ?_, ?_⟩; (have r := cell_of_heap (hC.blk EB.out); go_simp; exact ⟨Ext.refl _, rfl⟩); simp only [Act.put, List.setIfInBounds_toArray, List.set_cons_zero, List.set_cons_succ])
  refine Stab.wpX_end fun w8 hC8 _ hF8 => ?_
  go_wp2_with fail
  go_ret
  refine ⟨1 + (l.want.length : Int) + (l.bs.length : Int) + (l.mems.length : Int) + (l.sums.length : Int) + n, rfl, by omega, by omega, fun h => ?_, ((Ext.refl _).alloc _).trans hC8⟩
  obtain ⟨h3, h4⟩ := HN.out (by omega)
  exact ⟨by omega, by omega, fun x hx => by have := h4 x hx; omega, by omega, by omega, by omega⟩

def LsP (ls : List Let) (w : World) (e : Ending) (w' : World) : Prop := ∃ n : Int, e = .returned (.int .i64 n) ∧ 0 ≤ n ∧ n ≤ 2000000000000000 ∧ (n ≤ 1500 → (ls.length : Int) ≤ n ∧ ∀ l ∈ ls, l.small) ∧ Ext w w'
def LsRel (ls : List Let) (w : World) (v i : Value) (wr : World) : Prop := ∃ (k : Nat) (z : Int), k ≤ ls.length ∧ i = .int .i64 k ∧ v = .int .i64 z ∧ 0 ≤ z ∧ z ≤ 2000000000000000 ∧ (k : Int) ≤ z ∧ (z ≤ 1500 → ∀ l ∈ ls.take k, l.small) ∧ Ext w wr
set_option maxRecDepth 100000 in
set_option maxHeartbeats 1000000 in
theorem lettersOf_any (A : Option Addr) (c : Nat) (ls : List Let) (w : World) (hA : LetsIn w A ls) (hl : ls.length ≤ 140737488355328) (hb : ∀ l ∈ ls, ∀ x ∈ l.ents, x.bs.length ≤ 140737488355328) :
    Calls Tryz.prog 23 #[.slice A ls.length c, .int .i64 1500] w (LsP ls w) := by
  go_enter Tryz.func23, Tryz.ntmps23
  go_wp2
  go_loopw [5, 6] (fun v i wr => LsRel ls w v i wr) (fun _ i _ => ls.length - (intOf i).toNat)
  case atStart => exact ⟨0, 0, Nat.zero_le _, rfl, rfl, by omega, by omega, by omega, fun _ x hx => by simp at hx, Ext.refl _⟩
  case round =>
    obtain ⟨k, z, hk, rfl, rfl, hz0, hz1, hkz, hr, hE⟩ := hrel
    have HR := Lib.hid hr
    have HE := Lib.hid hE
    clear hr hE
    by_cases hlt : k < ls.length
    · by_cases hz : z ≤ 1500
      · have dz : decide (z ≤ 1500) = true := by simpa using hz
        obtain ⟨b, f, l, rfl, he, hr, hin⟩ := (hA.ext HE.out).at_ hlt
        have HT := Lib.hid (take_snoc' he)
        have HL := Lib.hid (fun wx (h : Ext wr wx) => letterOf_le l wx (hin.ext h) (hb l (List.mem_of_getElem? he)))
        clear he hin
        go_wp2_with (refine wpList_load_letAt rfl _ rfl b (f + k * 23) l (by simp [Act.eval]) hr ?_)
        refine (HL.out _ (Ext.refl _)).mono ?_
        rintro ev w1 ⟨v, rfl, hv1, hv2, hv3, hE1⟩
        have x1 : IntKind.i64.wrap (z + v) = z + v := IntWalk.i64_in _ (by omega)
        have HV := Lib.hid hv3
        have HE1 := Lib.hid (HE.out.trans hE1)
        clear hv3 hE1
        go_wp2
        go_roundw
        case rel => exact ⟨k + 1, z + v, by omega, by go_num, rfl, by omega, by omega, by omega, fun h5 x hx => by
          rw [HT.out] at hx
          rcases List.mem_append.1 hx with hx | hx
          · exact HR.out (by omega) x hx
          · simp at hx; subst hx; exact HV.out (by omega), HE1.out⟩
        case measure => simp [intOf]; omega
      · have dz : decide (z ≤ 1500) = false := by simpa using hz
        go_wp2
        go_ret
        exact ⟨z, rfl, hz0, hz1, fun h => by omega, HE.out⟩
    · obtain rfl : k = ls.length := by omega
      have hr := HR.out
      rw [List.take_length] at hr
      go_wp2
      go_ret
      exact ⟨z, rfl, hz0, hz1, fun h => ⟨hkz, hr h⟩, HE.out⟩
end Go.Proofs.YtjnllilmimngoaaGreatDoor
namespace Go.Proofs.YtjnllilmimngoaaGreatDoor
open Go.ChangeShapes Go.WideShapes Go.ChangeAt Go.RowKit Go.Deep

section
variable {H : Type} {enc : TypeId × Value → H} {w : World}
def Id.cells (p : Id) : List Value := [.int .i64 p.i, .int .i64 p.t, .int .i64 p.k]
def Ent.cells (e : Ent) : List Value := [.int .i64 e.i, .int .i64 e.t, .int .i64 e.k, .slice e.bA e.bs.length e.bc]
theorem c3 : Tryz.prog.cellsOf 3 = 1 := by kernel_rfl
theorem c4 : Tryz.prog.cellsOf 4 = 1 := by kernel_rfl
theorem c5 : Tryz.prog.cellsOf 5 = 1 := by kernel_rfl
theorem c22 : Tryz.prog.cellsOf 23 = 1 := by kernel_rfl
end
end Go.Proofs.YtjnllilmimngoaaGreatDoor
namespace Go.Proofs.YtjnllilmimngoaaGreatDoor
open Go.ChangeShapes Go.WideShapes Go.ChangeAt Go.RowKit Go.Deep

section
variable {H : Type} {enc : TypeId × Value → H} {w : World}
end
end Go.Proofs.YtjnllilmimngoaaGreatDoor
namespace Go.Proofs.YtjnllilmimngoaaGreatDoor
open Go.ChangeShapes Go.WideShapes Go.ChangeAt Go.RowKit Go.Deep

/-- A letter whose entries' bytes are not too many. -/
def Let.modest (l : Let) : Prop := ∀ x ∈ l.ents, x.bs.length ≤ 140737488355328
structure Deed where
  what : Int
  i : Int
  off : Bool
  lA : Option Addr
  lc : Nat
  ls : List Let
def Deed.cells (d : Deed) : List Value := [.int .i64 d.what, .int .i64 d.i, .bool d.off, .slice d.lA d.ls.length d.lc]
structure Deed.inW (w : World) (d : Deed) : Prop where
  l1 : LetsIn w d.lA d.ls
  l2 : d.ls.length ≤ 140737488355328
  l3 : ∀ l ∈ d.ls, l.modest
def DeedsIn (w : World) (A : Option Addr) (ds : List Deed) : Prop := ∀ k d, ds[k]? = some d → ∃ b f, A = some ⟨b, f, none⟩ ∧ World.rangeAt w b (f + k * 4) d.cells ∧ d.inW w
theorem Deed.inW.ext {w w' : World} {d : Deed} (h : d.inW w) (he : Ext w w') : d.inW w' := ⟨h.l1.ext he, h.l2, h.l3⟩
theorem DeedsIn.at_ {w : World} {A : Option Addr} {ds : List Deed} (h : DeedsIn w A ds) {k : Nat} (hk : k < ds.length) : ∃ b f d, A = some ⟨b, f, none⟩ ∧ ds[k]? = some d ∧ World.rangeAt w b (f + k * 4) d.cells ∧ d.inW w := by
  obtain ⟨b, f, h1, h2⟩ := h k _ (List.getElem?_eq_getElem hk)
  exact ⟨b, f, ds[k], h1, List.getElem?_eq_getElem hk, h2⟩
theorem DeedsIn.ext {w w' : World} {A : Option Addr} {ds : List Deed} (h : DeedsIn w A ds) (he : Ext w w') : DeedsIn w' A ds := fun k d hk => by
  obtain ⟨b, f, h1, h2, h3⟩ := h k d hk
  exact ⟨b, f, h1, fun j v hv => he.cell (h2 j v hv), h3.ext he⟩

section
variable {H : Type} {enc : TypeId × Value → H} {w : World}
end
end Go.Proofs.YtjnllilmimngoaaGreatDoor
namespace Go.Proofs.YtjnllilmimngoaaGreatDoor
open Go.RowKit

def lens (ds : List Deed) : Nat := (ds.map fun d => d.ls.length).sum
theorem lens_snoc (ds : List Deed) (d : Deed) : lens (ds ++ [d]) = lens ds + d.ls.length := by simp [lens]
def GrP (ds : List Deed) (w : World) (e : Ending) (w' : World) : Prop := ∃ b : Bool, e = .returned (.bool b) ∧ (b = false → ds.length ≤ 60 ∧ ds.length + lens ds ≤ 1500 ∧ ∀ d ∈ ds, ∀ l ∈ d.ls, l.small) ∧ Ext w w'
def GrRel (ds : List Deed) (w : World) (v i : Value) (wr : World) : Prop := ∃ (k : Nat) (z : Int), k ≤ ds.length ∧ i = .int .i64 k ∧ v = .int .i64 z ∧ 0 ≤ z ∧ z ≤ 3000000000000000 ∧ (z ≤ 1500 → (ds.length : Int) + lens (ds.take k) ≤ z ∧ ∀ d ∈ ds.take k, ∀ l ∈ d.ls, l.small) ∧ Ext w wr
set_option maxRecDepth 100000 in
set_option maxHeartbeats 1000000 in
theorem great_any (A : Option Addr) (c : Nat) (ds : List Deed) (w : World) (hA : DeedsIn w A ds) (hl : ds.length ≤ 140737488355328) :
    Calls Tryz.prog 9 #[.slice A ds.length c] w (GrP ds w) := by
  go_enter Tryz.func9, Tryz.ntmps9
  go_wp2
  go_loopw [3, 4] (fun v i wr => GrRel ds w v i wr) (fun _ i _ => ds.length - (intOf i).toNat)
  case atStart => exact ⟨0, ds.length, Nat.zero_le _, rfl, rfl, by omega, by omega, fun _ => ⟨by simp [lens], fun d hd => by simp at hd⟩, Ext.refl _⟩
  case round =>
    obtain ⟨k, z, hk, rfl, rfl, hz0, hz1, hr, hE⟩ := hrel
    have HR := Lib.hid hr
    have HE := Lib.hid hE
    clear hr hE
    by_cases hlt : k < ds.length
    · by_cases hz : z ≤ 1500
      · have dz : decide (z ≤ 1500) = true := by simpa using hz
        obtain ⟨b, f, d, rfl, he, hr, hin⟩ := (hA.ext HE.out).at_ hlt
        have HT := Lib.hid (take_snoc' he)
        have c3 := hr 3 _ rfl
        have HL := Lib.hid (lettersOf_any d.lA d.lc d.ls wr hin.l1 hin.l2 hin.l3)
        clear he hin hr
        go_wp2_with fail
        refine (HL.out).mono ?_
        rintro ev w1 ⟨v, rfl, hv1, hv2, hv3, hE1⟩
        have x1 : IntKind.i64.wrap (z + v) = z + v := IntWalk.i64_in _ (by omega)
        have HV := Lib.hid hv3
        have HE1 := Lib.hid (HE.out.trans hE1)
        clear hv3 hE1
        go_wp2
        go_roundw
        case rel => exact ⟨k + 1, z + v, by omega, by go_num, rfl, by omega, by omega, fun h5 => by
          have h6 := HR.out (by omega)
          have h7 := HV.out (by omega)
          rw [HT.out, lens_snoc]
          refine ⟨by omega, fun x hx => ?_⟩
          rcases List.mem_append.1 hx with hx | hx
          · exact h6.2 x hx
          · simp at hx; subst hx; exact h7.2, HE1.out⟩
        case measure => simp [intOf]; omega
      · have dz : decide (z ≤ 1500) = false := by simpa using hz
        have dz2 : decide (1500 < z) = true := by simp; omega
        go_wp2
        go_ret
        exact ⟨true, rfl, fun h => by simp at h, HE.out⟩
    · obtain rfl : k = ds.length := by omega
      have hr := HR.out
      rw [List.take_length] at hr
      by_cases hz : z ≤ 1500
      · have dz : decide (1500 < z) = false := by simp; omega
        by_cases h60 : ds.length ≤ 60
        · have d60 : decide (60 < (ds.length : Int)) = false := by simp; omega
          have HR2 := Lib.hid (hr hz)
          clear hr
          go_wp2
          go_ret
          exact ⟨false, rfl, fun _ => ⟨h60, by have := HR2.out.1; omega, HR2.out.2⟩, HE.out⟩
        · have d60 : decide (60 < (ds.length : Int)) = true := by simp; omega
          clear hr
          go_wp2
          go_ret
          exact ⟨true, rfl, fun h => by simp at h, HE.out⟩
      · have dz : decide (1500 < z) = true := by simp; omega
        clear hr
        go_wp2
        go_ret
        exact ⟨true, rfl, fun h => by simp at h, HE.out⟩
end Go.Proofs.YtjnllilmimngoaaGreatDoor
