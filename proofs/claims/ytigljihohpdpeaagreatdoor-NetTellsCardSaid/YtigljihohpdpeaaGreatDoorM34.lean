/-
  slices.Delete of one letter.
  Rows of identities and of entries: as cells, one behind the other.
-/
import Derived.Test.YtigljihohpdpeaaGreatDoorM33
import Derived.Test.YtigljihohpdpeaaGreatDoorM30
import Derived.Test.YtigljihohpdpeaaGreatDoorM28
namespace Go.Proofs.YtigljihohpdpeaaGreatDoor
open Go.RowKit

def voteZ : Let := ⟨0, 0, 0, 0, 0, Id.zero, Id.zero, none, 0, [], 0, false, none, 0, [], Id.zero, none, 0, [], 0, none, 0, [], 0, none, 0, []⟩
theorem flat_take (ls : List Let) (k : Nat) : flat (ls.take k) = (flat ls).take (k * 23) := by
  induction ls generalizing k with
  | nil => simp [flat]
  | cons x xs ih =>
    cases k with
    | zero => simp [flat]
    | succ k =>
      have h := ih k
      simp only [flat, List.take_succ_cons, List.flatMap_cons] at h ⊢
      have h23 : List.take ((k + 1) * 23) x.arr.toList = x.arr.toList := List.take_of_length_le (by rw [arr_len]; omega)
      rw [h, List.take_append, arr_len, show (k + 1) * 23 - 23 = k * 23 by omega, h23]
theorem flat_drop (ls : List Let) (k : Nat) : flat (ls.drop k) = (flat ls).drop (k * 23) := by
  induction ls generalizing k with
  | nil => simp [flat]
  | cons x xs ih =>
    cases k with
    | zero => simp [flat]
    | succ k =>
      have h := ih k
      simp only [flat, List.drop_succ_cons, List.flatMap_cons] at h ⊢
      have h23 : List.drop ((k + 1) * 23) x.arr.toList = [] := List.drop_of_length_le (by rw [arr_len]; omega)
      rw [h, List.drop_append, arr_len, show (k + 1) * 23 - 23 = k * 23 by omega, h23, List.nil_append]

set_option maxRecDepth 100000 in
theorem zeroLet (w : World) : (zeroValue 44).run Tryz.prog w = .ok (voteZ).v w := by kernel_rfl
section
variable {P : Program}
theorem run_clear_row (w : World) (t e ty : TypeId) (z : Value) (n c o g : Nat) (cur : Array Value) (ht : P.underlying t = some (.slice e)) (hv : ∀ w, (zeroValue e).run P w = .ok z w) (h1 : ∀ v ∈ z.cells, v.oneCell' = true)
    (hg : w.heap[g]? = some (.cells cur e (0, 0))) (hn : 0 < n) (hfit : o + n * z.cells.size ≤ cur.size) :
    (Builtin.clear_ #[t] ty #[.slice (some ⟨g, o, none⟩) n c]).run P w = .ok (.tuple #[]) (w.setRow g (cur.toList.take o ++ (Builtin.zeroCells z.cells n).toList ++ cur.toList.drop (o + n * z.cells.size)).toArray) := by
  have hl : (Builtin.zeroCells z.cells n).toList.length = n * z.cells.size := by rw [Array.length_toList, size_zeroCells]
  have hst := run_storeCells_at P g o e (Builtin.zeroCells z.cells n).toList 0 cur w hg (by rw [hl]; omega) (fun v hv => by
    have : v ∈ z.cells := by
      simp only [Builtin.zeroCells] at hv
      simp at hv
      obtain ⟨i, hi, rfl⟩ := hv
      have hp : 0 < z.cells.size := by
        rcases Nat.eq_zero_or_pos z.cells.size with h0 | h0
        · rw [h0] at hi; simp at hi
        · exact h0
      have hlt := Nat.mod_lt i hp
      rw [getElem!_pos z.cells _ hlt]
      exact Array.getElem_mem hlt
    exact h1 v this)
  simp only [Nat.add_zero] at hst
  rw [hl] at hst
  obtain ⟨m, rfl⟩ : ∃ m, n = m + 1 := ⟨n - 1, by omega⟩
  simp [Builtin.clear_, run_underlying ht, hv, hst]
end
theorem del_row (cur F rest : List Value) (n k : Nat) (hk : k < n + 1) (htk : cur.take ((n + 1) * 23) = F) (hF : F.length = (n + 1) * 23) :
    (cur.take (k * 23) ++ F.drop ((k + 1) * 23) ++ rest).toArray.toList.take (n * 23) = F.take (k * 23) ++ F.drop ((k + 1) * 23) := by
  have h1 : cur.take (k * 23) = F.take (k * 23) := by rw [← htk, List.take_take, Nat.min_eq_left (by omega)]
  have h2 : (F.take (k * 23) ++ F.drop ((k + 1) * 23)).length = n * 23 := by simp [hF]; omega
  rw [h1]
  show ((F.take (k * 23) ++ F.drop ((k + 1) * 23)) ++ rest).take (n * 23) = _
  rw [← h2]
  exact List.take_left
theorem clear_one (W : World) (g c n : Nat) (cur : Array Value) (hg : W.heap[g]? = some (.cells cur 44 (0, 0))) (hfit : n * 23 + 23 ≤ cur.size) :
    ∃ cur2 : Array Value, (∀ ty, (Builtin.clear_ #[27] ty #[.slice (some ⟨g, n * 23, none⟩) 1 (c - n)]).run Tryz.prog W = .ok (.tuple #[]) (W.setRow g cur2)) ∧ cur2.size = cur.size ∧ cur2.toList.take (n * 23) = cur.toList.take (n * 23) := by
  have hz : voteZ.v.cells.size = 23 := rfl
  refine ⟨_, fun ty => run_clear_row W _ _ ty voteZ.v 1 (c - n) (n * 23) g cur Tryz.underlying27 zeroLet voteZ.one hg (by omega) (by rw [hz]; omega), ?_, ?_⟩
  · simp [size_zeroCells, hz]; omega
  · rw [List.append_assoc, List.take_append_of_le_length (by simp; omega), List.take_take, Nat.min_self]
theorem wpList_append_room {ops : Array Oper} {rest : List Oper} {o : Oper} {a : Act} {Q : Exit → Act → World → Prop} (w : World) (hgd : o.guard = none) (s x : Operand)
    (ho : o.op = .call { callee := .builtin .append, args := #[s, x], argTypes := #[27, 27] })
    (g k c : Nat) (cur : Array Value) (hg : w.heap[g]? = some (.cells cur 44 (0, 0))) (hs : a.eval s = .slice (some ⟨g, 0, none⟩) k c)
    (D : Addr) (m cc : Nat) (news : List Value) (hx : a.eval x = .slice (some D) m cc) (hl : news.length = m * 23) (hr : ∀ j u, news[j]? = some u → w.cell? (D.add j) = some u) (h1 : ∀ u ∈ news, u.oneCell' = true)
    (hroom : k + m ≤ c) (hfit : k * 23 + news.length ≤ cur.size)
    (h : wpList Tryz.prog ops Q rest (a.put o.dst (.slice (some ⟨g, 0, none⟩) (k + m) c)) (w.setRow g (cur.toList.take (k * 23) ++ news ++ cur.toList.drop (k * 23 + news.length)).toArray)) : wpList Tryz.prog ops Q (o :: rest) a w := by
  refine wpList_plain hgd fun K hK => ?_
  obtain ⟨i0, hi, hz⟩ := Option.map_eq_some_iff.1 infoLetP
  simp only [Prod.mk.injEq] at hz
  obtain ⟨_, hz1, _⟩ := hz
  have h2 := run_append_room (P := Tryz.prog) w 27 o.type 44 i0 Tryz.underlying27 hi g k c cur hg D m cc news (by rw [hz1]; exact hl) hr h1 hroom (by rw [hz1]; exact hfit)
  rw [hz1] at h2
  unfold Oper.wp execOp
  simp only [ho, resolve, invoke, builtin, Sem.run_bind, Sem.run_pure, Result.andThen_ok, List.map_toArray, List.map_cons, List.map_nil, hs, hx, h2]
  exact hK _ _ h

set_option maxRecDepth 100000 in
set_option maxHeartbeats 2000000 in
theorem delete_any (B : Nat) (A : Option Addr) (c : Nat) (us : List Let) (k : Nat) (hk : k < us.length) (w : World) (hown : OwnW 23 w B 44 A us.length c (flat us)) :
    Calls Tryz.prog 40 #[.slice A us.length c, .int .i64 (k : Int), .int .i64 ((k : Int) + 1)] w fun e w' => e = .returned (.slice A (us.length - 1) c) ∧ OwnW 23 w' B 44 A (us.eraseIdx k).length c (flat (us.eraseIdx k)) ∧ Fr (blk A) w w' := by
  rcases hown.cases with ⟨_, h0, _⟩ | ⟨g, cur, rfl, hB, hlt, hh, hnc, hcm, hcs, htk⟩
  · omega
  obtain ⟨n, hn⟩ : ∃ n, us.length = n + 1 := ⟨us.length - 1, by omega⟩
  unfold maxLen at hcm
  have hlen : (us.eraseIdx k).length = n := by rw [List.length_eraseIdx, if_pos hk]; omega
  rw [hn] at hown hnc htk ⊢
  rw [hn] at hk
  have e1 : ((k : Int) == (k : Int) + 1) = false := by simp; omega
  have hnl : ((flat us).drop ((k + 1) * 23)).length = (n - k) * 23 := by rw [List.length_drop, flat_length, hn]; omega
  have hone : ∀ u ∈ (flat us).drop ((k + 1) * 23), u.oneCell' = true := fun u hu => flat_one us u (List.mem_of_mem_drop hu)
  go_enter Tryz.func40, Tryz.ntmps40
  go_wp2_with fail
  refine Stab.wp_region_lexTail 6 Ext (Ext w.drew) (fun _ => True) (by kernel_rfl) (by kernel_rfl) (fun _ _ h => h) (fun _ _ h k => Ext.trans h k) (fun _ _ _ _ => trivial) (Ext.refl _) trivial ?_
  simp only [Stab.zipL, Nat.reduceAdd, List.take, List.drop]
  by_cases hc : c = k + 1
  case pos =>
    subst hc
    have h0 : n - k = 0 := by omega
    rw [h0] at hnl
    repeat (refine Stab.wpX_val rfl rfl ?_; apply Exists.intro; refine ⟨fun wx hC _ => ?_, ?_⟩; (go_simp; (try (rw [if_pos (by omega)])); (try go_simp); exact ⟨Ext.refl _, rfl⟩); simp only [Act.put, List.setIfInBounds_toArray, List.set_cons_zero, List.set_cons_succ])
    refine Stab.wpX_end fun w8 hC8 _ _ => ?_
    have hh8 : w8.heap[g]? = some (.cells cur 44 (0, 0)) := hC8.blk (W := w.drew) hh
    have hF8 : Fr (blk (some ⟨g, 0, none⟩)) w w8 := (Fr.refl _ w).drew.then hC8
    refine wpList_append_room w8 rfl _ _ rfl g k (k + 1) cur hh8 rfl _ 0 _ ((flat us).drop ((k + 1) * 23)) rfl hnl ?_ hone (by omega) (by rw [hnl, hcs, ← Nat.add_mul]; exact Nat.mul_le_mul_right _ (by omega)) ?_
    · intro j u hj
      have hjl := (List.getElem?_eq_some_iff.1 hj).1
      rw [hnl] at hjl
      first
        | (exfalso; omega)
        | (rw [add_lit', cell_of_heap hh8]
           rw [List.getElem?_drop, ← htk, List.getElem?_take] at hj
           split at hj
           · simpa using hj
           · cases hj)
    have hW1 := setRow_heap w8 g cur (cur.toList.take (k * 23) ++ (flat us).drop ((k + 1) * 23) ++ cur.toList.drop (k * 23 + ((flat us).drop ((k + 1) * 23)).length)).toArray _ _ hh8
    have hF1 : Fr (blk (some ⟨g, 0, none⟩)) w (w8.setRow g (cur.toList.take (k * 23) ++ (flat us).drop ((k + 1) * 23) ++ cur.toList.drop (k * 23 + ((flat us).drop ((k + 1) * 23)).length)).toArray) := hF8.trans (b := w8) (T := blk (some ⟨g, 0, none⟩)) ⟨rfl, rfl, rfl, by simp [World.setRow], fun i _ hi => setRow_other w8 g i _ (fun e => hi (by simp [blk, e]))⟩ (fun _ _ h => h)
    have hs1 : (cur.toList.take (k * 23) ++ (flat us).drop ((k + 1) * 23) ++ cur.toList.drop (k * 23 + ((flat us).drop ((k + 1) * 23)).length)).toArray.size = (k + 1) * 23 := by
      have hm := Nat.mul_le_mul_right 23 (show k + 0 ≤ k + 1 by omega)
      rw [Nat.add_mul] at hm
      simp only [List.size_toArray, List.length_append, List.length_take, List.length_drop, Array.length_toList, hnl, hcs] at hnl ⊢
      omega
    generalize hcur1 : (cur.toList.take (k * 23) ++ (flat us).drop ((k + 1) * 23) ++ cur.toList.drop (k * 23 + ((flat us).drop ((k + 1) * 23)).length)).toArray = cur1 at *
    generalize w8.setRow g cur1 = W1 at *
    obtain ⟨cur2, hcl, hs2, ht2⟩ := clear_one W1 g (k + 1) n cur1 hW1 (by
      have hm := Nat.mul_le_mul_right 23 (show n + 1 ≤ k + 1 by omega)
      rw [Nat.add_mul] at hm
      rw [hs1]; exact hm)
    have HCUR := Lib.hid hcur1
    have HW1 := Lib.hid hW1
    have HF1 := Lib.hid hF1
    have e2 : (k : Int) + ((0 : Nat) : Int) = n := by omega
    have e3 : k + 0 = n := by omega
    clear hcur1 hW1 hF1 hF8 hC8 hh8
    rw [e3]
    go_wp2_with fail
    go_ret
    have HR := del_row cur.toList (flat us) ((cur.toList.drop (k * 23 + ((flat us).drop ((k + 1) * 23)).length))) n k hk htk (by rw [flat_length, hn])
    have hcur1 := HCUR.out
    refine ⟨rfl, ?_, ?_⟩
    · rw [hlen]
      refine OwnW.mk hB (setRow_heap W1 g cur1 cur2 _ _ HW1.out) (by omega) (by unfold maxLen; omega) (by rw [hs2, hs1]) ?_
      rw [ht2, ← hcur1, List.eraseIdx_eq_take_drop_succ, flat_append, flat_take, flat_drop]
      exact HR
    · exact HF1.out.trans (T := blk (some ⟨g, 0, none⟩)) ⟨rfl, rfl, rfl, by simp [World.setRow], fun i _ hi => setRow_other W1 g i _ (fun e => hi (by simp [blk, e]))⟩ (fun _ _ h => h)
  case neg =>
    repeat (refine Stab.wpX_val rfl rfl ?_; apply Exists.intro; refine ⟨fun wx hC _ => ?_, ?_⟩; (go_simp; (try (rw [if_pos (by omega)])); (try go_simp); exact ⟨Ext.refl _, rfl⟩); simp only [Act.put, List.setIfInBounds_toArray, List.set_cons_zero, List.set_cons_succ])
    refine Stab.wpX_end fun w8 hC8 _ _ => ?_
    have hh8 : w8.heap[g]? = some (.cells cur 44 (0, 0)) := hC8.blk (W := w.drew) hh
    have hF8 : Fr (blk (some ⟨g, 0, none⟩)) w w8 := (Fr.refl _ w).drew.then hC8
    refine wpList_append_room w8 rfl _ _ rfl g k c cur hh8 rfl _ (n - k) _ ((flat us).drop ((k + 1) * 23)) rfl hnl ?_ hone (by omega) (by rw [hnl, hcs, ← Nat.add_mul]; exact Nat.mul_le_mul_right _ (by omega)) ?_
    · intro j u hj
      have hjl := (List.getElem?_eq_some_iff.1 hj).1
      rw [hnl] at hjl
      first
        | (exfalso; have : n - k = 0 := by omega
           rw [this] at hjl; omega)
        | (rw [add_lit', cell_of_heap hh8]
           rw [List.getElem?_drop, ← htk, List.getElem?_take] at hj
           split at hj
           · simpa using hj
           · cases hj)
    have hW1 := setRow_heap w8 g cur (cur.toList.take (k * 23) ++ (flat us).drop ((k + 1) * 23) ++ cur.toList.drop (k * 23 + ((flat us).drop ((k + 1) * 23)).length)).toArray _ _ hh8
    have hF1 : Fr (blk (some ⟨g, 0, none⟩)) w (w8.setRow g (cur.toList.take (k * 23) ++ (flat us).drop ((k + 1) * 23) ++ cur.toList.drop (k * 23 + ((flat us).drop ((k + 1) * 23)).length)).toArray) := hF8.trans (b := w8) (T := blk (some ⟨g, 0, none⟩)) ⟨rfl, rfl, rfl, by simp [World.setRow], fun i _ hi => setRow_other w8 g i _ (fun e => hi (by simp [blk, e]))⟩ (fun _ _ h => h)
    have hs1 : (cur.toList.take (k * 23) ++ (flat us).drop ((k + 1) * 23) ++ cur.toList.drop (k * 23 + ((flat us).drop ((k + 1) * 23)).length)).toArray.size = c * 23 := by
      have hm := Nat.mul_le_mul_right 23 (show k + (n - k) ≤ c by omega)
      rw [Nat.add_mul] at hm
      simp only [List.size_toArray, List.length_append, List.length_take, List.length_drop, Array.length_toList, hnl, hcs] at hnl ⊢
      omega
    generalize hcur1 : (cur.toList.take (k * 23) ++ (flat us).drop ((k + 1) * 23) ++ cur.toList.drop (k * 23 + ((flat us).drop ((k + 1) * 23)).length)).toArray = cur1 at *
    generalize w8.setRow g cur1 = W1 at *
    obtain ⟨cur2, hcl, hs2, ht2⟩ := clear_one W1 g c n cur1 hW1 (by
      have hm := Nat.mul_le_mul_right 23 (show n + 1 ≤ c by omega)
      rw [Nat.add_mul] at hm
      rw [hs1]; exact hm)
    have HCUR := Lib.hid hcur1
    have HW1 := Lib.hid hW1
    have HF1 := Lib.hid hF1
    have e2 : (k : Int) + ((n - k : Nat) : Int) = n := by omega
    have e3 : k + (n - k) = n := by omega
    clear hcur1 hW1 hF1 hF8 hC8 hh8
    rw [e3]
    go_wp2_with fail
    go_ret
    have HR := del_row cur.toList (flat us) ((cur.toList.drop (k * 23 + ((flat us).drop ((k + 1) * 23)).length))) n k hk htk (by rw [flat_length, hn])
    have hcur1 := HCUR.out
    refine ⟨rfl, ?_, ?_⟩
    · rw [hlen]
      refine OwnW.mk hB (setRow_heap W1 g cur1 cur2 _ _ HW1.out) (by omega) (by unfold maxLen; omega) (by rw [hs2, hs1]) ?_
      rw [ht2, ← hcur1, List.eraseIdx_eq_take_drop_succ, flat_append, flat_take, flat_drop]
      exact HR
    · exact HF1.out.trans (T := blk (some ⟨g, 0, none⟩)) ⟨rfl, rfl, rfl, by simp [World.setRow], fun i _ hi => setRow_other W1 g i _ (fun e => hi (by simp [blk, e]))⟩ (fun _ _ h => h)
end Go.Proofs.YtigljihohpdpeaaGreatDoor
namespace Go.Proofs.YtigljihohpdpeaaGreatDoor
open Go.RowKit

section
variable {α : Type} {f : α → List Value} {m : Nat}
def fl (f : α → List Value) (xs : List α) : List Value := xs.flatMap f
theorem fl_length (hf : ∀ x, (f x).length = m) (xs : List α) : (fl f xs).length = xs.length * m := by
  induction xs with
  | nil => simp [fl]
  | cons x xs ih =>
    simp only [fl, List.flatMap_cons, List.length_append, List.length_cons, hf] at ih ⊢
    rw [ih, Nat.add_mul]
    omega
theorem fl_get (hf : ∀ x, (f x).length = m) {xs : List α} {k : Nat} {x : α} (h : xs[k]? = some x) {j : Nat} {u : Value} (hj : (f x)[j]? = some u) : (fl f xs)[k * m + j]? = some u := by
  induction xs generalizing k with
  | nil => simp at h
  | cons y ys ih =>
    have hl := (List.getElem?_eq_some_iff.1 hj).1
    rw [hf] at hl
    simp only [fl, List.flatMap_cons]
    cases k with
    | zero =>
      simp at h
      subst h
      rw [List.getElem?_append_left (by rw [hf]; omega)]
      simpa using hj
    | succ k =>
      rw [Nat.add_mul, List.getElem?_append_right (by rw [hf]; omega), hf, show k * m + 1 * m + j - m = k * m + j by omega]
      exact ih (by simpa using h)
theorem fl_inv (hf : ∀ x, (f x).length = m) {xs : List α} {i : Nat} {u : Value} (h : (fl f xs)[i]? = some u) : ∃ (k : Nat) (x : α) (j : Nat), i = k * m + j ∧ xs[k]? = some x ∧ (f x)[j]? = some u := by
  induction xs generalizing i with
  | nil => simp [fl] at h
  | cons y ys ih =>
    simp only [fl, List.flatMap_cons] at h
    by_cases hi : i < m
    · rw [List.getElem?_append_left (by rw [hf]; omega)] at h
      exact ⟨0, y, i, by omega, rfl, h⟩
    · rw [List.getElem?_append_right (by rw [hf]; omega), hf] at h
      obtain ⟨k, x, j, h1, h2, h3⟩ := ih h
      exact ⟨k + 1, x, j, by rw [Nat.add_mul]; omega, by simpa using h2, h3⟩
theorem fl_set (hf : ∀ x, (f x).length = m) {xs : List α} {k : Nat} {x y : α} (h : xs[k]? = some x) {j : Nat} {u : Value} (hy : (f x).set j u = f y) (hj : j < m) : (fl f xs).set (k * m + j) u = fl f (xs.set k y) := by
  induction xs generalizing k with
  | nil => simp at h
  | cons z zs ih =>
    simp only [fl, List.flatMap_cons]
    cases k with
    | zero =>
      simp at h
      subst h
      rw [Nat.zero_mul, Nat.zero_add, List.set_append_left _ _ (by rw [hf]; omega), hy]
      simp
    | succ k =>
      rw [Nat.add_mul, List.set_append_right _ _ (by rw [hf]; omega), hf, show k * m + 1 * m + j - m = k * m + j by omega]
      have := ih (k := k) (by simpa using h)
      simp only [fl] at this
      rw [this]
      simp
end
theorem idc_len (p : Id) : p.cells.length = 3 := rfl
theorem entc_len (e : Ent) : e.cells.length = 4 := rfl
theorem IdsIn.rd {w : World} {A : Option Addr} {ps : List Id} (h : IdsIn w A ps) : Rd w A (fl Id.cells ps) := fun i u hu => by
  obtain ⟨k, p, j, rfl, h2, h3⟩ := fl_inv idc_len hu
  obtain ⟨b, f, h4, c0, c1, c2⟩ := h k p h2
  refine ⟨_, h4, ?_⟩
  rw [add_lit', ← Nat.add_assoc]
  match j, h3 with
  | 0, h3 => simp [Id.cells] at h3; subst h3; exact c0
  | 1, h3 => simp [Id.cells] at h3; subst h3; exact c1
  | 2, h3 => simp [Id.cells] at h3; subst h3; exact c2
  | j + 3, h3 => simp [Id.cells] at h3
theorem EntsIn.rd {w : World} {A : Option Addr} {es : List Ent} (h : EntsIn w A es) : Rd w A (fl Ent.cells es) := fun i u hu => by
  obtain ⟨k, p, j, rfl, h2, h3⟩ := fl_inv entc_len hu
  obtain ⟨b, f, h4, c0, c1, c2, c3, _⟩ := h k p h2
  refine ⟨_, h4, ?_⟩
  rw [add_lit', ← Nat.add_assoc]
  match j, h3 with
  | 0, h3 => simp [Ent.cells] at h3; subst h3; exact c0
  | 1, h3 => simp [Ent.cells] at h3; subst h3; exact c1
  | 2, h3 => simp [Ent.cells] at h3; subst h3; exact c2
  | 3, h3 => simp [Ent.cells] at h3; subst h3; exact c3
  | j + 4, h3 => simp [Ent.cells] at h3
theorem ids_one (ps : List Id) : ∀ u ∈ fl Id.cells ps, u.oneCell' = true := fun u hu => by
  obtain ⟨p, _, hp⟩ := List.mem_flatMap.1 hu
  simp only [Id.cells, List.mem_cons, List.not_mem_nil, or_false] at hp
  rcases hp with rfl | rfl | rfl <;> rfl
theorem ents_one (es : List Ent) : ∀ u ∈ fl Ent.cells es, u.oneCell' = true := fun u hu => by
  obtain ⟨p, _, hp⟩ := List.mem_flatMap.1 hu
  simp only [Ent.cells, List.mem_cons, List.not_mem_nil, or_false] at hp
  rcases hp with rfl | rfl | rfl | rfl <;> rfl
theorem Rd.at0 {w : World} {g : Nat} {xs : List Value} (h : Rd w (some ⟨g, 0, none⟩) xs) {i : Nat} {u : Value} (hi : xs[i]? = some u) : w.cell? ⟨g, i, none⟩ = some u := by
  obtain ⟨ad, h1, h2⟩ := h i u hi
  injection h1 with h1
  subst h1
  rwa [add_lit', Nat.zero_add] at h2
theorem IdsIn.of {w : World} {B n c : Nat} {e : TypeId} {A : Option Addr} {ps : List Id} (h : OwnW 3 w B e A n c (fl Id.cells ps)) : IdsIn w A ps := fun k p hk => by
  rcases h.cases with ⟨rfl, rfl, rfl, h0⟩ | ⟨g, cur, rfl, _⟩
  · have := fl_get idc_len hk (j := 0) (u := .int .i64 p.i) rfl
    rw [h0] at this
    simp at this
  · have hr := h.rd
    have g0 := hr.at0 (fl_get idc_len hk (j := 0) (u := .int .i64 p.i) rfl)
    have g1 := hr.at0 (fl_get idc_len hk (j := 1) (u := .int .i64 p.t) rfl)
    have g2 := hr.at0 (fl_get idc_len hk (j := 2) (u := .int .i64 p.k) rfl)
    exact ⟨g, 0, rfl, by rw [Nat.zero_add]; exact g0, by rw [Nat.zero_add]; exact g1, by rw [Nat.zero_add]; exact g2⟩
theorem EntsIn.of {w : World} {B n c : Nat} {e : TypeId} {A : Option Addr} {es : List Ent} (h : OwnW 4 w B e A n c (fl Ent.cells es)) (hi : ∀ e ∈ es, e.inW w) : EntsIn w A es := fun k p hk => by
  rcases h.cases with ⟨rfl, rfl, rfl, h0⟩ | ⟨g, cur, rfl, _⟩
  · have := fl_get entc_len hk (j := 0) (u := .int .i64 p.i) rfl
    rw [h0] at this
    simp at this
  · have hr := h.rd
    have g0 := hr.at0 (fl_get entc_len hk (j := 0) (u := .int .i64 p.i) rfl)
    have g1 := hr.at0 (fl_get entc_len hk (j := 1) (u := .int .i64 p.t) rfl)
    have g2 := hr.at0 (fl_get entc_len hk (j := 2) (u := .int .i64 p.k) rfl)
    have g3 := hr.at0 (fl_get entc_len hk (j := 3) (u := .slice p.bA p.bs.length p.bc) rfl)
    exact ⟨g, 0, rfl, by rw [Nat.zero_add]; exact g0, by rw [Nat.zero_add]; exact g1, by rw [Nat.zero_add]; exact g2, by rw [Nat.zero_add]; exact g3, hi p (List.mem_of_getElem? hk)⟩
/-- a store into a row. -/
theorem OwnW.set {sz : Nat} {w : World} {B n c : Nat} {e : TypeId} {g : Nat} {xs : List Value} (h : OwnW sz w B e (some ⟨g, 0, none⟩) n c xs) (j : Nat) (u : Value) : OwnW sz (w.setCell ⟨g, j, none⟩ u) B e (some ⟨g, 0, none⟩) n c (xs.set j u) := by
  rcases h.cases with ⟨h0, _⟩ | ⟨g', cur, hg', hB, hg, hh, h1, h2, h3, h4⟩
  · cases h0
  · injection hg' with hg'; injection hg' with hg'; subst hg'
    refine OwnW.mk (cur := cur.setIfInBounds j u) hB ?_ h1 h2 (by simpa using h3) ?_
    · simp [World.setCell, Array.getElem?_modify, hh]
    · rw [Array.toList_setIfInBounds]
      conv => rhs; rw [← h4]
      rw [List.take_set]
theorem OwnW.offB {sz : Nat} {w : World} {B n c : Nat} {e : TypeId} {A : Option Addr} {xs : List Value} (h : OwnW sz w B e A n c xs) : Off (fun i => i < B) A := fun ad ha hn => by
  have := (h.lt (i := ad.block) (by simp [blk, ha])).1
  omega
end Go.Proofs.YtigljihohpdpeaaGreatDoor
