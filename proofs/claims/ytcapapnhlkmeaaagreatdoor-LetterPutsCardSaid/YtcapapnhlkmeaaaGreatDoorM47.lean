/-
  Rows of structs that a call makes; LentIdents.
-/
import Derived.Test.YtcapapnhlkmeaaaGreatDoorM29
import Derived.Test.YtcapapnhlkmeaaaGreatDoorM27
namespace Go.Proofs.YtcapapnhlkmeaaaGreatDoor
open Go.RowKit

/-- A row of the call's own, of elements of many cells. -/
def OwnN (w : World) (B : Nat) (e : TypeId) (sz : Nat) (A : Option Addr) (n c : Nat) (xs : List Value) : Prop := w.ownsRow B e sz (.slice A n c) n xs
theorem OwnN.made (w : World) (B : Nat) (e : TypeId) (z : Array Value) (sz c : Nat) (hB : B ≤ w.heap.size) (hc : c ≤ 1000000000000) : OwnN (w.alloc (.cells (madeCells z (c * sz)) e)) B e sz (some ⟨w.heap.size, 0, none⟩) 0 c [] :=
  ⟨by simp, .inr ⟨_, _, _, rfl, hB, heap_alloc_new w _, Nat.zero_le _, by unfold maxLen; omega, size_madeCells _ _, by simp⟩⟩
theorem OwnN.fr {S : Nat → Prop} {w w' : World} {B : Nat} {e : TypeId} {sz : Nat} {A : Option Addr} {n c : Nat} {xs : List Value} (h : OwnN w B e sz A n c xs) (hf : Fr S w w') (ho : ∀ i, blk A i → ¬ S i) : OwnN w' B e sz A n c xs := by
  obtain ⟨h1, h2⟩ := h
  refine ⟨h1, ?_⟩
  rcases h2 with h2 | ⟨g, cap, cur, hv, hb, hg, rest⟩
  · exact .inl h2
  · injection hv with h3 h4 h5
    subst h3
    exact .inr ⟨g, cap, cur, by rw [h5], hb, by rw [hf.block g (heap_lt hg) (ho g rfl)]; exact hg, rest⟩
theorem OwnN.ext {w w' : World} {B : Nat} {e : TypeId} {sz : Nat} {A : Option Addr} {n c : Nat} {xs : List Value} (h : OwnN w B e sz A n c xs) (he : Ext w w') : OwnN w' B e sz A n c xs := by
  obtain ⟨h1, h2⟩ := h
  refine ⟨h1, ?_⟩
  rcases h2 with h2 | ⟨g, cap, cur, hv, hb, hg, rest⟩
  · exact .inl h2
  · exact .inr ⟨g, cap, cur, hv, hb, he.blk hg, rest⟩
theorem OwnN.base {w : World} {B : Nat} {e : TypeId} {sz : Nat} {A : Option Addr} {n c : Nat} {xs : List Value} (h : OwnN w B e sz A n c xs) : ∀ i, blk A i → B ≤ i := by
  intro i hi
  rcases h.2 with ⟨h2, _⟩ | ⟨g, cap, cur, hv, hb, hg, rest⟩
  · injection h2 with h3 h4 h5
    subst h3
    simp [blk] at hi
  · injection hv with h3 h4 h5
    subst h3
    simp [blk] at hi
    omega
theorem OwnN.some_ {w : World} {B : Nat} {e : TypeId} {sz : Nat} {A : Option Addr} {n c : Nat} {xs : List Value} (h : OwnN w B e sz A n c xs) (hn : 0 < n) : ∃ g, A = some ⟨g, 0, none⟩ ∧ B ≤ g ∧ n ≤ c ∧ c ≤ maxLen := by
  rcases h.2 with ⟨_, h2⟩ | ⟨g, cap, cur, hv, hb, hg, hle, hm, _⟩
  · omega
  · injection hv with h3 h4 h5
    subst h3 h5
    exact ⟨g, rfl, hb, hle, hm⟩
theorem OwnN.rd {w : World} {B : Nat} {e : TypeId} {sz : Nat} {A : Option Addr} {n c : Nat} {xs : List Value} (h : OwnN w B e sz A n c xs) : Rd w A xs := fun j u hj => by
  rcases h.2 with ⟨_, h2⟩ | ⟨g, cap, cur, hv, hb, hg, hle, hm, hs, htk⟩
  · have := h.1
    rw [h2, Nat.zero_mul] at this
    rw [List.eq_nil_of_length_eq_zero this] at hj
    simp at hj
  · injection hv with h3 h4 h5
    subst h3
    refine ⟨_, rfl, ?_⟩
    rw [add_lit', Nat.zero_add, cell_of_heap hg]
    rw [← htk] at hj
    have hlt : j < n * sz := by
      have := (List.getElem?_eq_some_iff.1 hj).1
      rw [List.length_take] at this
      omega
    rw [List.getElem?_take_of_lt hlt] at hj
    simpa using hj
theorem ownN_fresh {w w1 w2 : World} {e : TypeId} {sz : Nat} {A : Option Addr} {n c : Nat} {xs : List Value} (h : OwnN w1 w.heap.size e sz A n c xs) (hE : Ext w w1) (hf : Fr (blk A) w1 w2) : Ext w w2 :=
  Below.trans hE (hf.below hE.sz (fun i hi => h.base i hi))

section
variable {P : Program} (w : World)
theorem wpList_append_N {ops : Array Oper} {rest : List Oper} {o : Oper} {a : Act} {Q : Exit → Act → World → Prop} (hgd : o.guard = none) (s x : Operand) (t : TypeId)
    (ho : o.op = .call { callee := .builtin .append, args := #[s, x], argTypes := #[t, t] })
    (B : Nat) (e : TypeId) (i : TypeInfo) (z : Value) (sz bytes : Nat) (ht : P.underlying t = some (.slice e)) (hi : P.info? e = some i) (hz : i.zero = some z)
    (hsize : i.size = sz) (hby : i.bytes = bytes) (hzs : z.cells.size = sz) (hsz : 0 < sz)
    (A : Option Addr) (n c : Nat) (xs : List Value) (hs : a.eval s = .slice A n c) (hown : OwnN w B e sz A n c xs)
    (D : Option Addr) (m cc : Nat) (news : List Value) (hx : a.eval x = .slice D m cc) (hl : news.length = m * sz) (hr : Rd w D news) (h1 : ∀ u ∈ news, u.oneCell' = true)
    (h63 : n + m ≤ maxLen) (hbytes : (n + m) * bytes ≤ 140737488355328) (hbase : B ≤ w.heap.size)
    (h : ∀ A' c' m' w', m' = n + m → OwnN w' B e sz A' m' c' (xs ++ news) → Fr (blk A) w w' → wpList P ops Q rest (a.put o.dst (.slice A' m' c')) w') : wpList P ops Q (o :: rest) a w := by
  have hob : (Value.slice A n c).ownBlock = A.map Addr.block := by cases A <;> rfl
  cases D with
  | some ad =>
    refine wpList_append_own w hgd s x t ho B e i z sz bytes ht hi hz hsize hby hzs hsz _ n xs hs hown ad m cc news hx hl (fun j u hj => ?_) h1 h63 hbytes hbase ?_
    · obtain ⟨ad', ha, hc⟩ := hr j u hj
      injection ha with ha; subst ha; exact hc
    · intro v' w' ho' hg _
      rw [hob] at hg
      have hsh : ∃ A' c', v' = .slice A' (n + m) c' := by
        rcases ho'.2 with ⟨h2, h3⟩ | ⟨g, cap, cur, hv, _⟩
        · exact ⟨none, 0, by rw [h2, h3]⟩
        · exact ⟨_, _, hv⟩
      obtain ⟨A', c', rfl⟩ := hsh
      exact h A' c' _ w' rfl ho' (Fr.ofGrown hg (fun g hg => hg))
  | none =>
    have hnil : news = [] := by
      cases news with
      | nil => rfl
      | cons u us => obtain ⟨_, ha, _⟩ := hr 0 u rfl; cases ha
    subst hnil
    have hm0 : m = 0 := by
      simp only [List.length_nil] at hl
      rcases Nat.eq_zero_or_pos m with h0 | h0
      · exact h0
      · have := Nat.mul_pos h0 hsz; omega
    subst hm0
    refine wpList_plain hgd fun K hK => ?_
    have hrun : (Builtin.append_ #[t, t] o.type #[.slice A n c, .slice none 0 cc]).run P w = .ok (.slice A n c) w := by
      rcases hown.2 with ⟨h2, h3⟩ | ⟨g, cap, cur, hv, hb, hg, hle, _⟩
      · injection h2 with a1 a2 a3
        subst a1 a2 a3
        simp [Builtin.append_, run_underlying ht, sizeOf, typeInfo, hi, Builtin.lenOf, Builtin.firstCells, loadCells, loadCellsFrom, storeCells]
      · injection hv with a1 a2 a3
        subst a1 a3
        simp [Builtin.append_, run_underlying ht, sizeOf, typeInfo, hi, Builtin.lenOf, Builtin.firstCells, loadCells, loadCellsFrom, storeCells, hle]
    unfold Oper.wp execOp
    simp only [ho, resolve, invoke, builtin, Sem.run_bind, Sem.run_pure, Result.andThen_ok, List.map_toArray, List.map_cons, List.map_nil, hs, hx, hrun]
    exact hK _ _ (h A c n w rfl (by simpa using hown) (Fr.refl _ w))
end

def idsC (ps : List Id) : List Value := ps.flatMap Id.cells
theorem idsC_length (ps : List Id) : (idsC ps).length = ps.length * 3 := by
  induction ps with
  | nil => rfl
  | cons p ps ih => simp only [idsC, List.flatMap_cons, List.length_append, List.length_cons, Id.cells, List.length_nil] at ih ⊢; omega
theorem idsC_app (ps qs : List Id) : idsC (ps ++ qs) = idsC ps ++ idsC qs := by simp [idsC]
theorem idsC_get {ps : List Id} {k : Nat} {p : Id} (h : ps[k]? = some p) : (idsC ps)[k * 3]? = some (.int .i64 p.i) ∧ (idsC ps)[k * 3 + 1]? = some (.int .i64 p.t) ∧ (idsC ps)[k * 3 + 2]? = some (.int .i64 p.k) := by
  induction ps generalizing k with
  | nil => simp at h
  | cons q ps ih =>
    cases k with
    | zero => simp at h; subst h; exact ⟨rfl, rfl, rfl⟩
    | succ k =>
      have h3 := ih (k := k) (by simpa using h)
      have e : idsC (q :: ps) = .int .i64 q.i :: .int .i64 q.t :: .int .i64 q.k :: idsC ps := rfl
      rw [e]
      rw [show (k + 1) * 3 = k * 3 + 1 + 1 + 1 by omega, show k * 3 + 1 + 1 + 1 + 1 = (k * 3 + 1) + 1 + 1 + 1 by omega, show k * 3 + 1 + 1 + 1 + 2 = (k * 3 + 2) + 1 + 1 + 1 by omega]
      simp only [List.getElem?_cons_succ]
      exact h3
theorem idsC_one (ps : List Id) : ∀ u ∈ idsC ps, u.oneCell' = true := fun u hu => by
  obtain ⟨p, _, hp⟩ := List.mem_flatMap.1 hu
  simp only [Id.cells, List.mem_cons, List.not_mem_nil, or_false] at hp
  rcases hp with rfl | rfl | rfl <;> rfl
theorem ids_of_rd {w : World} {g : Nat} {ps : List Id} (h : Rd w (some ⟨g, 0, none⟩) (idsC ps)) : IdsIn w (some ⟨g, 0, none⟩) ps := fun j p hj => by
  obtain ⟨h0, h1, h2⟩ := idsC_get hj
  have key : ∀ (k : Nat) (u : Value), (idsC ps)[k]? = some u → w.cell? ⟨g, k, none⟩ = some u := fun k u hk => by
    obtain ⟨ad, ha, hc⟩ := h k u hk
    injection ha with ha
    subst ha
    rw [add_lit', Nat.zero_add] at hc
    exact hc
  exact ⟨g, 0, rfl, by rw [Nat.zero_add]; exact key _ _ h0, by rw [Nat.zero_add]; exact key _ _ h1, by rw [Nat.zero_add]; exact key _ _ h2⟩
theorem idsC_split {ps : List Id} {j : Nat} {u : Value} (h : (idsC ps)[j]? = some u) : ∃ k p, ps[k]? = some p ∧ ((j = k * 3 ∧ u = .int .i64 p.i) ∨ (j = k * 3 + 1 ∧ u = .int .i64 p.t) ∨ (j = k * 3 + 2 ∧ u = .int .i64 p.k)) := by
  have hlt := (List.getElem?_eq_some_iff.1 h).1
  rw [idsC_length] at hlt
  have hk : j / 3 < ps.length := by omega
  refine ⟨j / 3, ps[j / 3], List.getElem?_eq_getElem hk, ?_⟩
  obtain ⟨h0, h1, h2⟩ := idsC_get (List.getElem?_eq_getElem hk)
  have hj : j = j / 3 * 3 ∨ j = j / 3 * 3 + 1 ∨ j = j / 3 * 3 + 2 := by omega
  rcases hj with e | e | e
  · rw [← e, h] at h0; injection h0 with h0; exact .inl ⟨e, h0⟩
  · rw [← e, h] at h1; injection h1 with h1; exact .inr (.inl ⟨e, h1⟩)
  · rw [← e, h] at h2; injection h2 with h2; exact .inr (.inr ⟨e, h2⟩)
theorem rd_of_ids {w : World} {A : Option Addr} {ps : List Id} (h : IdsIn w A ps) : Rd w A (idsC ps) := fun j u hj => by
  obtain ⟨k, p, hp, hc⟩ := idsC_split hj
  obtain ⟨b, f, rfl, h0, h1, h2⟩ := h k p hp
  refine ⟨_, rfl, ?_⟩
  rw [add_lit']
  rcases hc with ⟨rfl, rfl⟩ | ⟨rfl, rfl⟩ | ⟨rfl, rfl⟩
  · exact h0
  · exact h1
  · exact h2
def mkId (j : Nat) : Id := ⟨markI 1 j, 0, 0⟩
def mkIds (k : Nat) : List Id := (List.range k).map mkId
theorem mkIds_succ (k : Nat) : mkIds (k + 1) = mkIds k ++ [mkId k] := by simp [mkIds, List.range_succ]
theorem mkIds_length (k : Nat) : (mkIds k).length = k := by simp [mkIds]

set_option maxRecDepth 100000 in
set_option maxHeartbeats 400000 in
theorem markIdent_any (i : Nat) (w : World) (hi : i ≤ 1000000000000) : Calls Tryz.prog 50 #[.int .i64 1, .int .i64 i] w fun e w' => e = .returned (mkId i).v ∧ Ext w w' := by
  have HM := Lib.hid (fun w => mark_any 1 i w (by omega) hi)
  unfold Id.v idV mkId
  go_enter Tryz.func50, Tryz.ntmps50
  go_wp2_with (go_at_call 105; refine (HM.out _).mono ?_; rintro e w' ⟨rfl, rfl⟩)
  exact bodyPost_ret (v := .agg #[.int .i64 (markI 1 i), .int .i64 0, .int .i64 0]) (by simp [results, Tryz.results50, go_sem]) rfl ⟨rfl, (Ext.refl _).alloc _⟩

theorem Tryz.infoEId : (Tryz.prog.info? 25).map (fun i => (i.zero, i.size, i.bytes)) = some (some (.agg #[.int .i64 0, .int .i64 0, .int .i64 0]), 3, 24) := by kernel_rfl
theorem mk0Ids (n : Nat) (hn : n ≤ 1000000000) (w : World) : (Instr.makeSlice 26 (.int .i64 0) (.int .i64 ((n : Int) + 12))).run Tryz.prog w = .ok (.slice (some ⟨w.heap.size, 0, none⟩) 0 (n + 12)) (w.alloc (.cells (madeCells #[.int .i64 0, .int .i64 0, .int .i64 0] ((n + 12) * 3)) 25)) := by
  obtain ⟨i0, hi, hz0, hz1, hz2⟩ := info_parts Tryz.infoEId
  have hr := run_make (P := Tryz.prog) w 26 25 i0 _ Tryz.underlying26 hi hz0 .i64 .i64 0 ((n : Int) + 12) (by omega) (by omega) (by rw [hz2]; omega) (by omega)
  rw [hz1, show ((n : Int) + 12).toNat = n + 12 by omega] at hr
  exact hr
theorem appendIds {ops : Array Oper} {rest : List Oper} {o : Oper} {a : Act} {Q : Exit → Act → World → Prop} (w : World) (hgd : o.guard = none) (s x : Operand)
    (ho : o.op = .call { callee := .builtin .append, args := #[s, x], argTypes := #[26, 26] })
    (B : Nat) (A : Option Addr) (n c : Nat) (ps : List Id) (hs : a.eval s = .slice A n c) (hown : OwnN w B 25 3 A n c (idsC ps))
    (D : Option Addr) (m cc : Nat) (news : List Id) (hx : a.eval x = .slice D m cc) (hm : m = news.length) (hr : Rd w D (idsC news))
    (h63 : n + m ≤ 2000000000) (hbase : B ≤ w.heap.size)
    (h : ∀ A' c' m' w', m' = n + m → OwnN w' B 25 3 A' m' c' (idsC (ps ++ news)) → Fr (blk A) w w' → wpList Tryz.prog ops Q rest (a.put o.dst (.slice A' m' c')) w') : wpList Tryz.prog ops Q (o :: rest) a w := by
  obtain ⟨i0, hi, hz0, hz1, hz2⟩ := info_parts Tryz.infoEId
  refine wpList_append_N w hgd s x 26 ho B 25 i0 _ 3 24 Tryz.underlying26 hi hz0 hz1 hz2 rfl (by decide) A n c (idsC ps) hs hown D m cc (idsC news) hx (by rw [idsC_length, hm]) hr (idsC_one _) (by unfold maxLen; omega) (by omega) hbase ?_
  intro A' c' m' w' h1 h2 h3
  exact h A' c' m' w' h1 (by rw [idsC_app]; exact h2) h3

/-- What LentIdents leaves: a new row with marks behind. -/
def LentIds (ps : List Id) (w : World) (e : Ending) (w' : World) : Prop :=
  ∃ g c', e = .returned (.slice (some ⟨g, 0, none⟩) ps.length c') ∧ ps.length + 12 ≤ c' ∧ c' ≤ maxLen ∧ w.heap.size ≤ g ∧ IdsIn w' (some ⟨g, 0, none⟩) (ps ++ mkIds 12) ∧ Ext w w'
def LentIdsRel (ps : List Id) (w : World) (v i : Value) (wr : World) : Prop :=
  ∃ (k m : Nat) (A : Option Addr) (c : Nat), k ≤ 12 ∧ i = .int .i64 k ∧ v = .slice A m c ∧ m = ps.length + k ∧ OwnN wr w.heap.size 25 3 A m c (idsC (ps ++ mkIds k)) ∧ Ext w wr
set_option maxRecDepth 100000 in
set_option maxHeartbeats 1000000 in
theorem lentIds_any (A : Option Addr) (c : Nat) (ps : List Id) (w : World) (hA : IdsIn w A ps) (hz : ps.length ≤ 1000000000) :
    Calls Tryz.prog 15 #[.slice A ps.length c] w (LentIds ps w) := by
  have hmk := mk0Ids ps.length hz
  have hm0 := OwnN.made w w.heap.size 25 #[.int .i64 0, .int .i64 0, .int .i64 0] 3 (ps.length + 12) (Nat.le_refl _) (by omega)
  have HRD := Lib.hid ((rd_of_ids hA).ext ((Ext.refl w).alloc (.cells (madeCells #[.int .i64 0, .int .i64 0, .int .i64 0] ((ps.length + 12) * 3)) 25)))
  have HMI := Lib.hid (fun i w hi => markIdent_any i w hi)
  unfold Id.v idV mkId at HMI
  go_enter Tryz.func15, Tryz.ntmps15
  go_wp2_with (at_builtin; refine appendIds _ rfl _ _ rfl w.heap.size _ _ _ [] rfl hm0 _ _ _ ps rfl rfl HRD.out (by omega) (by simp) ?_; intro A1 c1 m1 w1 hm1 hown hfr; have hE1 : Ext w w1 := ownN_fresh hm0 ((Ext.refl w).alloc _) hfr; have HM1 := Lib.hid hm1; clear hm1 hfr hm0)
  clear hmk
  go_loopw [3, 4] (fun v i wr => LentIdsRel ps w v i wr) (fun _ i _ => 12 - (intOf i).toNat)
  case atStart => exact ⟨0, _, _, _, by omega, rfl, rfl, by simpa using HM1.out, by simpa [mkIds] using hown, hE1⟩
  case round =>
    clear hown hE1 HM1
    obtain ⟨k, m, A2, c2, hk, rfl, rfl, hm, hown, hE⟩ := hrel
    have HM := Lib.hid hm
    clear hm
    by_cases hlt : k < 12
    · have HO := Lib.hid hown
      have HE := Lib.hid hE
      clear hown hE
      go_wp2_with fail
      refine (HMI.out k _ (by omega)).mono ?_
      rintro e w5 ⟨rfl, hE5⟩
      have hown := HO.out.ext hE5
      have hE := HE.out.trans hE5
      have hrd := rd_lit w5 [.int .i64 (markI 1 k), .int .i64 0, .int .i64 0] 25
      go_wp2_with (at_builtin; refine appendIds _ rfl _ _ rfl w.heap.size _ _ _ (ps ++ mkIds k) rfl (hown.ext ((Ext.refl _).alloc _)) _ _ _ [mkId k] rfl rfl hrd (by have := HM.out; omega) (by have := hE.sz; simp; omega) ?_; intro A1 c1 m1 w1 hm1 hown1 hfr; have HM1 := Lib.hid hm1; have hE1 : Ext w w1 := ownN_fresh (hown.ext ((Ext.refl _).alloc _)) (hE.alloc _) hfr; clear hown hE hm1 hfr)
      go_roundw
      case rel => exact ⟨k + 1, m1, A1, c1, by omega, by go_num, rfl, by rw [HM1.out, HM.out]; omega, by rw [mkIds_succ, ← List.append_assoc]; exact hown1, hE1⟩
      case measure => simp [intOf]; omega
    · obtain rfl : k = 12 := by omega
      obtain ⟨g, rfl, hg, hc1, hc2⟩ := hown.some_ (by have := HM.out; omega)
      have HC2 := Lib.hid hc2
      have hc1' : ps.length + 12 ≤ c2 := by have := HM.out; omega
      obtain rfl := HM.out
      clear hc2
      go_wp2
      go_ret
      exact ⟨g, c2, rfl, hc1', HC2.out, hg, ids_of_rd hown.rd, hE⟩
end Go.Proofs.YtcapapnhlkmeaaaGreatDoor
