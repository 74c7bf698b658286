/-
  Rows of structs that a call makes; LentIdents.
  LentEntries: new rows with marks behind.
-/
import Derived.Test.YtjnllilmimngoaaGreatDoorM22
import Derived.Test.YtjnllilmimngoaaGreatDoorM14
namespace Go.Proofs.YtjnllilmimngoaaGreatDoor
open Go.RowKit

/-- A row of the call's own, of elements of many cells. -/
def OwnN (w : World) (B : Nat) (e : TypeId) (sz : Nat) (A : Option Addr) (n c : Nat) (xs : List Value) : Prop := w.ownsRow B e sz (.slice A n c) n xs
theorem OwnN.made (w : World) (B : Nat) (e : TypeId) (z : Array Value) (sz c : Nat) (hB : B ≤ w.heap.size) (hc : c ≤ 1000000000000) : OwnN (w.alloc (.cells (madeCells z (c * sz)) e)) B e sz (some ⟨w.heap.size, 0, none⟩) 0 c [] :=
  ⟨by simp, .inr ⟨_, _, _, rfl, hB, heap_alloc_new w _, Nat.zero_le _, by unfold maxLen; omega, size_madeCells _ _, by simp⟩⟩
theorem OwnN.ext {w w' : World} {B : Nat} {e : TypeId} {sz : Nat} {A : Option Addr} {n c : Nat} {xs : List Value} (h : OwnN w B e sz A n c xs) (he : Ext w w') : OwnN w' B e sz A n c xs := by
  obtain ⟨h1, h2⟩ := h
  refine ⟨h1, ?_⟩
  rcases h2 with h2 | ⟨g, cap, cur, hv, hb, hg, rest⟩
  · exact .inl h2
  · exact .inr ⟨g, cap, cur, hv, hb, he.blk hg, rest⟩
theorem OwnN.base {w : World} {B : Nat} {e : TypeId} {sz : Nat} {A : Option Addr} {n c : Nat} {xs : List Value} (h : OwnN w B e sz A n c xs) : ∀ i, blk A i → B ≤ i := by
  intro i hi
  rcases h.2 with ⟨h2, _⟩ | ⟨g, cap, cur, hv, hb, hg, rest⟩
  · injection h2 with h3 h4 h5
    subst h3
    simp [blk] at hi
  · injection hv with h3 h4 h5
    subst h3
    simp [blk] at hi
    omega
theorem OwnN.some_ {w : World} {B : Nat} {e : TypeId} {sz : Nat} {A : Option Addr} {n c : Nat} {xs : List Value} (h : OwnN w B e sz A n c xs) (hn : 0 < n) : ∃ g, A = some ⟨g, 0, none⟩ ∧ B ≤ g ∧ n ≤ c ∧ c ≤ maxLen := by
  rcases h.2 with ⟨_, h2⟩ | ⟨g, cap, cur, hv, hb, hg, hle, hm, _⟩
  · omega
  · injection hv with h3 h4 h5
    subst h3 h5
    exact ⟨g, rfl, hb, hle, hm⟩
theorem OwnN.rd {w : World} {B : Nat} {e : TypeId} {sz : Nat} {A : Option Addr} {n c : Nat} {xs : List Value} (h : OwnN w B e sz A n c xs) : Rd w A xs := fun j u hj => by
  rcases h.2 with ⟨_, h2⟩ | ⟨g, cap, cur, hv, hb, hg, hle, hm, hs, htk⟩
  · have := h.1
    rw [h2, Nat.zero_mul] at this
    rw [List.eq_nil_of_length_eq_zero this] at hj
    simp at hj
  · injection hv with h3 h4 h5
    subst h3
    refine ⟨_, rfl, ?_⟩
    rw [add_lit', Nat.zero_add, cell_of_heap hg]
    rw [← htk] at hj
    have hlt : j < n * sz := by
      have := (List.getElem?_eq_some_iff.1 hj).1
      rw [List.length_take] at this
      omega
    rw [List.getElem?_take_of_lt hlt] at hj
    simpa using hj
theorem ownN_fresh {w w1 w2 : World} {e : TypeId} {sz : Nat} {A : Option Addr} {n c : Nat} {xs : List Value} (h : OwnN w1 w.heap.size e sz A n c xs) (hE : Ext w w1) (hf : Fr (blk A) w1 w2) : Ext w w2 :=
  Below.trans hE (hf.below hE.sz (fun i hi => h.base i hi))

section
variable {P : Program} (w : World)
theorem wpList_append_N {ops : Array Oper} {rest : List Oper} {o : Oper} {a : Act} {Q : Exit → Act → World → Prop} (hgd : o.guard = none) (s x : Operand) (t : TypeId)
    (ho : o.op = .call { callee := .builtin .append, args := #[s, x], argTypes := #[t, t] })
    (B : Nat) (e : TypeId) (i : TypeInfo) (z : Value) (sz bytes : Nat) (ht : P.underlying t = some (.slice e)) (hi : P.info? e = some i) (hz : i.zero = some z)
    (hsize : i.size = sz) (hby : i.bytes = bytes) (hzs : z.cells.size = sz) (hsz : 0 < sz)
    (A : Option Addr) (n c : Nat) (xs : List Value) (hs : a.eval s = .slice A n c) (hown : OwnN w B e sz A n c xs)
    (D : Option Addr) (m cc : Nat) (news : List Value) (hx : a.eval x = .slice D m cc) (hl : news.length = m * sz) (hr : Rd w D news) (h1 : ∀ u ∈ news, u.oneCell' = true)
    (h63 : n + m ≤ maxLen) (hbytes : (n + m) * bytes ≤ 140737488355328) (hbase : B ≤ w.heap.size)
    (h : ∀ A' c' m' w', m' = n + m → OwnN w' B e sz A' m' c' (xs ++ news) → Fr (blk A) w w' → wpList P ops Q rest (a.put o.dst (.slice A' m' c')) w') : wpList P ops Q (o :: rest) a w := by
  have hob : (Value.slice A n c).ownBlock = A.map Addr.block := by cases A <;> rfl
  cases D with
  | some ad =>
    refine wpList_append_own w hgd s x t ho B e i z sz bytes ht hi hz hsize hby hzs hsz _ n xs hs hown ad m cc news hx hl (fun j u hj => ?_) h1 h63 hbytes hbase ?_
    · obtain ⟨ad', ha, hc⟩ := hr j u hj
      injection ha with ha; subst ha; exact hc
    · intro v' w' ho' hg _
      rw [hob] at hg
      have hsh : ∃ A' c', v' = .slice A' (n + m) c' := by
        rcases ho'.2 with ⟨h2, h3⟩ | ⟨g, cap, cur, hv, _⟩
        · exact ⟨none, 0, by rw [h2, h3]⟩
        · exact ⟨_, _, hv⟩
      obtain ⟨A', c', rfl⟩ := hsh
      exact h A' c' _ w' rfl ho' (Fr.ofGrown hg (fun g hg => hg))
  | none =>
    have hnil : news = [] := by
      cases news with
      | nil => rfl
      | cons u us => obtain ⟨_, ha, _⟩ := hr 0 u rfl; cases ha
    subst hnil
    have hm0 : m = 0 := by
      simp only [List.length_nil] at hl
      rcases Nat.eq_zero_or_pos m with h0 | h0
      · exact h0
      · have := Nat.mul_pos h0 hsz; omega
    subst hm0
    refine wpList_plain hgd fun K hK => ?_
    have hrun : (Builtin.append_ #[t, t] o.type #[.slice A n c, .slice none 0 cc]).run P w = .ok (.slice A n c) w := by
      rcases hown.2 with ⟨h2, h3⟩ | ⟨g, cap, cur, hv, hb, hg, hle, _⟩
      · injection h2 with a1 a2 a3
        subst a1 a2 a3
        simp [Builtin.append_, run_underlying ht, sizeOf, typeInfo, hi, Builtin.lenOf, Builtin.firstCells]
      · injection hv with a1 a2 a3
        subst a1 a3
        simp [Builtin.append_, run_underlying ht, sizeOf, typeInfo, hi, Builtin.lenOf, Builtin.firstCells, loadCells, storeCells, hle]
    unfold Oper.wp execOp
    simp only [ho, resolve, invoke, builtin, Sem.run_bind, Sem.run_pure, Result.andThen_ok, List.map_toArray, List.map_cons, List.map_nil, hs, hx, hrun]
    exact hK _ _ (h A c n w rfl (by simpa using hown) (Fr.refl _ w))
end

def idsC (ps : List Id) : List Value := ps.flatMap Id.cells
theorem idsC_length (ps : List Id) : (idsC ps).length = ps.length * 3 := by
  induction ps with
  | nil => rfl
  | cons p ps ih => simp only [idsC, List.flatMap_cons, List.length_append, List.length_cons, Id.cells, List.length_nil] at ih ⊢; omega
theorem idsC_app (ps qs : List Id) : idsC (ps ++ qs) = idsC ps ++ idsC qs := by simp [idsC]
theorem idsC_get {ps : List Id} {k : Nat} {p : Id} (h : ps[k]? = some p) : (idsC ps)[k * 3]? = some (.int .i64 p.i) ∧ (idsC ps)[k * 3 + 1]? = some (.int .i64 p.t) ∧ (idsC ps)[k * 3 + 2]? = some (.int .i64 p.k) := by
  induction ps generalizing k with
  | nil => simp at h
  | cons q ps ih =>
    cases k with
    | zero => simp at h; subst h; exact ⟨rfl, rfl, rfl⟩
    | succ k =>
      have h3 := ih (k := k) (by simpa using h)
      have e : idsC (q :: ps) = .int .i64 q.i :: .int .i64 q.t :: .int .i64 q.k :: idsC ps := rfl
      rw [e]
      rw [show (k + 1) * 3 = k * 3 + 1 + 1 + 1 by omega, show k * 3 + 1 + 1 + 1 + 1 = (k * 3 + 1) + 1 + 1 + 1 by omega, show k * 3 + 1 + 1 + 1 + 2 = (k * 3 + 2) + 1 + 1 + 1 by omega]
      simp only [List.getElem?_cons_succ]
      exact h3
theorem idsC_one (ps : List Id) : ∀ u ∈ idsC ps, u.oneCell' = true := fun u hu => by
  obtain ⟨p, _, hp⟩ := List.mem_flatMap.1 hu
  simp only [Id.cells, List.mem_cons, List.not_mem_nil, or_false] at hp
  rcases hp with rfl | rfl | rfl <;> rfl
theorem ids_of_rd {w : World} {g : Nat} {ps : List Id} (h : Rd w (some ⟨g, 0, none⟩) (idsC ps)) : IdsIn w (some ⟨g, 0, none⟩) ps := fun j p hj => by
  obtain ⟨h0, h1, h2⟩ := idsC_get hj
  have key : ∀ (k : Nat) (u : Value), (idsC ps)[k]? = some u → w.cell? ⟨g, k, none⟩ = some u := fun k u hk => by
    obtain ⟨ad, ha, hc⟩ := h k u hk
    injection ha with ha
    subst ha
    rw [add_lit', Nat.zero_add] at hc
    exact hc
  exact ⟨g, 0, rfl, by rw [Nat.zero_add]; exact key _ _ h0, by rw [Nat.zero_add]; exact key _ _ h1, by rw [Nat.zero_add]; exact key _ _ h2⟩
theorem idsC_split {ps : List Id} {j : Nat} {u : Value} (h : (idsC ps)[j]? = some u) : ∃ k p, ps[k]? = some p ∧ ((j = k * 3 ∧ u = .int .i64 p.i) ∨ (j = k * 3 + 1 ∧ u = .int .i64 p.t) ∨ (j = k * 3 + 2 ∧ u = .int .i64 p.k)) := by
  have hlt := (List.getElem?_eq_some_iff.1 h).1
  rw [idsC_length] at hlt
  have hk : j / 3 < ps.length := by omega
  refine ⟨j / 3, ps[j / 3], List.getElem?_eq_getElem hk, ?_⟩
  obtain ⟨h0, h1, h2⟩ := idsC_get (List.getElem?_eq_getElem hk)
  have hj : j = j / 3 * 3 ∨ j = j / 3 * 3 + 1 ∨ j = j / 3 * 3 + 2 := by omega
  rcases hj with e | e | e
  · rw [← e, h] at h0; injection h0 with h0; exact .inl ⟨e, h0⟩
  · rw [← e, h] at h1; injection h1 with h1; exact .inr (.inl ⟨e, h1⟩)
  · rw [← e, h] at h2; injection h2 with h2; exact .inr (.inr ⟨e, h2⟩)
theorem rd_of_ids {w : World} {A : Option Addr} {ps : List Id} (h : IdsIn w A ps) : Rd w A (idsC ps) := fun j u hj => by
  obtain ⟨k, p, hp, hc⟩ := idsC_split hj
  obtain ⟨b, f, rfl, h0, h1, h2⟩ := h k p hp
  refine ⟨_, rfl, ?_⟩
  rw [add_lit']
  rcases hc with ⟨rfl, rfl⟩ | ⟨rfl, rfl⟩ | ⟨rfl, rfl⟩
  · exact h0
  · exact h1
  · exact h2
def mkId (j : Nat) : Id := ⟨markI 1 j, 0, 0⟩
def mkIds (k : Nat) : List Id := (List.range k).map mkId
theorem mkIds_succ (k : Nat) : mkIds (k + 1) = mkIds k ++ [mkId k] := by simp [mkIds, List.range_succ]
theorem mkIds_length (k : Nat) : (mkIds k).length = k := by simp [mkIds]

set_option maxRecDepth 100000 in
set_option maxHeartbeats 400000 in
theorem markIdent_any (i : Nat) (w : World) (hi : i ≤ 1000000000000) : Calls Tryz.prog 125 #[.int .i64 1, .int .i64 i] w fun e w' => e = .returned (mkId i).v ∧ Ext w w' := by
  have HM := Lib.hid (fun w => mark_any 1 i w (by omega) hi)
  unfold Id.v idV mkId
  go_enter Tryz.func125, Tryz.ntmps125
  go_wp2_with (go_at_call 98; refine (HM.out _).mono ?_; rintro e w' ⟨rfl, rfl⟩)
  exact bodyPost_ret (v := .agg #[.int .i64 (markI 1 i), .int .i64 0, .int .i64 0]) (by simp [results, Tryz.results125, go_sem]) rfl ⟨rfl, (Ext.refl _).alloc _⟩

theorem Tryz.infoEId : (Tryz.prog.info? 26).map (fun i => (i.zero, i.size, i.bytes)) = some (some (.agg #[.int .i64 0, .int .i64 0, .int .i64 0]), 3, 24) := by kernel_rfl
theorem mk0Ids (n : Nat) (hn : n ≤ 1000000000) (w : World) : (Instr.makeSlice 27 (.int .i64 0) (.int .i64 ((n : Int) + 12))).run Tryz.prog w = .ok (.slice (some ⟨w.heap.size, 0, none⟩) 0 (n + 12)) (w.alloc (.cells (madeCells #[.int .i64 0, .int .i64 0, .int .i64 0] ((n + 12) * 3)) 26)) := by
  obtain ⟨i0, hi, hz0, hz1, hz2⟩ := info_parts Tryz.infoEId
  have hr := run_make (P := Tryz.prog) w 27 26 i0 _ Tryz.underlying27 hi hz0 .i64 .i64 0 ((n : Int) + 12) (by omega) (by omega) (by rw [hz2]; omega) (by omega)
  rw [hz1, show ((n : Int) + 12).toNat = n + 12 by omega] at hr
  exact hr
theorem appendIds {ops : Array Oper} {rest : List Oper} {o : Oper} {a : Act} {Q : Exit → Act → World → Prop} (w : World) (hgd : o.guard = none) (s x : Operand)
    (ho : o.op = .call { callee := .builtin .append, args := #[s, x], argTypes := #[27, 27] })
    (B : Nat) (A : Option Addr) (n c : Nat) (ps : List Id) (hs : a.eval s = .slice A n c) (hown : OwnN w B 26 3 A n c (idsC ps))
    (D : Option Addr) (m cc : Nat) (news : List Id) (hx : a.eval x = .slice D m cc) (hm : m = news.length) (hr : Rd w D (idsC news))
    (h63 : n + m ≤ 2000000000) (hbase : B ≤ w.heap.size)
    (h : ∀ A' c' m' w', m' = n + m → OwnN w' B 26 3 A' m' c' (idsC (ps ++ news)) → Fr (blk A) w w' → wpList Tryz.prog ops Q rest (a.put o.dst (.slice A' m' c')) w') : wpList Tryz.prog ops Q (o :: rest) a w := by
  obtain ⟨i0, hi, hz0, hz1, hz2⟩ := info_parts Tryz.infoEId
  refine wpList_append_N w hgd s x 27 ho B 26 i0 _ 3 24 Tryz.underlying27 hi hz0 hz1 hz2 rfl (by decide) A n c (idsC ps) hs hown D m cc (idsC news) hx (by rw [idsC_length, hm]) hr (idsC_one _) (by unfold maxLen; omega) (by omega) hbase ?_
  intro A' c' m' w' h1 h2 h3
  exact h A' c' m' w' h1 (by rw [idsC_app]; exact h2) h3

/-- What LentIdents leaves: a new row with marks behind. -/
theorem HasRow.ownN {sz : Nat} {w : World} {B : Nat} {e : TypeId} {g n c : Nat} {xs : List Value} (h : OwnN w B e sz (some ⟨g, 0, none⟩) n c xs) : HasRow sz w g c := by
  rcases h.2 with ⟨h0, _⟩ | ⟨g', cap, cur, hg, _, hh, _, _, hs, _⟩
  · cases h0
  · injection hg with hg _ hc; injection hg with hg; injection hg with hg; subst hg hc
    exact ⟨cur, e, hh, hs⟩
def IdsO (w : World) (g c : Nat) (ps : List Id) : Prop := IdsIn w (some ⟨g, 0, none⟩) ps ∧ HasRow 3 w g c
theorem IdsO.ext {w w' : World} {g c : Nat} {ps : List Id} (h : IdsO w g c ps) (he : Ext w w') : IdsO w' g c ps := ⟨h.1.ext he, h.2.ext he⟩
def LentIds (ps : List Id) (w : World) (e : Ending) (w' : World) : Prop :=
  ∃ g c', e = .returned (.slice (some ⟨g, 0, none⟩) ps.length c') ∧ ps.length + 12 ≤ c' ∧ c' ≤ maxLen ∧ w.heap.size ≤ g ∧ IdsO w' g c' (ps ++ mkIds 12) ∧ Ext w w'
def LentIdsRel (ps : List Id) (w : World) (v i : Value) (wr : World) : Prop :=
  ∃ (k m : Nat) (A : Option Addr) (c : Nat), k ≤ 12 ∧ i = .int .i64 k ∧ v = .slice A m c ∧ m = ps.length + k ∧ OwnN wr w.heap.size 26 3 A m c (idsC (ps ++ mkIds k)) ∧ Ext w wr
set_option maxRecDepth 100000 in
set_option maxHeartbeats 1000000 in
theorem lentIds_any (A : Option Addr) (c : Nat) (ps : List Id) (w : World) (hA : IdsIn w A ps) (hz : ps.length ≤ 1000000000) :
    Calls Tryz.prog 99 #[.slice A ps.length c] w (LentIds ps w) := by
  have hmk := mk0Ids ps.length hz
  have hm0 := OwnN.made w w.heap.size 26 #[.int .i64 0, .int .i64 0, .int .i64 0] 3 (ps.length + 12) (Nat.le_refl _) (by omega)
  have HRD := Lib.hid ((rd_of_ids hA).ext ((Ext.refl w).alloc (.cells (madeCells #[.int .i64 0, .int .i64 0, .int .i64 0] ((ps.length + 12) * 3)) 26)))
  have HMI := Lib.hid (fun i w hi => markIdent_any i w hi)
  unfold Id.v idV mkId at HMI
  go_enter Tryz.func99, Tryz.ntmps99
  go_wp2_with (at_builtin; refine appendIds _ rfl _ _ rfl w.heap.size _ _ _ [] rfl hm0 _ _ _ ps rfl rfl HRD.out (by omega) (by simp) ?_; intro A1 c1 m1 w1 hm1 hown hfr; have hE1 : Ext w w1 := ownN_fresh hm0 ((Ext.refl w).alloc _) hfr; have HM1 := Lib.hid hm1; clear hm1 hfr hm0)
  clear hmk
  go_loopw [3, 4] (fun v i wr => LentIdsRel ps w v i wr) (fun _ i _ => 12 - (intOf i).toNat)
  case atStart => exact ⟨0, _, _, _, by omega, rfl, rfl, by simpa using HM1.out, by simpa [mkIds] using hown, hE1⟩
  case round =>
    clear hown hE1 HM1
    obtain ⟨k, m, A2, c2, hk, rfl, rfl, hm, hown, hE⟩ := hrel
    have HM := Lib.hid hm
    clear hm
    by_cases hlt : k < 12
    · have HO := Lib.hid hown
      have HE := Lib.hid hE
      clear hown hE
      go_wp2_with fail
      refine (HMI.out k _ (by omega)).mono ?_
      rintro e w5 ⟨rfl, hE5⟩
      have hown := HO.out.ext hE5
      have hE := HE.out.trans hE5
      have hrd := rd_lit w5 [.int .i64 (markI 1 k), .int .i64 0, .int .i64 0] 26
      go_wp2_with (at_builtin; refine appendIds _ rfl _ _ rfl w.heap.size _ _ _ (ps ++ mkIds k) rfl (hown.ext ((Ext.refl _).alloc _)) _ _ _ [mkId k] rfl rfl hrd (by have := HM.out; omega) (by have := hE.sz; simp; omega) ?_; intro A1 c1 m1 w1 hm1 hown1 hfr; have HM1 := Lib.hid hm1; have hE1 : Ext w w1 := ownN_fresh (hown.ext ((Ext.refl _).alloc _)) (hE.alloc _) hfr; clear hown hE hm1 hfr)
      go_roundw
      case rel => exact ⟨k + 1, m1, A1, c1, by omega, by go_num, rfl, by rw [HM1.out, HM.out]; omega, by rw [mkIds_succ, ← List.append_assoc]; exact hown1, hE1⟩
      case measure => simp [intOf]; omega
    · obtain rfl : k = 12 := by omega
      obtain ⟨g, rfl, hg, hc1, hc2⟩ := hown.some_ (by have := HM.out; omega)
      have HC2 := Lib.hid hc2
      have hc1' : ps.length + 12 ≤ c2 := by have := HM.out; omega
      obtain rfl := HM.out
      clear hc2
      go_wp2
      go_ret
      exact ⟨g, c2, rfl, hc1', HC2.out, hg, ⟨ids_of_rd hown.rd, HasRow.ownN hown⟩, hE⟩
end Go.Proofs.YtjnllilmimngoaaGreatDoor
namespace Go.Proofs.YtjnllilmimngoaaGreatDoor
open Go.RowKit

def LentO (zs : List Int) (w : World) (e : Ending) (w' : World) : Prop :=
  ∃ g c', e = .returned (.slice (some ⟨g, 0, none⟩) zs.length c') ∧ zs.length + 12 ≤ c' ∧ Own w' w.heap.size 5 (some ⟨g, 0, none⟩) c' ((zs ++ mks (markB 1) 12).map (Value.int .u8)) ∧ Ext w w'
set_option maxHeartbeats 400000 in
theorem lentBytesO (A : Option Addr) (c : Nat) (zs : List Int) (w : World) (hA : Rd w A (zs.map (.int .u8))) (hz : zs.length ≤ 1000000000) :
    Calls Tryz.prog 102 #[.slice A zs.length c] w (LentO zs w) := by
  have hmk := mk0Bytes zs.length hz
  have hm0 := Own.made w w.heap.size 5 (.int .u8 0) (zs.length + 12) (Nat.le_refl _) (by omega)
  go_enter Tryz.func102, Tryz.ntmps102
  go_wp2_with (at_builtin; refine appendBytes _ rfl _ _ rfl w.heap.size _ _ _ [] rfl rfl hm0 _ _ _ zs rfl rfl (hA.ext ((Ext.refl w).alloc _)) (by simp; omega) (by simp) ?_; intro A1 c1 m1 w1 hm1 hown hfr _; have hE1 : Ext w w1 := own_fresh hm0 ((Ext.refl w).alloc _) hfr; have HM1 := Lib.hid hm1; clear hm1 hfr hm0)
  clear hmk
  go_loopw [3, 4] (fun v i wr => LentRel .u8 5 (markB 1) zs w v i wr) (fun _ i _ => 12 - (intOf i).toNat)
  case atStart => exact ⟨0, _, _, _, by omega, rfl, rfl, by simpa using HM1.out, by simpa [mks] using hown, hE1⟩
  case round =>
    clear hown hE1 HM1
    obtain ⟨k, m, A2, c2, hk, rfl, rfl, hm, hown, hE⟩ := hrel
    have HM := Lib.hid hm
    clear hm
    by_cases hlt : k < 12
    · go_wp2_with (first | (go_at_call 58; refine (markByte_any 1 k _ (by omega) (by omega)).mono ?_; rintro e w' ⟨rfl, rfl⟩) | (at_builtin; refine appendBytes _ rfl _ _ rfl w.heap.size _ _ _ (zs ++ mks (markB 1) k) rfl (by rw [HM.out]; simp [mks_length]) (hown.ext ((Ext.refl _).alloc _)) _ _ _ [markB 1 k] rfl rfl (rd_one _ _ _) (by simp [mks_length]; omega) (by have := hE.sz; simp; omega) ?_; intro A1 c1 m1 w1 hm1 hown1 hfr _; have HM1 := Lib.hid hm1; have hE1 : Ext w w1 := own_fresh (hown.ext ((Ext.refl _).alloc _)) (hE.alloc _) hfr; have hown2 : Own w1 w.heap.size 5 A1 c1 ((zs ++ mks (markB 1) (k + 1)).map (Value.int .u8)) := (by rw [mks_succ, ← List.append_assoc]; exact hown1); clear hown1 hfr hm1))
      exact ⟨⟨k + 1, _, _, _, by omega, by go_num, rfl, by rw [HM1.out]; simp [mks_length], hown2, hE1⟩, by simp [intOf]; omega⟩
    · obtain rfl : k = 12 := by omega
      obtain ⟨g, rfl⟩ := hown.some_ (by simp [mks_length])
      have hcap := hown.cap
      have hc1 : zs.length + 12 ≤ c2 := by simpa [mks_length] using hcap.1
      have hc2 := Lib.hid hcap.2
      clear hcap
      obtain rfl := HM.out
      go_wp2
      go_ret
      exact ⟨g, c2, rfl, hc1, hown, hE⟩

def LentEnt (x : Ent) (w : World) (e : Ending) (w' : World) : Prop :=
  ∃ g c', e = .returned (Ent.v ⟨x.i, x.t, x.k, some ⟨g, 0, none⟩, c', x.bs⟩) ∧ x.bs.length + 12 ≤ c' ∧ Own w' w.heap.size 5 (some ⟨g, 0, none⟩) c' ((x.bs ++ mks (markB 1) 12).map (Value.int .u8)) ∧ Ext w w'
theorem Own.setOther {w : World} {B : Nat} {e : TypeId} {A : Option Addr} {c : Nat} {xs : List Value} (h : Own w B e A c xs) (p : Addr) (u : Value) (hp : ∀ i, blk A i → i ≠ p.block) : Own (w.setCell p u) B e A c xs :=
  h.keep fun i hi _ => Below.heap_setCell _ _ _ i (fun e => hp i hi (by rw [e]))
set_option maxRecDepth 100000 in
set_option maxHeartbeats 1000000 in
theorem lentEnt_any (x : Ent) (w : World) (hin : x.inW w) (hz : x.bs.length ≤ 1000000000) : Calls Tryz.prog 138 #[x.v] w (LentEnt x w) := by
  have HL := Lib.hid (fun w' (h : Ext w w') => lentBytesO x.bA x.bc x.bs w' (hin.1.ext h) hz)
  have HB0 := Lib.hid (heap0 w (.cells #[.int .i64 x.i, .int .i64 x.t, .int .i64 x.k, .slice x.bA x.bs.length x.bc] 121) (.cells #[.int .i64 0, .int .i64 0, .int .i64 0, .slice none 0 0] 121))
  have HB1 := Lib.hid (heap1 w (.cells #[.int .i64 x.i, .int .i64 x.t, .int .i64 x.k, .slice x.bA x.bs.length x.bc] 121) (.cells #[.int .i64 0, .int .i64 0, .int .i64 0, .slice none 0 0] 121))
  have HE0 := Lib.hid (((Ext.refl w).alloc (.cells #[.int .i64 x.i, .int .i64 x.t, .int .i64 x.k, .slice x.bA x.bs.length x.bc] 121)).alloc (.cells #[.int .i64 0, .int .i64 0, .int .i64 0, .slice none 0 0] 121))
  unfold Ent.v
  clear hin
  go_enter Tryz.func138, Tryz.ntmps138
  go_wp2_with fail
  refine (HL.out _ HE0.out).mono ?_
  rintro e w1 ⟨g, c', rfl, hc, hO, hE1⟩
  have g0 := hE1.blk HB0.out
  have g1 := hE1.blk HB1.out
  have a0 := cell_of_heap g0 0
  have a1 := cell_of_heap g0 1
  have a2 := cell_of_heap g0 2
  have a3 := cell_of_heap g0 3
  have b0 := cell_of_heap g1 0
  have b1 := cell_of_heap g1 1
  have b2 := cell_of_heap g1 2
  have b3 := cell_of_heap g1 3
  have f0 := frozen_of_heap g0
  have f1 := frozen_of_heap g1
  simp at a0 a1 a2 a3 b0 b1 b2 b3
  have hgb : w.heap.size + 2 ≤ g := by have := (hO.lt (i := g) rfl).1; simpa using this
  have HO := Lib.hid hO
  have HE1 := Lib.hid (HE0.out.trans hE1)
  clear g0 g1 hO hE1
  go_wp2_with fail
  refine bodyPost_ret (v := .agg #[.int .i64 x.i, .int .i64 x.t, .int .i64 x.k, .slice (some ⟨g, 0, none⟩) x.bs.length c']) (by simp [results, Tryz.results138, go_sem, b0, b1, b2, b3]) rfl ⟨g, c', rfl, hc, ?_, ?_⟩
  · have hne : ∀ (p : Addr), (p.block = w.heap.size ∨ p.block = w.heap.size + 1) → ∀ i, blk (some ⟨g, 0, none⟩) i → i ≠ p.block := fun p hp i hi => by
      have : g = i := by simpa [blk] using hi
      omega
    refine Own.setOther (Own.setOther (Own.setOther (Own.setOther (Own.setOther (HO.out.lower (by simp; omega)) _ _ (hne _ ?_)) _ _ (hne _ ?_)) _ _ (hne _ ?_)) _ _ (hne _ ?_)) _ _ (hne _ ?_) <;> simp
  · exact ((((HE1.out.set (by simp) _).set (by simp) _).set (by simp) _).set (by simp) _).set (by simp) _

def mkEnt (j : Nat) : Ent := ⟨markI 1 j, 0, 0, none, 0, []⟩
def mkEnts (k : Nat) : List Ent := (List.range k).map mkEnt
theorem mkEnts_succ (k : Nat) : mkEnts (k + 1) = mkEnts k ++ [mkEnt k] := by simp [mkEnts, List.range_succ]
theorem mkEnts_length (k : Nat) : (mkEnts k).length = k := by simp [mkEnts]
set_option maxRecDepth 100000 in
set_option maxHeartbeats 400000 in
theorem markEntry_any (i : Nat) (w : World) (hi : i ≤ 1000000000000) : Calls Tryz.prog 60 #[.int .i64 1, .int .i64 i] w fun e w' => e = .returned (mkEnt i).v ∧ Ext w w' := by
  have HM := Lib.hid (fun w => mark_any 1 i w (by omega) hi)
  unfold Ent.v mkEnt
  go_enter Tryz.func60, Tryz.ntmps60
  go_wp2_with (go_at_call 98; refine (HM.out _).mono ?_; rintro e w' ⟨rfl, rfl⟩)
  exact bodyPost_ret (v := .agg #[.int .i64 (markI 1 i), .int .i64 0, .int .i64 0, .slice none 0 0]) (by simp [results, Tryz.results60, go_sem]) rfl ⟨rfl, (Ext.refl _).alloc _⟩

def entsC (es : List Ent) : List Value := es.flatMap Ent.cells
theorem entsC_length (es : List Ent) : (entsC es).length = es.length * 4 := by
  induction es with
  | nil => rfl
  | cons p es ih => simp only [entsC, List.flatMap_cons, List.length_append, List.length_cons, Ent.cells, List.length_nil] at ih ⊢; omega
theorem entsC_app (ps qs : List Ent) : entsC (ps ++ qs) = entsC ps ++ entsC qs := by simp [entsC]
theorem entsC_get {es : List Ent} {k : Nat} {e : Ent} (h : es[k]? = some e) : (entsC es)[k * 4]? = some (.int .i64 e.i) ∧ (entsC es)[k * 4 + 1]? = some (.int .i64 e.t) ∧ (entsC es)[k * 4 + 2]? = some (.int .i64 e.k) ∧ (entsC es)[k * 4 + 3]? = some (.slice e.bA e.bs.length e.bc) := by
  induction es generalizing k with
  | nil => simp at h
  | cons q es ih =>
    cases k with
    | zero => simp at h; subst h; exact ⟨rfl, rfl, rfl, rfl⟩
    | succ k =>
      have h3 := ih (k := k) (by simpa using h)
      have e : entsC (q :: es) = .int .i64 q.i :: .int .i64 q.t :: .int .i64 q.k :: .slice q.bA q.bs.length q.bc :: entsC es := rfl
      rw [e]
      rw [show (k + 1) * 4 = k * 4 + 1 + 1 + 1 + 1 by omega, show k * 4 + 1 + 1 + 1 + 1 + 1 = (k * 4 + 1) + 1 + 1 + 1 + 1 by omega, show k * 4 + 1 + 1 + 1 + 1 + 2 = (k * 4 + 2) + 1 + 1 + 1 + 1 by omega, show k * 4 + 1 + 1 + 1 + 1 + 3 = (k * 4 + 3) + 1 + 1 + 1 + 1 by omega]
      simp only [List.getElem?_cons_succ]
      exact h3
theorem entsC_one (es : List Ent) : ∀ u ∈ entsC es, u.oneCell' = true := fun u hu => by
  obtain ⟨p, _, hp⟩ := List.mem_flatMap.1 hu
  simp only [Ent.cells, List.mem_cons, List.not_mem_nil, or_false] at hp
  rcases hp with rfl | rfl | rfl | rfl <;> rfl
theorem ents_of_rd {w : World} {g : Nat} {es : List Ent} (h : Rd w (some ⟨g, 0, none⟩) (entsC es)) (hi : ∀ e ∈ es, e.inW w) : EntsIn w (some ⟨g, 0, none⟩) es := fun j e hj => by
  obtain ⟨h0, h1, h2, h3⟩ := entsC_get hj
  have key : ∀ (k : Nat) (u : Value), (entsC es)[k]? = some u → w.cell? ⟨g, k, none⟩ = some u := fun k u hk => by
    obtain ⟨ad, ha, hc⟩ := h k u hk
    injection ha with ha
    subst ha
    rw [add_lit', Nat.zero_add] at hc
    exact hc
  exact ⟨g, 0, rfl, by rw [Nat.zero_add]; exact key _ _ h0, by rw [Nat.zero_add]; exact key _ _ h1, by rw [Nat.zero_add]; exact key _ _ h2, by rw [Nat.zero_add]; exact key _ _ h3, hi e (mem_get hj)⟩

theorem Tryz.infoEEnt : (Tryz.prog.info? 121).map (fun i => (i.zero, i.size, i.bytes)) = some (some (.agg #[.int .i64 0, .int .i64 0, .int .i64 0, .slice none 0 0]), 4, 48) := by kernel_rfl
theorem mk0Ents (n : Nat) (hn : n ≤ 1000000000) (w : World) : (Instr.makeSlice 28 (.int .i64 0) (.int .i64 ((n : Int) + 12))).run Tryz.prog w = .ok (.slice (some ⟨w.heap.size, 0, none⟩) 0 (n + 12)) (w.alloc (.cells (madeCells #[.int .i64 0, .int .i64 0, .int .i64 0, .slice none 0 0] ((n + 12) * 4)) 121)) := by
  obtain ⟨i0, hi, hz0, hz1, hz2⟩ := info_parts Tryz.infoEEnt
  have hr := run_make (P := Tryz.prog) w 28 121 i0 _ Tryz.underlying28 hi hz0 .i64 .i64 0 ((n : Int) + 12) (by omega) (by omega) (by rw [hz2]; omega) (by omega)
  rw [hz1, show ((n : Int) + 12).toNat = n + 12 by omega] at hr
  exact hr
theorem appendEnts {ops : Array Oper} {rest : List Oper} {o : Oper} {a : Act} {Q : Exit → Act → World → Prop} (w : World) (hgd : o.guard = none) (s x : Operand)
    (ho : o.op = .call { callee := .builtin .append, args := #[s, x], argTypes := #[28, 28] })
    (B : Nat) (A : Option Addr) (n c : Nat) (es : List Ent) (hs : a.eval s = .slice A n c) (hown : OwnN w B 121 4 A n c (entsC es))
    (D : Option Addr) (m cc : Nat) (news : List Ent) (hx : a.eval x = .slice D m cc) (hm : m = news.length) (hr : Rd w D (entsC news))
    (h63 : n + m ≤ 2000000000) (hbase : B ≤ w.heap.size)
    (h : ∀ A' c' m' w', m' = n + m → OwnN w' B 121 4 A' m' c' (entsC (es ++ news)) → Fr (blk A) w w' → wpList Tryz.prog ops Q rest (a.put o.dst (.slice A' m' c')) w') : wpList Tryz.prog ops Q (o :: rest) a w := by
  obtain ⟨i0, hi, hz0, hz1, hz2⟩ := info_parts Tryz.infoEEnt
  refine wpList_append_N w hgd s x 28 ho B 121 i0 _ 4 48 Tryz.underlying28 hi hz0 hz1 hz2 rfl (by decide) A n c (entsC es) hs hown D m cc (entsC news) hx (by rw [entsC_length, hm]) hr (entsC_one _) (by unfold maxLen; omega) (by omega) hbase ?_
  intro A' c' m' w' h1 h2 h3
  exact h A' c' m' w' h1 (by rw [entsC_app]; exact h2) h3
theorem OwnN.ne {w : World} {B : Nat} {A : Option Addr} {n c : Nat} {xs : List Value} (h : OwnN w B 121 4 A n c xs) {B' : Nat} {D : Option Addr} {d : Nat} {ys : List Value} (h' : Own w B' 5 D d ys) : ∀ i, blk D i → ¬ blk A i := by
  intro i hi hA
  rcases h.2 with ⟨h2, _⟩ | ⟨g, cap, cur, hv, hb, hg, rest⟩
  · injection h2 with h3 h4 h5
    subst h3
    simp [blk] at hA
  · injection hv with h3 h4 h5
    subst h3
    have : g = i := by simpa [blk] using hA
    subst this
    exact h'.ne_blk hg (by decide) hi

/-- Entries that are lent: the same, with bodies in new rows that have marks behind. -/
def LentOf (B : Nat) (es es' : List Ent) (w : World) : Prop := es'.length = es.length ∧ ∀ (j : Nat) (e : Ent), es[j]? = some e → ∃ g c' : Nat, es'[j]? = some (⟨e.i, e.t, e.k, some ⟨g, 0, none⟩, c', e.bs⟩ : Ent) ∧ e.bs.length + 12 ≤ c' ∧ Own w B 5 (some ⟨g, 0, none⟩) c' ((e.bs ++ mks (markB 1) 12).map (Value.int .u8))
theorem LentOf.ext {B : Nat} {es es' : List Ent} {w w' : World} (h : LentOf B es es' w) (he : Ext w w') : LentOf B es es' w' := ⟨h.1, fun j e hj => by
  obtain ⟨g, c', h1, h2, h3⟩ := h.2 j e hj
  exact ⟨g, c', h1, h2, h3.ext he⟩⟩
theorem LentOf.fr {B : Nat} {es es' : List Ent} {w w' : World} {B' : Nat} {A : Option Addr} {n c : Nat} {xs : List Value} (h : LentOf B es es' w) (hA : OwnN w B' 121 4 A n c xs) (hf : Fr (blk A) w w') : LentOf B es es' w' := ⟨h.1, fun j e hj => by
  obtain ⟨g, c', h1, h2, h3⟩ := h.2 j e hj
  exact ⟨g, c', h1, h2, h3.fr hf (hA.ne h3)⟩⟩
theorem LentOf.snoc {B : Nat} {es es' : List Ent} {w : World} {k : Nat} {e : Ent} (h : LentOf B (es.take k) es' w) (hk : es[k]? = some e) {g c' : Nat} (hc : e.bs.length + 12 ≤ c') (hO : Own w B 5 (some ⟨g, 0, none⟩) c' ((e.bs ++ mks (markB 1) 12).map (Value.int .u8))) :
    LentOf B (es.take (k + 1)) (es' ++ [⟨e.i, e.t, e.k, some ⟨g, 0, none⟩, c', e.bs⟩]) w := by
  have hlt := (List.getElem?_eq_some_iff.1 hk).1
  have hl : es'.length = k := by have := h.1; rw [List.length_take] at this; omega
  rw [take_snoc' hk]
  refine ⟨by rw [List.length_append, List.length_append, h.1]; rfl, fun j x hj => ?_⟩
  have hlk : (es.take k).length = k := by rw [List.length_take]; omega
  by_cases hjk : j < k
  · rw [List.getElem?_append_left (by omega)] at hj
    obtain ⟨g2, c2, h1, h2, h3⟩ := h.2 j x hj
    exact ⟨g2, c2, by rw [List.getElem?_append_left (by omega)]; exact h1, h2, h3⟩
  · rw [List.getElem?_append_right (by omega), hlk] at hj
    have hj0 : j - k = 0 := by
      have := (List.getElem?_eq_some_iff.1 hj).1
      simp at this; omega
    rw [hj0] at hj
    simp at hj
    subst hj
    exact ⟨g, c', by rw [List.getElem?_append_right (by omega), hl, hj0]; rfl, hc, hO⟩
theorem LentOf.inW {B : Nat} {es es' : List Ent} {w0 w : World} (h : LentOf B es es' w) (hi : ∀ e ∈ es, e.inW w0) : ∀ e ∈ es', e.inW w := fun x hx => by
  obtain ⟨j, hj⟩ := List.getElem?_of_mem hx
  have hlt := (List.getElem?_eq_some_iff.1 hj).1
  have hlt2 : j < es.length := by have := h.1; omega
  obtain ⟨g, c', h1, h2, h3⟩ := h.2 j es[j] (List.getElem?_eq_getElem hlt2)
  rw [hj] at h1
  injection h1 with h1
  subst h1
  have hio := hi es[j] (List.getElem_mem hlt2)
  refine ⟨?_, hio.2.1, hio.2.2⟩
  have := h3.rd
  rw [List.map_append] at this
  exact this.pre
def EntsO (w : World) (g c : Nat) (es : List Ent) : Prop := EntsIn w (some ⟨g, 0, none⟩) es ∧ HasRow 4 w g c
theorem EntsO.ext {w w' : World} {g c : Nat} {es : List Ent} (h : EntsO w g c es) (he : Ext w w') : EntsO w' g c es := ⟨h.1.ext he, h.2.ext he⟩
def LentEs (es : List Ent) (w : World) (e : Ending) (w' : World) : Prop :=
  ∃ g c' es', e = .returned (.slice (some ⟨g, 0, none⟩) es.length c') ∧ es.length + 12 ≤ c' ∧ c' ≤ maxLen ∧ w.heap.size ≤ g ∧ EntsO w' g c' (es' ++ mkEnts 12) ∧ LentOf w.heap.size es es' w' ∧ Ext w w'
def LentEsRel (es : List Ent) (w : World) (v i : Value) (wr : World) : Prop :=
  ∃ (k m : Nat) (A : Option Addr) (c : Nat) (es' : List Ent), k ≤ es.length ∧ i = .int .i64 k ∧ v = .slice A m c ∧ m = k ∧ OwnN wr w.heap.size 121 4 A m c (entsC es') ∧ LentOf w.heap.size (es.take k) es' wr ∧ Ext w wr
def LentEsRel2 (es : List Ent) (w : World) (v i : Value) (wr : World) : Prop :=
  ∃ (k m : Nat) (A : Option Addr) (c : Nat) (es' : List Ent), k ≤ 12 ∧ i = .int .i64 k ∧ v = .slice A m c ∧ m = es.length + k ∧ OwnN wr w.heap.size 121 4 A m c (entsC (es' ++ mkEnts k)) ∧ LentOf w.heap.size es es' wr ∧ Ext w wr
set_option maxRecDepth 100000 in
set_option maxHeartbeats 2000000 in
theorem lentEnts_any (A : Option Addr) (c : Nat) (es : List Ent) (w : World) (hA : EntsIn w A es) (hz : es.length ≤ 1000000000) (hz2 : ∀ e ∈ es, e.bs.length ≤ 1000000000) :
    Calls Tryz.prog 100 #[.slice A es.length c] w (LentEs es w) := by
  have hmk := mk0Ents es.length hz
  have HM0 := Lib.hid (OwnN.made w w.heap.size 121 #[.int .i64 0, .int .i64 0, .int .i64 0, .slice none 0 0] 4 (es.length + 12) (Nat.le_refl _) (by omega))
  have HME := Lib.hid (fun i w hi => markEntry_any i w hi)
  unfold Ent.v mkEnt at HME
  have HIW : Hid (∀ e ∈ es, e.inW w) := Lib.hid (fun e he => by
    obtain ⟨j, hj⟩ := List.getElem?_of_mem he
    obtain ⟨_, _, _, _, _, _, _, h⟩ := hA j e hj
    exact h)
  go_enter Tryz.func100, Tryz.ntmps100
  go_wp2_with fail
  clear hmk
  go_loopw [3, 4] (fun v i wr => LentEsRel es w v i wr) (fun _ i _ => es.length - (intOf i).toNat)
  case atStart => exact ⟨0, 0, _, _, [], Nat.zero_le _, rfl, rfl, rfl, by simpa [entsC] using HM0.out, ⟨rfl, fun j e hj => by simp at hj⟩, (Ext.refl w).alloc _⟩
  case round =>
    obtain ⟨k, m, A2, c2, es2, hk, rfl, rfl, hm, hown, hLO, hE⟩ := hrel
    have HM := Lib.hid hm
    have HO := Lib.hid hown
    have HLO := Lib.hid hLO
    clear hm hown hLO
    by_cases hlt : k < es.length
    · obtain ⟨b, f, e, rfl, he, d0, d1, d2, d3, hin⟩ := (hA.ext hE).at_ hlt
      have HE := Lib.hid hE
      have HEK := Lib.hid he
      have hbz := hz2 e (mem_get he)
      have HLE := Lib.hid (lentEnt_any e wr hin hbz)
      unfold Ent.v at HLE
      clear he hE hin
      go_wp2_with fail
      refine HLE.out.mono ?_
      rintro ev w5 ⟨g, c5, rfl, hc5, hO5, hE5⟩
      have HO5 := Lib.hid (hO5.lower HE.out.sz)
      have HOe := Lib.hid (HO.out.ext hE5)
      have HEe := Lib.hid (HE.out.trans hE5)
      have HLe := Lib.hid (HLO.out.ext hE5)
      clear hO5 hE5 HLE
      unfold Ent.v
      have hrd : Rd ((w5.alloc (.cells #[.int .i64 e.i, .int .i64 e.t, .int .i64 e.k, .slice (some ⟨g, 0, none⟩) e.bs.length c5] 121)).alloc (.cells #[.int .i64 e.i, .int .i64 e.t, .int .i64 e.k, .slice (some ⟨g, 0, none⟩) e.bs.length c5] 121)) (some ⟨w5.heap.size + 1, 0, none⟩) [.int .i64 e.i, .int .i64 e.t, .int .i64 e.k, .slice (some ⟨g, 0, none⟩) e.bs.length c5] := by
        have := rd_lit (w5.alloc (.cells #[.int .i64 e.i, .int .i64 e.t, .int .i64 e.k, .slice (some ⟨g, 0, none⟩) e.bs.length c5] 121)) [.int .i64 e.i, .int .i64 e.t, .int .i64 e.k, .slice (some ⟨g, 0, none⟩) e.bs.length c5] 121
        rw [World.size_alloc] at this
        exact this
      have HRD := Lib.hid hrd
      clear hrd
      go_wp2_with (at_builtin; refine appendEnts _ rfl _ _ rfl w.heap.size _ _ _ es2 rfl (HOe.out.ext (((Ext.refl _).alloc _).alloc _)) _ _ _ [⟨e.i, e.t, e.k, some ⟨g, 0, none⟩, c5, e.bs⟩] rfl rfl HRD.out (by have := HM.out; omega) (by have := HEe.out.sz; simp; omega) ?_; intro A1 c1 m1 w1 hm1 hown1 hfr; have HM1 := Lib.hid hm1; have HOW1 := Lib.hid hown1; have hE1 : Ext w w1 := ownN_fresh (HOe.out.ext (((Ext.refl _).alloc _).alloc _)) ((HEe.out.alloc _).alloc _) hfr; have HE1 := Lib.hid hE1; have HFR := Lib.hid hfr; clear hm1 hfr hown1 hE1)
      go_roundw
      case rel =>
        have hx := HOe.out.ext (((Ext.refl _).alloc (.cells #[.int .i64 e.i, .int .i64 e.t, .int .i64 e.k, .slice (some ⟨g, 0, none⟩) e.bs.length c5] 121)).alloc (.cells #[.int .i64 e.i, .int .i64 e.t, .int .i64 e.k, .slice (some ⟨g, 0, none⟩) e.bs.length c5] 121))
        have hb5 := HO5.out.ext (((Ext.refl _).alloc (.cells #[.int .i64 e.i, .int .i64 e.t, .int .i64 e.k, .slice (some ⟨g, 0, none⟩) e.bs.length c5] 121)).alloc (.cells #[.int .i64 e.i, .int .i64 e.t, .int .i64 e.k, .slice (some ⟨g, 0, none⟩) e.bs.length c5] 121))
        have hl5 := HLe.out.ext (((Ext.refl _).alloc (.cells #[.int .i64 e.i, .int .i64 e.t, .int .i64 e.k, .slice (some ⟨g, 0, none⟩) e.bs.length c5] 121)).alloc (.cells #[.int .i64 e.i, .int .i64 e.t, .int .i64 e.k, .slice (some ⟨g, 0, none⟩) e.bs.length c5] 121))
        exact ⟨k + 1, m1, A1, c1, _, by omega, by go_num, rfl, by rw [HM1.out, HM.out], HOW1.out, (hl5.fr hx HFR.out).snoc HEK.out hc5 (hb5.fr HFR.out (hx.ne hb5)), HE1.out⟩
      case measure => simp [intOf]; omega
    · obtain rfl : k = es.length := by omega
      have hl := HLO.out
      rw [List.take_length] at hl
      have HL2 := Lib.hid hl
      have HE := Lib.hid hE
      clear hl hE HLO
      go_wp2_with fail
      go_loopw [3, 6] (fun v i wr => LentEsRel2 es w v i wr) (fun _ i _ => 12 - (intOf i).toNat)
      case atStart => exact ⟨0, m, A2, c2, es2, by omega, rfl, rfl, HM.out, by simpa [mkEnts] using HO.out, HL2.out, HE.out⟩
      case round =>
        clear HO HL2 HE HM
        obtain ⟨k, m, A2, c2, es2, hk, rfl, rfl, hm, hown, hLO, hE⟩ := hrel
        have HM := Lib.hid hm
        have HO := Lib.hid hown
        have HLO := Lib.hid hLO
        have HE := Lib.hid hE
        clear hm hown hLO hE
        by_cases hlt : k < 12
        · go_wp2_with fail
          refine (HME.out k _ (by omega)).mono ?_
          rintro e w5 ⟨rfl, hE5⟩
          have HOe := Lib.hid (HO.out.ext hE5)
          have HEe := Lib.hid (HE.out.trans hE5)
          have HLe := Lib.hid (HLO.out.ext hE5)
          clear hE5
          have HRD := Lib.hid (rd_lit w5 [.int .i64 (markI 1 k), .int .i64 0, .int .i64 0, .slice none 0 0] 121)
          go_wp2_with (at_builtin; refine appendEnts _ rfl _ _ rfl w.heap.size _ _ _ (es2 ++ mkEnts k) rfl (HOe.out.ext ((Ext.refl _).alloc _)) _ _ _ [mkEnt k] rfl rfl HRD.out (by have := HM.out; omega) (by have := HEe.out.sz; simp; omega) ?_; intro A1 c1 m1 w1 hm1 hown1 hfr; have HM1 := Lib.hid hm1; have HOW1 := Lib.hid hown1; have hE1 : Ext w w1 := ownN_fresh (HOe.out.ext ((Ext.refl _).alloc _)) (HEe.out.alloc _) hfr; have HE1 := Lib.hid hE1; have HFR := Lib.hid hfr; clear hm1 hfr hown1 hE1)
          go_roundw
          case rel => exact ⟨k + 1, m1, A1, c1, es2, by omega, by go_num, rfl, by rw [HM1.out, HM.out]; omega, by rw [mkEnts_succ, ← List.append_assoc]; exact HOW1.out, (HLe.out.ext ((Ext.refl _).alloc _)).fr (HOe.out.ext ((Ext.refl _).alloc _)) HFR.out, HE1.out⟩
          case measure => simp [intOf]; omega
        · obtain rfl : k = 12 := by omega
          obtain ⟨g, rfl, hg, hc1, hc2⟩ := HO.out.some_ (by have := HM.out; omega)
          have HC2 := Lib.hid hc2
          have hc1' : es.length + 12 ≤ c2 := by have := HM.out; omega
          obtain rfl := HM.out
          clear hc2
          go_wp2
          go_ret
          refine ⟨g, c2, es2, rfl, hc1', HC2.out, hg, ⟨ents_of_rd HO.out.rd (fun e he => ?_), HasRow.ownN HO.out⟩, HLO.out, HE.out⟩
          rcases List.mem_append.1 he with he | he
          · exact HLO.out.inW HIW.out e he
          · obtain ⟨j, _, rfl⟩ := List.mem_map.1 he
            exact ⟨Rd.nil _ _, (show okBytes [] from fun x hx => by cases hx), Nat.zero_le _⟩
end Go.Proofs.YtjnllilmimngoaaGreatDoor
