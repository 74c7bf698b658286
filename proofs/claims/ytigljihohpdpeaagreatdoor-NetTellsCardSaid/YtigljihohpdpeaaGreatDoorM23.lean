/-
  A whole letter is stored; what a letter has in plain; how it is compared.
  How letters' plain parts are compared.
-/
import Derived.Test.YtigljihohpdpeaaGreatDoorM15
namespace Go.Proofs.YtigljihohpdpeaaGreatDoor
open Go.RowKit

theorem storeVar_row (T : TypeId) (w : World) (b n : Nat) (cs vs : Array Value) (h : w.heap[b]? = some (.cells cs T)) (hi : (Tryz.prog.info? T).map (·.size) = some n) (hs : cs.size = n) (hv : vs.size = n) (h1 : ∀ v ∈ vs, v.oneCell' = true) :
    ∃ w', (storeVar T ⟨b, 0, none⟩ (.agg vs)).run Tryz.prog w = .ok () w' ∧ w'.heap[b]? = some (.cells vs T) ∧ Fr (isB b) w w' := by
  have hl : vs.toList.length = n := by simpa using hv
  have h2 := run_storeCells_at Tryz.prog b 0 T vs.toList 0 cs w h (by rw [hl]; omega) (fun v hv => h1 v (by simpa using hv))
  have hc : (cs.toList.take (0 + 0) ++ vs.toList ++ cs.toList.drop (0 + 0 + vs.toList.length)).toArray = vs := by
    have hd : cs.toList.drop n = [] := List.drop_of_length_le (by simp [hs])
    rw [hl, Nat.add_zero, Nat.zero_add, hd]
    simp
  rw [hc] at h2
  refine ⟨w.setRow b vs, ?_, setRow_heap w b cs _ _ _ h, ⟨rfl, rfl, rfl, by simp [World.setRow], fun i _ hi => setRow_other w b i _ (fun e => hi e)⟩⟩
  cases hq : Tryz.prog.info? T with
  | none => rw [hq] at hi; cases hi
  | some i =>
    rw [hq] at hi
    have hs : i.size = n := by simpa using hi
    simp only [storeVar, vcells, Sem.run_bind, sizeOf, typeInfo]
    simp [hq, hs, hv, h2]
theorem storeVar_all (w : World) (b : Nat) (cs : Array Value) (l : Let) (h : w.heap[b]? = some (.cells cs 44)) (hs : cs.size = 23) :
    ∃ w', (storeVar 44 ⟨b, 0, none⟩ l.v).run Tryz.prog w = .ok () w' ∧ w'.heap[b]? = some (.cells l.arr 44) ∧ Fr (isB b) w w' :=
  storeVar_row _ w b 23 cs l.arr h infoLet hs l.asize l.one
theorem wpList_store_row {ops : Array Oper} {rest : List Oper} {o : Oper} {a : Act} {w : World} {Q : Exit → Act → World → Prop} (hgd : o.guard = none) (T : TypeId) (x y : Operand) (ho : o.op = .store T x y) (hd : o.dst = none)
    (b n : Nat) (cs vs : Array Value) (hx : a.eval x = .pointer (some ⟨b, 0, none⟩)) (hy : a.eval y = .agg vs) (hg : w.heap[b]? = some (.cells cs T)) (hi : (Tryz.prog.info? T).map (·.size) = some n) (hs : cs.size = n) (hv : vs.size = n) (h1 : ∀ v ∈ vs, v.oneCell' = true)
    (h : ∀ w', w'.heap[b]? = some (.cells vs T) → Fr (isB b) w w' → wpList Tryz.prog ops Q rest a w') : wpList Tryz.prog ops Q (o :: rest) a w := by
  refine wpList_plain hgd fun K hK => ?_
  obtain ⟨w', g1, g2, g3⟩ := storeVar_row T w b n cs vs hg hi hs hv h1
  unfold Oper.wp execOp
  simp only [ho, hx, hy, Instr.storeAt, Instr.sureAddr, Sem.run_bind, Sem.run_pure, Result.andThen_ok, g1]
  have h4 := hK a w' (h w' g2 g3)
  simp [Oper.upon, hd, Act.put, h4]
theorem wpList_store_all {ops : Array Oper} {rest : List Oper} {o : Oper} {a : Act} {w : World} {Q : Exit → Act → World → Prop} (hgd : o.guard = none) (x y : Operand) (ho : o.op = .store 44 x y) (hd : o.dst = none)
    (b : Nat) (l : Let) (cs : Array Value) (hx : a.eval x = .pointer (some ⟨b, 0, none⟩)) (hy : a.eval y = l.v) (hg : w.heap[b]? = some (.cells cs 44)) (hs : cs.size = 23)
    (h : ∀ w', w'.heap[b]? = some (.cells l.arr 44) → Fr (isB b) w w' → wpList Tryz.prog ops Q rest a w') : wpList Tryz.prog ops Q (o :: rest) a w := by
  refine wpList_plain hgd fun K hK => ?_
  obtain ⟨w', h1, h2, h3⟩ := storeVar_all w b cs l hg hs
  unfold Oper.wp execOp
  simp only [ho, hx, hy, Instr.storeAt, Instr.sureAddr, Sem.run_bind, Sem.run_pure, Result.andThen_ok, h1]
  have h4 := hK a w' (h w' h2 h3)
  simp [Oper.upon, hd, Act.put, h4]

def plainArr (l : Let) : Array Value := #[.int .i64 l.index, .int .i64 l.commit, .int .i64 l.piece, .int .i64 l.size, .int .i64 l.last.i, .int .i64 l.last.t, .int .i64 l.last.k, .int .i64 l.prev.i, .int .i64 l.prev.t, .int .i64 l.prev.k, .int .i64 l.slast.i, .int .i64 l.slast.t, .int .i64 l.slast.k, .bool l.yes,
  .int .i64 l.want.length, .int .i64 l.ents.length, .int .i64 l.bs.length, .int .i64 l.mems.length, .int .i64 l.sums.length]
def plainV (l : Let) : Value := .agg (plainArr l)
theorem infoPlain : (Tryz.prog.info? 106).map (·.size) = some 19 := by kernel_rfl
theorem plain_one (l : Let) : ∀ u ∈ (#[.int .i64 l.index, .int .i64 l.commit, .int .i64 l.piece, .int .i64 l.size, .int .i64 l.last.i, .int .i64 l.last.t, .int .i64 l.last.k, .int .i64 l.prev.i, .int .i64 l.prev.t, .int .i64 l.prev.k, .int .i64 l.slast.i, .int .i64 l.slast.t, .int .i64 l.slast.k, .bool l.yes, .int .i64 l.want.length, .int .i64 l.ents.length, .int .i64 l.bs.length, .int .i64 l.mems.length, .int .i64 l.sums.length] : Array Value), u.oneCell' = true := by
  intro u hu
  simp only [List.mem_toArray, List.mem_cons, List.not_mem_nil, or_false] at hu
  rcases hu with rfl | rfl | rfl | rfl | rfl | rfl | rfl | rfl | rfl | rfl | rfl | rfl | rfl | rfl | rfl | rfl | rfl | rfl | rfl <;> rfl
set_option maxRecDepth 100000 in
set_option maxHeartbeats 2000000 in
theorem plainly_any (l : Let) (w : World) : Calls Tryz.prog 47 #[l.v] w fun e w' => e = .returned (plainV l) ∧ Ext w w' := by
  have hone := Lib.hid (plain_one l)
  unfold Let.v
  go_enter Tryz.func47, Tryz.ntmps47
  go_wp2_with (refine wpList_store_row rfl 106 _ _ rfl rfl (w.heap.size + 1) 19 _ #[.int .i64 l.index, .int .i64 l.commit, .int .i64 l.piece, .int .i64 l.size, .int .i64 l.last.i, .int .i64 l.last.t, .int .i64 l.last.k, .int .i64 l.prev.i, .int .i64 l.prev.t, .int .i64 l.prev.k, .int .i64 l.slast.i, .int .i64 l.slast.t, .int .i64 l.slast.k, .bool l.yes, .int .i64 l.want.length, .int .i64 l.ents.length, .int .i64 l.bs.length, .int .i64 l.mems.length, .int .i64 l.sums.length] rfl rfl (heap1 w _ _) infoPlain rfl rfl hone.out ?_; intro w5 hg5 hF5; have HG5 := Lib.hid hg5; have HF5 := Lib.hid hF5; clear hg5 hF5)
  exact bodyPost_ret (v := plainV l) (results_cell_row Tryz.results47 _ w5 (w.heap.size + 1) 106 _ (0, 0) _ rfl HG5.out Tryz.underlying106 rfl (by rw [infoPlain]; rfl)) rfl ⟨rfl, ((Fr.ofExt (isB (w.heap.size + 1)) (((Ext.refl w).alloc _).alloc _)).trans HF5.out (fun _ _ h => h)).toExt (fun i hi => by unfold isB at hi; omega)⟩

def eqI (a b : Id) : Bool := a.i == b.i && (a.t == b.t && a.k == b.k)
def plainEq (a b : Let) : Bool := a.index == b.index && (a.commit == b.commit && (a.piece == b.piece && (a.size == b.size && (eqI a.last b.last && (eqI a.prev b.prev && (eqI a.slast b.slast && (a.yes == b.yes &&
  (((a.want.length : Int) == b.want.length) && (((a.ents.length : Int) == b.ents.length) && (((a.bs.length : Int) == b.bs.length) && (((a.mems.length : Int) == b.mems.length) && ((a.sums.length : Int) == b.sums.length))))))))))))
end Go.Proofs.YtigljihohpdpeaaGreatDoor
namespace Go.Proofs.YtigljihohpdpeaaGreatDoor
open Go.RowKit

theorem infoInt : (Tryz.prog.info? 3).map (·.size) = some 1 := by kernel_rfl
theorem partI (x : Int) (cs : Array Value) (k : Nat) (h : cs[k]? = some (.int .i64 x)) (w : World) : (part 3 cs k).run Tryz.prog w = .ok (.int .i64 x) w := by
  simp [part, isAgg, run_underlying Tryz.underlying3, h]
theorem eqIntRun (d : Nat) (x y : Int) (w : World) : (Op.equalIn (d + 1) 3 (.int .i64 x) (.int .i64 y)).run Tryz.prog w = .ok (x == y) w := run_equalIn_int w d _ .i64 .i64 x y Tryz.underlying3
set_option maxHeartbeats 1000000 in
theorem eqRows (d : Nat) (a b c e f a' b' c' e' f' : Int) (w : World) : (Op.equalIn (d + 2) 104 (.agg #[.int .i64 a, .int .i64 b, .int .i64 c, .int .i64 e, .int .i64 f]) (.agg #[.int .i64 a', .int .i64 b', .int .i64 c', .int .i64 e', .int .i64 f'])).run Tryz.prog w = .ok (a == a' && (b == b' && (c == c' && (e == e' && f == f')))) w := by
  obtain ⟨i0, hi, hz0, hz1, hz2⟩ := info_parts Tryz.infoEInts
  have p0 := fun (u v x y z : Int) => partI u #[.int .i64 u, .int .i64 v, .int .i64 x, .int .i64 y, .int .i64 z] 0 rfl
  have p1 := fun (u v x y z : Int) => partI v #[.int .i64 u, .int .i64 v, .int .i64 x, .int .i64 y, .int .i64 z] 1 rfl
  have p2 := fun (u v x y z : Int) => partI x #[.int .i64 u, .int .i64 v, .int .i64 x, .int .i64 y, .int .i64 z] 2 rfl
  have p3 := fun (u v x y z : Int) => partI y #[.int .i64 u, .int .i64 v, .int .i64 x, .int .i64 y, .int .i64 z] 3 rfl
  have p4 := fun (u v x y z : Int) => partI z #[.int .i64 u, .int .i64 v, .int .i64 x, .int .i64 y, .int .i64 z] 4 rfl
  rw [Op.equalIn]
  simp only [Sem.run_bind, run_underlying Tryz.underlying104, Result.andThen_ok, sizeOf, typeInfo, hi, Sem.run_pure, run_program]
  simp [hz1, Std.Legacy.Range.forIn_eq_forIn_range', Std.Legacy.Range.size, List.range', p0, p1, p2, p3, p4, eqIntRun]
  by_cases h1 : a = a' <;> by_cases h2 : b = b' <;> by_cases h3 : c = c' <;> by_cases h4 : e = e' <;> by_cases h5 : f = f' <;> simp [h1, h2, h3, h4, h5]
def eqRow (a b : Let) : Bool := ((a.want.length : Int) == b.want.length) && (((a.ents.length : Int) == b.ents.length) && (((a.bs.length : Int) == b.bs.length) && (((a.mems.length : Int) == b.mems.length) && ((a.sums.length : Int) == b.sums.length))))
theorem eqIdRun (d : Nat) (i t k i' t' k' : Int) (w : World) : (Op.equalIn (d + 2) 35 (.agg #[.int .i64 i, .int .i64 t, .int .i64 k]) (.agg #[.int .i64 i', .int .i64 t', .int .i64 k'])).run Tryz.prog w = .ok (i == i' && (t == t' && k == k')) w := by
  cases h1 : i == i' <;> cases h2 : t == t' <;> cases h3 : k == k'
  all_goals simp [go_sem, h1, h2, h3, Tryz.underlying35, Tryz.underlying3, Tryz.underlying33]
set_option maxHeartbeats 4000000 in
set_option maxRecDepth 100000 in
theorem eqPlain (a b : Let) (w : World) : (binOp .eql 106 (plainV a) (plainV b)).run Tryz.prog w = .ok (.bool (plainEq a b)) w := by
  have hR : ∀ w, (Op.equalIn 9999 104 (.agg #[.int .i64 a.want.length, .int .i64 a.ents.length, .int .i64 a.bs.length, .int .i64 a.mems.length, .int .i64 a.sums.length]) (.agg #[.int .i64 b.want.length, .int .i64 b.ents.length, .int .i64 b.bs.length, .int .i64 b.mems.length, .int .i64 b.sums.length])).run Tryz.prog w = .ok (((a.want.length : Int) == b.want.length) && (((a.ents.length : Int) == b.ents.length) && (((a.bs.length : Int) == b.bs.length) && (((a.mems.length : Int) == b.mems.length) && ((a.sums.length : Int) == b.sums.length))))) w := fun w => eqRows 9997 _ _ _ _ _ _ _ _ _ _ w
  have hL : ∀ w, (Op.equalIn 9999 35 (.agg #[.int .i64 a.last.i, .int .i64 a.last.t, .int .i64 a.last.k]) (.agg #[.int .i64 b.last.i, .int .i64 b.last.t, .int .i64 b.last.k])).run Tryz.prog w = .ok (a.last.i == b.last.i && (a.last.t == b.last.t && a.last.k == b.last.k)) w := fun w => eqIdRun 9997 _ _ _ _ _ _ w
  have hP : ∀ w, (Op.equalIn 9999 35 (.agg #[.int .i64 a.prev.i, .int .i64 a.prev.t, .int .i64 a.prev.k]) (.agg #[.int .i64 b.prev.i, .int .i64 b.prev.t, .int .i64 b.prev.k])).run Tryz.prog w = .ok (a.prev.i == b.prev.i && (a.prev.t == b.prev.t && a.prev.k == b.prev.k)) w := fun w => eqIdRun 9997 _ _ _ _ _ _ w
  have hS : ∀ w, (Op.equalIn 9999 35 (.agg #[.int .i64 a.slast.i, .int .i64 a.slast.t, .int .i64 a.slast.k]) (.agg #[.int .i64 b.slast.i, .int .i64 b.slast.t, .int .i64 b.slast.k])).run Tryz.prog w = .ok (a.slast.i == b.slast.i && (a.slast.t == b.slast.t && a.slast.k == b.slast.k)) w := fun w => eqIdRun 9997 _ _ _ _ _ _ w
  have hq : plainEq a b = (a.index == b.index && (a.commit == b.commit && (a.piece == b.piece && (a.size == b.size && (eqI a.last b.last && (eqI a.prev b.prev && (eqI a.slast b.slast && (a.yes == b.yes && eqRow a b)))))))) := by simp only [plainEq, eqRow]
  rw [hq]
  clear hq
  have e1 : (a.last.i == b.last.i && (a.last.t == b.last.t && a.last.k == b.last.k)) = eqI a.last b.last := rfl
  have e2 : (a.prev.i == b.prev.i && (a.prev.t == b.prev.t && a.prev.k == b.prev.k)) = eqI a.prev b.prev := rfl
  have e3 : (a.slast.i == b.slast.i && (a.slast.t == b.slast.t && a.slast.k == b.slast.k)) = eqI a.slast b.slast := rfl
  have e4 : (((a.want.length : Int) == b.want.length) && (((a.ents.length : Int) == b.ents.length) && (((a.bs.length : Int) == b.bs.length) && (((a.mems.length : Int) == b.mems.length) && ((a.sums.length : Int) == b.sums.length))))) = eqRow a b := rfl
  rw [e1] at hL
  rw [e2] at hP
  rw [e3] at hS
  rw [e4] at hR
  clear e1 e2 e3 e4
  unfold plainV plainArr
  generalize eqI a.last b.last = r5 at *
  generalize eqI a.prev b.prev = r6 at *
  generalize eqI a.slast b.slast = r7 at *
  generalize eqRow a b = r9 at *
  have sI : (Tryz.prog.info? 35).map (·.size) = some 3 := by kernel_rfl
  have sR : (Tryz.prog.info? 104).map (·.size) = some 5 := by kernel_rfl
  have pI : ∀ (cs : Array Value) (k : Nat) (w : World), (part 35 cs k).run Tryz.prog w = .ok (.agg (cs.extract k (k + 3))) w := fun cs k w => by
    cases hq : Tryz.prog.info? 35 with
    | none => rw [hq] at sI; cases sI
    | some i => rw [hq] at sI; have h3 : i.size = 3 := by simpa using sI
                simp [part, isAgg, run_underlying Tryz.underlying35, sizeOf, typeInfo, hq, h3]
  have pR : ∀ (cs : Array Value) (k : Nat) (w : World), (part 104 cs k).run Tryz.prog w = .ok (.agg (cs.extract k (k + 5))) w := fun cs k w => by
    cases hq : Tryz.prog.info? 104 with
    | none => rw [hq] at sR; cases sR
    | some i => rw [hq] at sR; have h3 : i.size = 5 := by simpa using sR
                simp [part, isAgg, run_underlying Tryz.underlying104, sizeOf, typeInfo, hq, h3]
  clear sI sR
  rw [run_eql_struct, run_equalIn_struct w 9999 106 _ _ (by kernel_rfl) (by kernel_rfl)]
  simp only [Program.fieldsOf, Tryz.underlying106, Op.eqFields]
  simp [pI, pR, hL, hP, hS, hR, part, isAgg, run_underlying Tryz.underlying3, run_underlying Tryz.underlying4, run_equalIn_int, run_equalIn_bool', Tryz.underlying3, Tryz.underlying4]
  clear pI pR hL hP hS hR
  by_cases h1 : a.index = b.index
  rotate_left
  · simp [h1]
  by_cases h2 : a.commit = b.commit
  rotate_left
  · simp [h2]
  by_cases h3 : a.piece = b.piece
  rotate_left
  · simp [h3]
  by_cases h4 : a.size = b.size
  rotate_left
  · simp [h4]
  by_cases h5 : a.yes = b.yes
  rotate_left
  · cases r5 <;> cases r6 <;> cases r7 <;> simp [h5]
  simp only [h1, h2, h3, h4, h5]
  cases r5 <;> cases r6 <;> cases r7 <;> cases r9 <;> simp
end Go.Proofs.YtigljihohpdpeaaGreatDoor
