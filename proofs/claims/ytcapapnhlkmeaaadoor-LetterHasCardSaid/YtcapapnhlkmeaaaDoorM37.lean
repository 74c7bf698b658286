/-
  How letters' plain parts are compared.
-/
import Derived.Test.YtcapapnhlkmeaaaDoorM36
namespace Go.Proofs.YtcapapnhlkmeaaaDoor
open Go.RowKit

theorem infoInt : (Tryd.prog.info? 3).map (·.size) = some 1 := by kernel_rfl
theorem partI (x : Int) (cs : Array Value) (k : Nat) (h : cs[k]? = some (.int .i64 x)) (w : World) : (part 3 cs k).run Tryd.prog w = .ok (.int .i64 x) w := by
  simp [part, isAgg, run_underlying Tryd.underlying3, h]
theorem eqIntRun (d : Nat) (x y : Int) (w : World) : (Op.equalIn (d + 1) 3 (.int .i64 x) (.int .i64 y)).run Tryd.prog w = .ok (x == y) w := run_equalIn_int w d _ .i64 .i64 x y Tryd.underlying3
set_option maxHeartbeats 1000000 in
theorem eqRows (d : Nat) (a b c e f a' b' c' e' f' : Int) (w : World) : (Op.equalIn (d + 2) 80 (.agg #[.int .i64 a, .int .i64 b, .int .i64 c, .int .i64 e, .int .i64 f]) (.agg #[.int .i64 a', .int .i64 b', .int .i64 c', .int .i64 e', .int .i64 f'])).run Tryd.prog w = .ok (a == a' && (b == b' && (c == c' && (e == e' && f == f')))) w := by
  obtain ⟨i0, hi, hz0, hz1, hz2⟩ := info_parts Tryd.infoEInts
  have p0 := fun (u v x y z : Int) => partI u #[.int .i64 u, .int .i64 v, .int .i64 x, .int .i64 y, .int .i64 z] 0 rfl
  have p1 := fun (u v x y z : Int) => partI v #[.int .i64 u, .int .i64 v, .int .i64 x, .int .i64 y, .int .i64 z] 1 rfl
  have p2 := fun (u v x y z : Int) => partI x #[.int .i64 u, .int .i64 v, .int .i64 x, .int .i64 y, .int .i64 z] 2 rfl
  have p3 := fun (u v x y z : Int) => partI y #[.int .i64 u, .int .i64 v, .int .i64 x, .int .i64 y, .int .i64 z] 3 rfl
  have p4 := fun (u v x y z : Int) => partI z #[.int .i64 u, .int .i64 v, .int .i64 x, .int .i64 y, .int .i64 z] 4 rfl
  rw [Op.equalIn]
  simp only [Sem.run_bind, run_underlying Tryd.underlying80, Result.andThen_ok, sizeOf, typeInfo, hi, Sem.run_pure, run_program]
  simp [hz1, Std.Legacy.Range.forIn_eq_forIn_range', Std.Legacy.Range.size, List.range', p0, p1, p2, p3, p4, eqIntRun]
  by_cases h1 : a = a' <;> by_cases h2 : b = b' <;> by_cases h3 : c = c' <;> by_cases h4 : e = e' <;> by_cases h5 : f = f' <;> simp [h1, h2, h3, h4, h5]
def eqRow (a b : Let) : Bool := ((a.want.length : Int) == b.want.length) && (((a.ents.length : Int) == b.ents.length) && (((a.bs.length : Int) == b.bs.length) && (((a.mems.length : Int) == b.mems.length) && ((a.sums.length : Int) == b.sums.length))))
theorem eqIdRun (d : Nat) (i t k i' t' k' : Int) (w : World) : (Op.equalIn (d + 2) 25 (.agg #[.int .i64 i, .int .i64 t, .int .i64 k]) (.agg #[.int .i64 i', .int .i64 t', .int .i64 k'])).run Tryd.prog w = .ok (i == i' && (t == t' && k == k')) w := by
  cases h1 : i == i' <;> cases h2 : t == t' <;> cases h3 : k == k'
  all_goals simp [go_sem, h1, h2, h3, Tryd.underlying25, Tryd.underlying3, Tryd.underlying23]
set_option maxHeartbeats 4000000 in
set_option maxRecDepth 100000 in
theorem eqPlain (a b : Let) (w : World) : (binOp .eql 82 (plainV a) (plainV b)).run Tryd.prog w = .ok (.bool (plainEq a b)) w := by
  have hR : ∀ w, (Op.equalIn 9999 80 (.agg #[.int .i64 a.want.length, .int .i64 a.ents.length, .int .i64 a.bs.length, .int .i64 a.mems.length, .int .i64 a.sums.length]) (.agg #[.int .i64 b.want.length, .int .i64 b.ents.length, .int .i64 b.bs.length, .int .i64 b.mems.length, .int .i64 b.sums.length])).run Tryd.prog w = .ok (((a.want.length : Int) == b.want.length) && (((a.ents.length : Int) == b.ents.length) && (((a.bs.length : Int) == b.bs.length) && (((a.mems.length : Int) == b.mems.length) && ((a.sums.length : Int) == b.sums.length))))) w := fun w => eqRows 9997 _ _ _ _ _ _ _ _ _ _ w
  have hL : ∀ w, (Op.equalIn 9999 25 (.agg #[.int .i64 a.last.i, .int .i64 a.last.t, .int .i64 a.last.k]) (.agg #[.int .i64 b.last.i, .int .i64 b.last.t, .int .i64 b.last.k])).run Tryd.prog w = .ok (a.last.i == b.last.i && (a.last.t == b.last.t && a.last.k == b.last.k)) w := fun w => eqIdRun 9997 _ _ _ _ _ _ w
  have hP : ∀ w, (Op.equalIn 9999 25 (.agg #[.int .i64 a.prev.i, .int .i64 a.prev.t, .int .i64 a.prev.k]) (.agg #[.int .i64 b.prev.i, .int .i64 b.prev.t, .int .i64 b.prev.k])).run Tryd.prog w = .ok (a.prev.i == b.prev.i && (a.prev.t == b.prev.t && a.prev.k == b.prev.k)) w := fun w => eqIdRun 9997 _ _ _ _ _ _ w
  have hS : ∀ w, (Op.equalIn 9999 25 (.agg #[.int .i64 a.slast.i, .int .i64 a.slast.t, .int .i64 a.slast.k]) (.agg #[.int .i64 b.slast.i, .int .i64 b.slast.t, .int .i64 b.slast.k])).run Tryd.prog w = .ok (a.slast.i == b.slast.i && (a.slast.t == b.slast.t && a.slast.k == b.slast.k)) w := fun w => eqIdRun 9997 _ _ _ _ _ _ w
  have hq : plainEq a b = (a.index == b.index && (a.commit == b.commit && (a.piece == b.piece && (a.size == b.size && (eqI a.last b.last && (eqI a.prev b.prev && (eqI a.slast b.slast && (a.yes == b.yes && eqRow a b)))))))) := by simp only [plainEq, eqRow]
  rw [hq]
  clear hq
  have e1 : (a.last.i == b.last.i && (a.last.t == b.last.t && a.last.k == b.last.k)) = eqI a.last b.last := rfl
  have e2 : (a.prev.i == b.prev.i && (a.prev.t == b.prev.t && a.prev.k == b.prev.k)) = eqI a.prev b.prev := rfl
  have e3 : (a.slast.i == b.slast.i && (a.slast.t == b.slast.t && a.slast.k == b.slast.k)) = eqI a.slast b.slast := rfl
  have e4 : (((a.want.length : Int) == b.want.length) && (((a.ents.length : Int) == b.ents.length) && (((a.bs.length : Int) == b.bs.length) && (((a.mems.length : Int) == b.mems.length) && ((a.sums.length : Int) == b.sums.length))))) = eqRow a b := rfl
  rw [e1] at hL
  rw [e2] at hP
  rw [e3] at hS
  rw [e4] at hR
  clear e1 e2 e3 e4
  unfold plainV plainArr
  generalize eqI a.last b.last = r5 at *
  generalize eqI a.prev b.prev = r6 at *
  generalize eqI a.slast b.slast = r7 at *
  generalize eqRow a b = r9 at *
  have sI : (Tryd.prog.info? 25).map (·.size) = some 3 := by kernel_rfl
  have sR : (Tryd.prog.info? 80).map (·.size) = some 5 := by kernel_rfl
  have pI : ∀ (cs : Array Value) (k : Nat) (w : World), (part 25 cs k).run Tryd.prog w = .ok (.agg (cs.extract k (k + 3))) w := fun cs k w => by
    cases hq : Tryd.prog.info? 25 with
    | none => rw [hq] at sI; cases sI
    | some i => rw [hq] at sI; have h3 : i.size = 3 := by simpa using sI
                simp [part, isAgg, run_underlying Tryd.underlying25, sizeOf, typeInfo, hq, h3]
  have pR : ∀ (cs : Array Value) (k : Nat) (w : World), (part 80 cs k).run Tryd.prog w = .ok (.agg (cs.extract k (k + 5))) w := fun cs k w => by
    cases hq : Tryd.prog.info? 80 with
    | none => rw [hq] at sR; cases sR
    | some i => rw [hq] at sR; have h3 : i.size = 5 := by simpa using sR
                simp [part, isAgg, run_underlying Tryd.underlying80, sizeOf, typeInfo, hq, h3]
  clear sI sR
  rw [run_eql_struct, run_equalIn_struct w 9999 82 _ _ (by kernel_rfl) (by kernel_rfl)]
  simp only [Program.fieldsOf, Tryd.underlying82, Op.eqFields]
  simp [pI, pR, hL, hP, hS, hR, part, isAgg, run_underlying Tryd.underlying3, run_underlying Tryd.underlying4, run_equalIn_int, run_equalIn_bool', Tryd.underlying3, Tryd.underlying4]
  clear pI pR hL hP hS hR
  by_cases h1 : a.index = b.index
  rotate_left
  · simp [h1]
  by_cases h2 : a.commit = b.commit
  rotate_left
  · simp [h2]
  by_cases h3 : a.piece = b.piece
  rotate_left
  · simp [h3]
  by_cases h4 : a.size = b.size
  rotate_left
  · simp [h4]
  by_cases h5 : a.yes = b.yes
  rotate_left
  · cases r5 <;> cases r6 <;> cases r7 <;> simp [h5]
  simp only [h1, h2, h3, h4, h5]
  cases r5 <;> cases r6 <;> cases r7 <;> cases r9 <;> simp
end Go.Proofs.YtcapapnhlkmeaaaDoor
