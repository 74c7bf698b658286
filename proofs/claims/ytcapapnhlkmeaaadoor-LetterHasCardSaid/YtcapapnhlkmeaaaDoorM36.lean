/-
  A whole letter is stored; what a letter has in plain; how it is compared.
-/
import Derived.Test.YtcapapnhlkmeaaaDoorM22
namespace Go.Proofs.YtcapapnhlkmeaaaDoor
open Go.RowKit

theorem storeVar_row (T : TypeId) (w : World) (b n : Nat) (cs vs : Array Value) (h : w.heap[b]? = some (.cells cs T)) (hi : (Tryd.prog.info? T).map (·.size) = some n) (hs : cs.size = n) (hv : vs.size = n) (h1 : ∀ v ∈ vs, v.oneCell' = true) :
    ∃ w', (storeVar T ⟨b, 0, none⟩ (.agg vs)).run Tryd.prog w = .ok () w' ∧ w'.heap[b]? = some (.cells vs T) ∧ Fr (isB b) w w' := by
  have hl : vs.toList.length = n := by simpa using hv
  have h2 := run_storeCells_at Tryd.prog b 0 T vs.toList 0 cs w h (by rw [hl]; omega) (fun v hv => h1 v (by simpa using hv))
  have hc : (cs.toList.take (0 + 0) ++ vs.toList ++ cs.toList.drop (0 + 0 + vs.toList.length)).toArray = vs := by
    have hd : cs.toList.drop n = [] := List.drop_of_length_le (by simp [hs])
    rw [hl, Nat.add_zero, Nat.zero_add, hd]
    simp
  rw [hc] at h2
  refine ⟨w.setRow b vs, ?_, setRow_heap w b cs _ _ _ h, ⟨rfl, rfl, rfl, by simp [World.setRow], fun i _ hi => setRow_other w b i _ (fun e => hi e)⟩⟩
  cases hq : Tryd.prog.info? T with
  | none => rw [hq] at hi; cases hi
  | some i =>
    rw [hq] at hi
    have hs : i.size = n := by simpa using hi
    simp only [storeVar, vcells, Sem.run_bind, sizeOf, typeInfo]
    simp [hq, hs, hv, h2]
theorem storeVar_all (w : World) (b : Nat) (cs : Array Value) (l : Let) (h : w.heap[b]? = some (.cells cs 34)) (hs : cs.size = 23) :
    ∃ w', (storeVar 34 ⟨b, 0, none⟩ l.v).run Tryd.prog w = .ok () w' ∧ w'.heap[b]? = some (.cells l.arr 34) ∧ Fr (isB b) w w' :=
  storeVar_row _ w b 23 cs l.arr h infoLet hs l.asize l.one
theorem wpList_store_row {ops : Array Oper} {rest : List Oper} {o : Oper} {a : Act} {w : World} {Q : Exit → Act → World → Prop} (hgd : o.guard = none) (T : TypeId) (x y : Operand) (ho : o.op = .store T x y) (hd : o.dst = none)
    (b n : Nat) (cs vs : Array Value) (hx : a.eval x = .pointer (some ⟨b, 0, none⟩)) (hy : a.eval y = .agg vs) (hg : w.heap[b]? = some (.cells cs T)) (hi : (Tryd.prog.info? T).map (·.size) = some n) (hs : cs.size = n) (hv : vs.size = n) (h1 : ∀ v ∈ vs, v.oneCell' = true)
    (h : ∀ w', w'.heap[b]? = some (.cells vs T) → Fr (isB b) w w' → wpList Tryd.prog ops Q rest a w') : wpList Tryd.prog ops Q (o :: rest) a w := by
  refine wpList_plain hgd fun K hK => ?_
  obtain ⟨w', g1, g2, g3⟩ := storeVar_row T w b n cs vs hg hi hs hv h1
  unfold Oper.wp execOp
  simp only [ho, hx, hy, Instr.storeAt, Instr.sureAddr, Sem.run_bind, Sem.run_pure, Result.andThen_ok, g1]
  have h4 := hK a w' (h w' g2 g3)
  simp [Oper.upon, hd, Act.put, h4]
theorem wpList_store_all {ops : Array Oper} {rest : List Oper} {o : Oper} {a : Act} {w : World} {Q : Exit → Act → World → Prop} (hgd : o.guard = none) (x y : Operand) (ho : o.op = .store 34 x y) (hd : o.dst = none)
    (b : Nat) (l : Let) (cs : Array Value) (hx : a.eval x = .pointer (some ⟨b, 0, none⟩)) (hy : a.eval y = l.v) (hg : w.heap[b]? = some (.cells cs 34)) (hs : cs.size = 23)
    (h : ∀ w', w'.heap[b]? = some (.cells l.arr 34) → Fr (isB b) w w' → wpList Tryd.prog ops Q rest a w') : wpList Tryd.prog ops Q (o :: rest) a w := by
  refine wpList_plain hgd fun K hK => ?_
  obtain ⟨w', h1, h2, h3⟩ := storeVar_all w b cs l hg hs
  unfold Oper.wp execOp
  simp only [ho, hx, hy, Instr.storeAt, Instr.sureAddr, Sem.run_bind, Sem.run_pure, Result.andThen_ok, h1]
  have h4 := hK a w' (h w' h2 h3)
  simp [Oper.upon, hd, Act.put, h4]

def plainArr (l : Let) : Array Value := #[.int .i64 l.index, .int .i64 l.commit, .int .i64 l.piece, .int .i64 l.size, .int .i64 l.last.i, .int .i64 l.last.t, .int .i64 l.last.k, .int .i64 l.prev.i, .int .i64 l.prev.t, .int .i64 l.prev.k, .int .i64 l.slast.i, .int .i64 l.slast.t, .int .i64 l.slast.k, .bool l.yes,
  .int .i64 l.want.length, .int .i64 l.ents.length, .int .i64 l.bs.length, .int .i64 l.mems.length, .int .i64 l.sums.length]
def plainV (l : Let) : Value := .agg (plainArr l)
theorem infoPlain : (Tryd.prog.info? 82).map (·.size) = some 19 := by kernel_rfl
theorem plain_one (l : Let) : ∀ u ∈ (#[.int .i64 l.index, .int .i64 l.commit, .int .i64 l.piece, .int .i64 l.size, .int .i64 l.last.i, .int .i64 l.last.t, .int .i64 l.last.k, .int .i64 l.prev.i, .int .i64 l.prev.t, .int .i64 l.prev.k, .int .i64 l.slast.i, .int .i64 l.slast.t, .int .i64 l.slast.k, .bool l.yes, .int .i64 l.want.length, .int .i64 l.ents.length, .int .i64 l.bs.length, .int .i64 l.mems.length, .int .i64 l.sums.length] : Array Value), u.oneCell' = true := by
  intro u hu
  simp only [List.mem_toArray, List.mem_cons, List.not_mem_nil, or_false] at hu
  rcases hu with rfl | rfl | rfl | rfl | rfl | rfl | rfl | rfl | rfl | rfl | rfl | rfl | rfl | rfl | rfl | rfl | rfl | rfl | rfl <;> rfl
set_option maxRecDepth 100000 in
set_option maxHeartbeats 2000000 in
theorem plainly_any (l : Let) (w : World) : Calls Tryd.prog 25 #[l.v] w fun e w' => e = .returned (plainV l) ∧ Ext w w' := by
  have hone := Lib.hid (plain_one l)
  unfold Let.v
  go_enter Tryd.func25, Tryd.ntmps25
  go_wp2_with (refine wpList_store_row rfl 82 _ _ rfl rfl (w.heap.size + 1) 19 _ #[.int .i64 l.index, .int .i64 l.commit, .int .i64 l.piece, .int .i64 l.size, .int .i64 l.last.i, .int .i64 l.last.t, .int .i64 l.last.k, .int .i64 l.prev.i, .int .i64 l.prev.t, .int .i64 l.prev.k, .int .i64 l.slast.i, .int .i64 l.slast.t, .int .i64 l.slast.k, .bool l.yes, .int .i64 l.want.length, .int .i64 l.ents.length, .int .i64 l.bs.length, .int .i64 l.mems.length, .int .i64 l.sums.length] rfl rfl (heap1 w _ _) infoPlain rfl rfl hone.out ?_; intro w5 hg5 hF5; have HG5 := Lib.hid hg5; have HF5 := Lib.hid hF5; clear hg5 hF5)
  exact bodyPost_ret (v := plainV l) (results_cell_row Tryd.results25 _ w5 (w.heap.size + 1) 82 _ (0, 0) _ rfl HG5.out Tryd.underlying82 rfl (by rw [infoPlain]; rfl)) rfl ⟨rfl, ((Fr.ofExt (isB (w.heap.size + 1)) (((Ext.refl w).alloc _).alloc _)).trans HF5.out (fun _ _ h => h)).toExt (fun i hi => by unfold isB at hi; omega)⟩

def eqI (a b : Id) : Bool := a.i == b.i && (a.t == b.t && a.k == b.k)
def plainEq (a b : Let) : Bool := a.index == b.index && (a.commit == b.commit && (a.piece == b.piece && (a.size == b.size && (eqI a.last b.last && (eqI a.prev b.prev && (eqI a.slast b.slast && (a.yes == b.yes &&
  (((a.want.length : Int) == b.want.length) && (((a.ents.length : Int) == b.ents.length) && (((a.bs.length : Int) == b.bs.length) && (((a.mems.length : Int) == b.mems.length) && ((a.sums.length : Int) == b.sums.length))))))))))))
end Go.Proofs.YtcapapnhlkmeaaaDoor
