/-
  has: a letter's own parts, and what is wrong of them.
-/
import Derived.Test.YtigljihohpdpeaaGreatDoorM14
namespace Go.Proofs.YtigljihohpdpeaaGreatDoor
open Go.RowKit

theorem setId {w : World} {b : Nat} {cs : Array Value} {t : TypeId} (h : w.heap[b]? = some (.cells cs t)) (k : Nat) (v : Value) (hv : cs[k]? = some v) : w.setCell ⟨b, k, none⟩ v = w := by
  have hc : cs.setIfInBounds k v = cs := by
    apply Array.ext_getElem?
    intro i
    rw [Array.getElem?_setIfInBounds]
    by_cases hk : k = i
    · subst hk
      rw [if_pos rfl]
      have hl := (Array.getElem?_eq_some_iff.1 hv).1
      simp [hl, hv]
      exact (Array.getElem?_eq_some_iff.1 hv).2.symm
    · rw [if_neg hk]
  have hh : (w.setCell ⟨b, k, none⟩ v).heap = w.heap := by
    apply Array.ext_getElem?
    intro i
    by_cases hi : b = i
    · subst hi
      rw [heap_set h, hc, h]
    · exact Below.heap_setCell w _ _ i (fun e => hi (by simpa using e.symm))
  have h2 : w.setCell ⟨b, k, none⟩ v = { w with heap := (w.setCell ⟨b, k, none⟩ v).heap } := rfl
  rw [h2, hh]
theorem Let.get0 (l : Let) : l.arr[0]? = some (.int .i64 l.kind) := rfl
attribute [go_sem] Let.get0
theorem Let.get1 (l : Let) : l.arr[1]? = some (.int .i64 l.frm) := rfl
attribute [go_sem] Let.get1
theorem Let.get2 (l : Let) : l.arr[2]? = some (.int .i64 l.too) := rfl
attribute [go_sem] Let.get2
theorem Let.get3 (l : Let) : l.arr[3]? = some (.int .i64 l.term) := rfl
attribute [go_sem] Let.get3
theorem Let.get4 (l : Let) : l.arr[4]? = some (.int .i64 l.index) := rfl
attribute [go_sem] Let.get4
theorem Let.get5 (l : Let) : l.arr[5]? = some (.int .i64 l.last.i) := rfl
attribute [go_sem] Let.get5
theorem Let.get6 (l : Let) : l.arr[6]? = some (.int .i64 l.last.t) := rfl
attribute [go_sem] Let.get6
theorem Let.get7 (l : Let) : l.arr[7]? = some (.int .i64 l.last.k) := rfl
attribute [go_sem] Let.get7
theorem Let.get8 (l : Let) : l.arr[8]? = some (.int .i64 l.prev.i) := rfl
attribute [go_sem] Let.get8
theorem Let.get9 (l : Let) : l.arr[9]? = some (.int .i64 l.prev.t) := rfl
attribute [go_sem] Let.get9
theorem Let.get10 (l : Let) : l.arr[10]? = some (.int .i64 l.prev.k) := rfl
attribute [go_sem] Let.get10
theorem Let.get11 (l : Let) : l.arr[11]? = some (.slice l.wA l.want.length l.wc) := rfl
attribute [go_sem] Let.get11
theorem Let.get12 (l : Let) : l.arr[12]? = some (.int .i64 l.commit) := rfl
attribute [go_sem] Let.get12
theorem Let.get13 (l : Let) : l.arr[13]? = some (.bool l.yes) := rfl
attribute [go_sem] Let.get13
theorem Let.get14 (l : Let) : l.arr[14]? = some (.slice l.eA l.ents.length l.ec) := rfl
attribute [go_sem] Let.get14
theorem Let.get15 (l : Let) : l.arr[15]? = some (.int .i64 l.slast.i) := rfl
attribute [go_sem] Let.get15
theorem Let.get16 (l : Let) : l.arr[16]? = some (.int .i64 l.slast.t) := rfl
attribute [go_sem] Let.get16
theorem Let.get17 (l : Let) : l.arr[17]? = some (.int .i64 l.slast.k) := rfl
attribute [go_sem] Let.get17
theorem Let.get18 (l : Let) : l.arr[18]? = some (.slice l.mA l.mems.length l.mc) := rfl
attribute [go_sem] Let.get18
theorem Let.get19 (l : Let) : l.arr[19]? = some (.int .i64 l.size) := rfl
attribute [go_sem] Let.get19
theorem Let.get20 (l : Let) : l.arr[20]? = some (.slice l.uA l.sums.length l.uc) := rfl
attribute [go_sem] Let.get20
theorem Let.get21 (l : Let) : l.arr[21]? = some (.int .i64 l.piece) := rfl
attribute [go_sem] Let.get21
theorem Let.get22 (l : Let) : l.arr[22]? = some (.slice l.bA l.bs.length l.bc) := rfl
attribute [go_sem] Let.get22
theorem Let.asize (l : Let) : l.arr.size = 23 := rfl
attribute [go_sem] Let.asize
theorem Let.set0 (l : Let) (x : Int) : l.arr.setIfInBounds 0 (.int .i64 x) = Let.arr { l with kind := x } := by simp [Let.arr]
theorem Let.set1 (l : Let) (x : Int) : l.arr.setIfInBounds 1 (.int .i64 x) = Let.arr { l with frm := x } := by simp [Let.arr]
theorem Let.set2 (l : Let) (x : Int) : l.arr.setIfInBounds 2 (.int .i64 x) = Let.arr { l with too := x } := by simp [Let.arr]
theorem Let.set3 (l : Let) (x : Int) : l.arr.setIfInBounds 3 (.int .i64 x) = Let.arr { l with term := x } := by simp [Let.arr]
theorem Let.set4 (l : Let) (x : Int) : l.arr.setIfInBounds 4 (.int .i64 x) = Let.arr { l with index := x } := by simp [Let.arr]
theorem Let.set5 (l : Let) (x : Int) : l.arr.setIfInBounds 5 (.int .i64 x) = Let.arr { l with last := ⟨x, l.last.t, l.last.k⟩ } := by simp [Let.arr]
theorem Let.set6 (l : Let) (x : Int) : l.arr.setIfInBounds 6 (.int .i64 x) = Let.arr { l with last := ⟨l.last.i, x, l.last.k⟩ } := by simp [Let.arr]
theorem Let.set7 (l : Let) (x : Int) : l.arr.setIfInBounds 7 (.int .i64 x) = Let.arr { l with last := ⟨l.last.i, l.last.t, x⟩ } := by simp [Let.arr]
theorem Let.set8 (l : Let) (x : Int) : l.arr.setIfInBounds 8 (.int .i64 x) = Let.arr { l with prev := ⟨x, l.prev.t, l.prev.k⟩ } := by simp [Let.arr]
theorem Let.set9 (l : Let) (x : Int) : l.arr.setIfInBounds 9 (.int .i64 x) = Let.arr { l with prev := ⟨l.prev.i, x, l.prev.k⟩ } := by simp [Let.arr]
theorem Let.set10 (l : Let) (x : Int) : l.arr.setIfInBounds 10 (.int .i64 x) = Let.arr { l with prev := ⟨l.prev.i, l.prev.t, x⟩ } := by simp [Let.arr]
theorem Let.set12 (l : Let) (x : Int) : l.arr.setIfInBounds 12 (.int .i64 x) = Let.arr { l with commit := x } := by simp [Let.arr]
theorem Let.set13 (l : Let) (x : Bool) : l.arr.setIfInBounds 13 (.bool x) = Let.arr { l with yes := x } := by simp [Let.arr]
theorem Let.set15 (l : Let) (x : Int) : l.arr.setIfInBounds 15 (.int .i64 x) = Let.arr { l with slast := ⟨x, l.slast.t, l.slast.k⟩ } := by simp [Let.arr]
theorem Let.set16 (l : Let) (x : Int) : l.arr.setIfInBounds 16 (.int .i64 x) = Let.arr { l with slast := ⟨l.slast.i, x, l.slast.k⟩ } := by simp [Let.arr]
theorem Let.set17 (l : Let) (x : Int) : l.arr.setIfInBounds 17 (.int .i64 x) = Let.arr { l with slast := ⟨l.slast.i, l.slast.t, x⟩ } := by simp [Let.arr]
theorem Let.set19 (l : Let) (x : Int) : l.arr.setIfInBounds 19 (.int .i64 x) = Let.arr { l with size := x } := by simp [Let.arr]
theorem Let.set21 (l : Let) (x : Int) : l.arr.setIfInBounds 21 (.int .i64 x) = Let.arr { l with piece := x } := by simp [Let.arr]
theorem Let.set11 (l : Let) (x : List Id) (A : Option Addr) (c : Nat) : l.arr.setIfInBounds 11 (.slice A x.length c) = Let.arr { l with wA := A, wc := c, want := x } := by simp [Let.arr]
theorem Let.set14 (l : Let) (x : List Ent) (A : Option Addr) (c : Nat) : l.arr.setIfInBounds 14 (.slice A x.length c) = Let.arr { l with eA := A, ec := c, ents := x } := by simp [Let.arr]
theorem Let.set18 (l : Let) (x : List Int) (A : Option Addr) (c : Nat) : l.arr.setIfInBounds 18 (.slice A x.length c) = Let.arr { l with mA := A, mc := c, mems := x } := by simp [Let.arr]
theorem Let.set20 (l : Let) (x : List Int) (A : Option Addr) (c : Nat) : l.arr.setIfInBounds 20 (.slice A x.length c) = Let.arr { l with uA := A, uc := c, sums := x } := by simp [Let.arr]
theorem Let.set22 (l : Let) (x : List Int) (A : Option Addr) (c : Nat) : l.arr.setIfInBounds 22 (.slice A x.length c) = Let.arr { l with bA := A, bc := c, bs := x } := by simp [Let.arr]
theorem vcells (cs : Array Value) : (Value.agg cs).cells = cs := rfl

def Let.base (l : Let) : Let := ⟨l.kind, l.frm, l.too, l.term, 0, Id.zero, Id.zero, none, 0, [], 0, false, none, 0, [], Id.zero, none, 0, [], 0, none, 0, [], 0, none, 0, []⟩
def Let.o1 (l : Let) : Let := { l.base with last := l.last }
def Let.o2 (l : Let) : Let := { l.base with yes := l.yes }
def Let.o3 (l : Let) : Let := { l.base with prev := l.prev, commit := l.commit, eA := l.eA, ec := l.ec, ents := l.ents }
def Let.o4 (l : Let) : Let := { l.base with index := l.index, yes := l.yes }
def Let.o5 (l : Let) : Let := { l.base with slast := l.slast, mA := l.mA, mc := l.mc, mems := l.mems, size := l.size, uA := l.uA, uc := l.uc, sums := l.sums, piece := l.piece, bA := l.bA, bc := l.bc, bs := l.bs }
def Let.o6 (l : Let) : Let := { l.base with last := l.last, piece := l.piece, yes := l.yes }
def Let.o7a (l : Let) : Let := { l.base with wA := l.wA, wc := l.wc, want := l.want }
def Let.o7b (l : Let) : Let := { l.base with last := l.last, piece := l.piece }
def Let.o8a (l : Let) : Let := { l.base with eA := l.eA, ec := l.ec, ents := l.ents, wA := l.wA, wc := l.wc, want := l.want }
def ok0 (l : Let) : Bool := inR l.frm 1 7 && ((inR l.too 1 7 && (l.too != l.frm)) && inR l.term 0 1099511627776)
def HasPost (d : Nat) (out : Let) (ok : Bool) (w : World) (e : Ending) (w' : World) : Prop := ∃ v, e = .returned (.tuple #[out.v, v]) ∧ Err d w' ok v ∧ Ext w w'
def HasMem (l o : Let) (w : World) (wx : World) : Prop := Ext w wx ∧ wx.heap[w.heap.size]? = some (.cells l.arr 44) ∧ wx.heap[w.heap.size + 1]? = some (.cells o.arr 44)
def HasRel (l : Let) (w : World) (s : Value) (wx : World) : Prop := Err 1 wx (ok0 l) s ∧ HasMem l l.base w wx
theorem wpList_build2 {ops : Array Oper} {rest : List Oper} {o : Oper} {a : Act} {Q : Exit → Act → World → Prop} (w : World) (hgd : o.guard = none) (x y : Operand)
    (ho : o.op = .buildSlice 123 2 #[(0, x), (1, y)]) (v1 v2 : Value) (hx : a.eval x = v1) (hy : a.eval y = v2) (h1 : v1.cells = #[v1]) (h2 : v2.cells = #[v2])
    (h : wpList Tryz.prog ops Q rest (a.put o.dst (.slice (some ⟨w.heap.size, 0, none⟩) 2 2)) (w.alloc (.cells #[v1, v2] 69))) : wpList Tryz.prog ops Q (o :: rest) a w := by
  refine wpList_plain hgd fun K hK => ?_
  subst hx hy
  unfold Oper.wp execOp
  simp only [ho, Sem.run_bind, List.map_toArray, List.map_cons, List.map_nil, build2 _ _ w h1 h2, Result.andThen_ok, Sem.run_pure]
  exact hK _ _ h
theorem infoLet : (Tryz.prog.info? 44).map (·.size) = some 23 := by kernel_rfl
theorem load_let (w : World) (b : Nat) (l : Let) (h : w.heap[b]? = some (.cells l.arr 44)) : (loadVar 44 ⟨b, 0, none⟩).run Tryz.prog w = .ok l.v w :=
  run_loadVar_row w b 44 44 l.arr (0, 0) _ h Tryz.underlying44 rfl (by rw [infoLet]; rfl)
theorem wpList_load_let {ops : Array Oper} {rest : List Oper} {o : Oper} {a : Act} {w : World} {Q : Exit → Act → World → Prop} (hgd : o.guard = none) (x : Operand) (ho : o.op = .load 44 x)
    (b : Nat) (l : Let) (hx : a.eval x = .pointer (some ⟨b, 0, none⟩)) (hg : w.heap[b]? = some (.cells l.arr 44))
    (h : wpList Tryz.prog ops Q rest (a.put o.dst l.v) w) : wpList Tryz.prog ops Q (o :: rest) a w :=
  wpList_load_row hgd 44 x ho b hx 44 l.arr (0, 0) _ hg Tryz.underlying44 rfl (by rw [infoLet]; rfl) h
theorem yields_load_let {o : Oper} {a : Act} {w : World} (x : Operand) (ho : o.op = .load 44 x) (b : Nat) (l : Let) (hx : a.eval x = .pointer (some ⟨b, 0, none⟩)) (hg : w.heap[b]? = some (.cells l.arr 44)) :
    Stab.yields Tryz.prog o a w (fun u w' => Ext w w' ∧ u = l.v) := by
  unfold Stab.yields execOp
  simp only [ho, hx, Instr.loadAt, Instr.sureAddr, Sem.run_bind, Sem.run_pure, Result.andThen_ok, load_let w b l hg, Stab.yieldsUpon_value]
  exact ⟨Ext.refl _, trivial⟩
theorem store_same {P : Program} {w : World} {b : Nat} {cs : Array Value} {t : TypeId} (h : w.heap[b]? = some (.cells cs t)) (h1 : ∀ u ∈ cs, u.oneCell' = true) :
    ∀ (vs : List Value) (i : Nat), (∀ j u, vs[j]? = some u → cs[i + j]? = some u) → (storeCells ⟨b, 0, none⟩ vs i).run P w = .ok () w := by
  intro vs
  induction vs with
  | nil => intro i _; rfl
  | cons v vs ih =>
    intro i hv
    have h0 := hv 0 v rfl
    rw [Nat.add_zero] at h0
    have hc : w.cell? ⟨b, i, none⟩ = some v := by rw [cell_of_heap h]; exact h0
    have ho : v.oneCell' = true := h1 v (Array.mem_of_getElem? h0)
    have hst := fun m => run_store P w ⟨b, i, none⟩ v m ho
    rw [hc, frozen_of_heap h i] at hst
    simp only [Bool.false_eq_true, if_false, setId h i v h0] at hst
    simp only [storeCells, Sem.run_bind, add_lit', Nat.zero_add, hst, Result.andThen_ok]
    exact ih (i + 1) (fun j u hj => by rw [Nat.add_assoc, Nat.add_comm 1 j]; exact hv (j + 1) u hj)
theorem Let.one (l : Let) : ∀ u ∈ l.arr, u.oneCell' = true := by
  intro u hu
  simp only [Let.arr, List.mem_toArray, List.mem_cons, List.not_mem_nil, or_false] at hu
  rcases hu with rfl | rfl | rfl | rfl | rfl | rfl | rfl | rfl | rfl | rfl | rfl | rfl | rfl | rfl | rfl | rfl | rfl | rfl | rfl | rfl | rfl | rfl | rfl <;> rfl
theorem storeVar_let (w : World) (b : Nat) (l : Let) (h : w.heap[b]? = some (.cells l.arr 44)) : (storeVar 44 ⟨b, 0, none⟩ l.v).run Tryz.prog w = .ok () w := by
  have h2 := store_same (P := Tryz.prog) h l.one l.arr.toList 0 (fun j u hj => by simpa using hj)
  have hi := infoLet
  cases hq : Tryz.prog.info? 44 with
  | none => rw [hq] at hi; cases hi
  | some i =>
    rw [hq] at hi
    have hs : i.size = 23 := by simpa using hi
    simp only [storeVar, Let.v, vcells, Sem.run_bind, sizeOf, typeInfo]
    simp [hq, hs, Let.asize, h2]
theorem wpList_store_let {ops : Array Oper} {rest : List Oper} {o : Oper} {a : Act} {w : World} {Q : Exit → Act → World → Prop} (hgd : o.guard = none) (x y : Operand) (ho : o.op = .store 44 x y) (hd : o.dst = none)
    (b : Nat) (l : Let) (hx : a.eval x = .pointer (some ⟨b, 0, none⟩)) (hy : a.eval y = l.v) (hg : w.heap[b]? = some (.cells l.arr 44))
    (h : wpList Tryz.prog ops Q rest a w) : wpList Tryz.prog ops Q (o :: rest) a w := by
  refine wpList_plain hgd fun K hK => ?_
  unfold Oper.wp execOp
  simp only [ho, hx, hy, Instr.storeAt, Instr.sureAddr, Sem.run_bind, Sem.run_pure, Result.andThen_ok, storeVar_let w b l hg]
  have h3 := hK a w h
  simp [Oper.upon, hd, Act.put, h3]

def Let.o5a (l : Let) : Let := { l.base with slast := l.slast, mA := l.mA, mc := l.mc, mems := l.mems, size := l.size, uA := l.uA, uc := l.uc, sums := l.sums }
def Let.o5b (l : Let) : Let := { l.o5a with piece := l.piece }
def Let.o8c (l : Let) : Let := { l.base with eA := l.eA, ec := l.ec, ents := l.ents }
def Let.o3a (l : Let) : Let := { l.base with prev := l.prev }
def Let.o3b (l : Let) : Let := { l.o3a with commit := l.commit }
def Let.o4i (l : Let) : Let := { l.base with index := l.index }
theorem Bad.keep {d : Nat} {w w' : World} {v : Value} (h : Bad d w v) (hk : ∀ b u, w.cell? ⟨b, 0, none⟩ = some u → w'.cell? ⟨b, 0, none⟩ = some u) : Bad d w' v := by
  induction d generalizing v with
  | zero => exact h
  | succ d ih =>
    rcases h with h | ⟨j, a, n, c, v0, h1, h2, h3, h4, h5⟩
    · exact .inl (ih h)
    · exact .inr ⟨j, a, n, c, v0, h1, hk _ _ h2, h3, hk _ _ h4, ih h5⟩
theorem Err.set {d : Nat} {w : World} {ok : Bool} {v u : Value} {b k : Nat} (hk : k ≠ 0) (h : Err d w ok v) : Err d (w.setCell ⟨b, k, none⟩ u) ok v := by
  cases ok
  · refine Bad.keep (d := d) h fun b' u' hc => ?_
    rw [World.cell?_setCell_other]
    · exact hc
    · simp [hk]
  · exact h
theorem results_has (tmps : Array Value) (w : World) (b : Nat) (l : Let) (e : Value) (h2 : tmps.getD 2 undef = .pointer (some ⟨b, 0, none⟩)) (h3 : tmps.getD 3 undef = e) (hg : w.heap[b]? = some (.cells l.arr 44)) :
    (results Tryz.f44 tmps).run Tryz.prog w = .ok (.tuple #[l.v, e]) w := by
  have h2' : tmps[2]?.getD undef = .pointer (some ⟨b, 0, none⟩) := by simpa using h2
  have h3' : tmps[3]?.getD undef = e := by simpa using h3
  simp [results, Tryz.results44, h2', h3', asAddr, load_let w b l hg]
def rowOk (l : Let) : Bool := decide ((l.ents.length : Int) ≤ 8) && (followsN l.prev l.ents == 0 && decide ((lastId Id.zero l.ents).t ≤ l.term))
theorem carried_v (l : Let) (w : World) (hin : l.inW w) : Calls Tryz.prog 62 #[l.v] w (ErrPost 2 (carriedOk l) w) := carried_any l w hin
end Go.Proofs.YtigljihohpdpeaaGreatDoor
