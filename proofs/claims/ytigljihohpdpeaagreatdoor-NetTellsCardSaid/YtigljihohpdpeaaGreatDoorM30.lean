/-
  The argument opened: a letter.
  The argument opened: a whole letter.
  The argument opened: a row of deeds.
  great: what is gone through is small.
-/
import Derived.Test.YtigljihohpdpeaaGreatDoorM15
import Derived.SizedLaws
import Derived.ProofKit
import Derived.Deep.Slices
import Derived.Test.YtigljihohpdpeaaGreatDoorM27
import Derived.Test.YtigljihohpdpeaaGreatDoorM29
namespace Go.Proofs.YtigljihohpdpeaaGreatDoor
open Go.ChangeShapes Go.WideShapes Go.ChangeAt Go.RowKit Go.Deep

theorem weightsAll_mem {H : Type} {P : Program} {e : TypeId} {l : List (DataW H)} {i : Nat} {d : DataW H} (h : l[i]? = some d) : ∀ n ∈ d.weights P e, n ∈ DataW.weightsAll P e l := by
  induction l generalizing i with
  | nil => simp at h
  | cons q r ih =>
    intro n hn
    simp only [DataW.weightsAll, List.mem_append]
    cases i with
    | zero => simp at h; subst h; exact .inl hn
    | succ i => exact .inr (ih (by simpa using h) n hn)
theorem wsub {H : Type} {P : Program} {t u : TypeId} {fs : Array Field} {parts : List (DataW H)} {d : DataW H} {j : Nat} (hw : ∀ n ∈ (DataW.agg parts).weights P t, n ≤ reachBytes) (ht : P.underlying t = some (.struct fs))
    (hf : (fs.toList.map (·.type))[j]? = some u) (hd : parts[j]? = some d) : ∀ n ∈ d.weights P u, n ≤ reachBytes := fun n hn =>
  hw n (by simp only [DataW.weights, ht]; exact DataW.weights_mem_each hf hd n hn)

section
variable {H : Type} {enc : TypeId × Value → H} {w : World}
theorem open_row3 {t e : TypeId} {k : IntKind} {fuel : Nat} {cs : List Value} {x : DataW H × List MemPlace} (ht : Tryz.prog.underlying t = some (.slice e)) (he : Tryz.prog.underlying e = some (.int k)) (hc : Tryz.prog.cellsOf e = 1) (h1 : 1 ≤ Tryz.prog.bytesOf e)
    (h : DataW.trod enc Tryz.prog w 0 (fun _ => true) true fuel t cs = some x) (hw : ∀ n ∈ x.1.weights Tryz.prog t, n ≤ reachBytes) :
    ∃ (A : Option Addr) (c : Nat) (zs : List Int), cs = [.slice A zs.length c] ∧ Rd w A (zs.map (.int k)) ∧ zs.length ≤ 140737488355328 ∧ ∀ n ∈ zs, (Lit.int k n).wf = true := by
  rcases open_ints ht he hc h with ⟨rfl, rfl⟩ | ⟨a, len, cap, zs, rfl, _, hl, hm, hz, rfl, hcell, hwf⟩
  · exact ⟨none, 0, [], rfl, fun j u hj => by simp at hj, Nat.zero_le _, fun n hn => by cases hn⟩
  · simp at hz
    have hlen : (zs.take len).length = len := by simp; omega
    refine ⟨some a, cap, zs.take len, by rw [hlen], fun j u hj => ⟨a, rfl, ?_⟩, ?_, fun n hn => hwf n (List.mem_of_mem_take hn)⟩
    · rw [List.getElem?_map] at hj
      obtain ⟨z, h2, rfl⟩ := Option.map_eq_some_iff.1 hj
      have hjl : j < len := by have := (List.getElem?_eq_some_iff.1 h2).1; omega
      rw [List.getElem?_take_of_lt hjl] at h2
      have := hcell j (by have := (List.getElem?_eq_some_iff.1 h2).1; omega)
      rw [this, List.getD, h2]; rfl
    · have h3 := hw (((lits (H := H) k (zs.take len)).length + (lits (H := H) k (zs.drop len)).length) * Tryz.prog.bytesOf e) (by simp [DataW.weights, ht])
      have hl2 : (lits (H := H) k (zs.take len)).length = (zs.take len).length := by simp [lits]
      have h4 := Nat.le_mul_of_pos_right ((lits (H := H) k (zs.take len)).length + (lits (H := H) k (zs.drop len)).length) h1
      have := reachBytes_lt
      omega
def Id.cells (p : Id) : List Value := [.int .i64 p.i, .int .i64 p.t, .int .i64 p.k]
def Ent.cells (e : Ent) : List Value := [.int .i64 e.i, .int .i64 e.t, .int .i64 e.k, .slice e.bA e.bs.length e.bc]
theorem c3 : Tryz.prog.cellsOf 3 = 1 := by kernel_rfl
theorem c4 : Tryz.prog.cellsOf 4 = 1 := by kernel_rfl
theorem c5 : Tryz.prog.cellsOf 5 = 1 := by kernel_rfl
theorem c22 : Tryz.prog.cellsOf 32 = 1 := by kernel_rfl
theorem c23 : Tryz.prog.cellsOf 33 = 1 := by kernel_rfl
theorem c25 : Tryz.prog.cellsOf 35 = 3 := by kernel_rfl
theorem c26 : Tryz.prog.cellsOf 36 = 1 := by kernel_rfl
theorem c27 : Tryz.prog.cellsOf 37 = 1 := by kernel_rfl
theorem c28 : Tryz.prog.cellsOf 38 = 1 := by kernel_rfl
theorem c29 : Tryz.prog.cellsOf 39 = 1 := by kernel_rfl
theorem c31 : Tryz.prog.cellsOf 41 = 6 := by kernel_rfl
theorem c32 : Tryz.prog.cellsOf 42 = 1 := by kernel_rfl
theorem c34 : Tryz.prog.cellsOf 44 = 23 := by kernel_rfl
theorem c71 : Tryz.prog.cellsOf 88 = 4 := by kernel_rfl
theorem c135 : Tryz.prog.cellsOf 91 = 1 := by kernel_rfl
set_option maxRecDepth 100000 in
theorem open_id {fuel : Nat} {cs : List Value} {x : DataW H × List MemPlace} (h : DataW.trod enc Tryz.prog w 0 (fun _ => true) true fuel 35 cs = some x) : ∃ p : Id, cs = p.cells := by
  obtain ⟨xs, n, hk, hxy, hlen, hxl, hf⟩ := DataW.trod_struct Tryz.underlying35 h
  rw [c25] at hlen
  subst hxy
  match xs, hxl, cs, hlen with
  | [y0, y1, y2], _, [v0, v1, v2], _ =>
    have g0 := hf 0 _ rfl
    have g1 := hf 1 _ rfl
    have g2 := hf 2 _ rfl
    simp [c3, c23] at g0 g1 g2
    obtain ⟨z0, e0, _⟩ := DataW.trod_int Tryz.underlying3 g0
    obtain ⟨z1, e1, _⟩ := DataW.trod_int Tryz.underlying3 g1
    obtain ⟨z2, e2, _⟩ := DataW.trod_int Tryz.underlying33 g2
    simp at e0 e1 e2
    subst e0 e1 e2
    exact ⟨⟨z0, z1, z2⟩, rfl⟩
theorem okB {zs : List Int} (h : ∀ n ∈ zs, (Lit.int .u8 n).wf = true) : okBytes zs := fun x hx => by
  have := h x hx
  have h0 : IntKind.u8.min = 0 := by decide
  have h1 : IntKind.u8.max = 255 := by decide
  simp only [Lit.wf, h0, h1, Bool.and_eq_true, decide_eq_true_eq] at this
  exact this
set_option maxRecDepth 100000 in
theorem open_ent {fuel : Nat} {cs : List Value} {x : DataW H × List MemPlace} (h : DataW.trod enc Tryz.prog w 0 (fun _ => true) true fuel 88 cs = some x) (hw : ∀ n ∈ x.1.weights Tryz.prog 88, n ≤ reachBytes) : ∃ e : Ent, cs = e.cells ∧ e.inW w ∧ e.bs.length ≤ 140737488355328 := by
  obtain ⟨xs, n, hk, hxy, hlen, hxl, hf⟩ := DataW.trod_struct Tryz.underlying88 h
  rw [c71] at hlen
  subst hxy
  match xs, hxl, cs, hlen with
  | [y0, y1, y2, y3], _, [v0, v1, v2, v3], _ =>
    have g0 := hf 0 _ rfl
    have g1 := hf 1 _ rfl
    have g2 := hf 2 _ rfl
    have g3 := hf 3 _ rfl
    simp [c3, c23, c32] at g0 g1 g2 g3
    obtain ⟨z0, e0, _⟩ := DataW.trod_int Tryz.underlying3 g0
    obtain ⟨z1, e1, _⟩ := DataW.trod_int Tryz.underlying3 g1
    obtain ⟨z2, e2, _⟩ := DataW.trod_int Tryz.underlying33 g2
    obtain ⟨bA, bc, bs, e3, r3, b3, f3⟩ := open_row3 Tryz.underlying42 Tryz.underlying5 c5 (by decide +kernel) g3 (wsub hw Tryz.underlying88 (j := 3) rfl rfl)
    simp at e0 e1 e2 e3
    subst e0 e1 e2 e3
    exact ⟨⟨z0, z1, z2, bA, bc, bs⟩, rfl, ⟨r3, okB f3, Nat.le_trans b3 (by unfold maxLen; omega)⟩, b3⟩

set_option maxRecDepth 100000 in
theorem open_ids {fuel : Nat} {cs : List Value} {x : DataW H × List MemPlace} (h : DataW.trod enc Tryz.prog w 0 (fun _ => true) true fuel 36 cs = some x) (hw : ∀ n ∈ x.1.weights Tryz.prog 36, n ≤ reachBytes) :
    ∃ A c ps, cs = [.slice A (ps : List Id).length c] ∧ IdsIn w A ps ∧ ps.length ≤ 140737488355328 := by
  rcases open_slice Tryz.underlying36 h with ⟨rfl, rfl⟩ | ⟨a, len, cap, m, n, D, Pl, rfl, _, hl, hm, hmm, rfl, hx⟩
  · exact ⟨none, 0, [], rfl, fun j p hj => by simp at hj, Nat.zero_le _⟩
  simp at hmm
  have hl2 : len ≤ 140737488355328 := by
    have h3 := hw ((((List.range len).map D).length + ((List.range (m - len)).map fun j => D (len + j)).length) * Tryz.prog.bytesOf 35) (by simp [DataW.weights, Tryz.underlying36])
    have h1 : 1 ≤ Tryz.prog.bytesOf 35 := by decide +kernel
    have h4 := Nat.le_mul_of_pos_right (((List.range len).map D).length + ((List.range (m - len)).map fun j => D (len + j)).length) h1
    have := reachBytes_lt
    simp at h3 h4
    omega
  rw [c25] at hx
  have : Inhabited Id := ⟨Id.zero⟩
  obtain ⟨q, hq⟩ := choose_lt (α := Id) (n := len) (p := fun i p => w.cells? 0 (a.add (i * 3)) 3 = some p.cells) (fun i hi => by
    obtain ⟨cs', h1, h2⟩ := hx i (by omega)
    obtain ⟨p, rfl⟩ := open_id h2
    exact ⟨p, h1⟩)
  refine ⟨some a, cap, (List.range len).map q, by simp, fun j p hj => ?_, by simp; omega⟩
  have hj' : j < len := by have := (List.getElem?_eq_some_iff.1 hj).1; simpa using this
  have h1 := hq j hj'
  obtain ⟨_, _, hcell⟩ := World.cells?_some h1
  have hp : p = q j := by simp [hj'] at hj; exact hj.symm
  subst hp
  obtain ⟨b, f, spot⟩ := a
  have hs0 : spot = none := by
    have h1' := hq 0 (by omega)
    obtain ⟨_, _, hcell0⟩ := World.cells?_some h1'
    have := hcell0 0 (by omega)
    simp [Id.cells] at this
    simpa [Addr.add] using World.cell?_spot this
  subst hs0
  have e : ∀ o u, (q j).cells[o]? = some u → w.cell? ⟨b, f + j * 3 + o, none⟩ = some u := fun o u ho => by
    have ho3 : o < 3 := by have := (List.getElem?_eq_some_iff.1 ho).1; simpa [Id.cells] using this
    have := hcell o ho3
    rw [add_plain, add_plain, ho] at this
    exact this
  exact ⟨b, f, rfl, e 0 _ rfl, e 1 _ rfl, e 2 _ rfl⟩
set_option maxRecDepth 100000 in
theorem open_ents {fuel : Nat} {cs : List Value} {x : DataW H × List MemPlace} (h : DataW.trod enc Tryz.prog w 0 (fun _ => true) true fuel 37 cs = some x) (hw : ∀ n ∈ x.1.weights Tryz.prog 37, n ≤ reachBytes) :
    ∃ A c ps, cs = [.slice A (ps : List Ent).length c] ∧ EntsIn w A ps ∧ ps.length ≤ 140737488355328 ∧ ∀ x ∈ ps, x.bs.length ≤ 140737488355328 := by
  rcases open_slice Tryz.underlying37 h with ⟨rfl, rfl⟩ | ⟨a, len, cap, m, n, D, Pl, rfl, _, hl, hm, hmm, rfl, hx⟩
  · exact ⟨none, 0, [], rfl, fun j p hj => by simp at hj, Nat.zero_le _, fun x hx => by cases hx⟩
  simp at hmm
  have hwl : ∀ n ∈ DataW.weightsAll Tryz.prog 88 ((List.range len).map D), n ≤ reachBytes := fun n hn => hw n (by simp [DataW.weights, Tryz.underlying37, hn])
  have hl2 : len ≤ 140737488355328 := by
    have h3 := hw ((((List.range len).map D).length + ((List.range (m - len)).map fun j => D (len + j)).length) * Tryz.prog.bytesOf 88) (by simp [DataW.weights, Tryz.underlying37])
    have h1 : 1 ≤ Tryz.prog.bytesOf 88 := by decide +kernel
    have h4 := Nat.le_mul_of_pos_right (((List.range len).map D).length + ((List.range (m - len)).map fun j => D (len + j)).length) h1
    have := reachBytes_lt
    simp at h3 h4
    omega
  rw [c71] at hx
  have : Inhabited Ent := ⟨⟨0, 0, 0, none, 0, []⟩⟩
  obtain ⟨q, hq⟩ := choose_lt (α := Ent) (n := len) (p := fun i p => w.cells? 0 (a.add (i * 4)) 4 = some p.cells ∧ p.inW w ∧ p.bs.length ≤ 140737488355328) (fun i hi => by
    obtain ⟨cs', h1, h2⟩ := hx i (by omega)
    obtain ⟨p, rfl, h3⟩ := open_ent h2 (fun n hn => hwl n (weightsAll_mem (l := (List.range len).map D) (i := i) (d := D i) (by simp [hi]) n hn))
    exact ⟨p, h1, h3⟩)
  refine ⟨some a, cap, (List.range len).map q, by simp, fun j p hj => ?_, by simp; omega, fun x hx => by
    obtain ⟨j, hj, rfl⟩ := List.mem_map.1 hx
    exact (hq j (by simpa using hj)).2.2⟩
  have hj' : j < len := by have := (List.getElem?_eq_some_iff.1 hj).1; simpa using this
  obtain ⟨h1, h5, _⟩ := hq j hj'
  obtain ⟨_, _, hcell⟩ := World.cells?_some h1
  have hp : p = q j := by simp [hj'] at hj; exact hj.symm
  subst hp
  obtain ⟨b, f, spot⟩ := a
  have hs0 : spot = none := by
    obtain ⟨h1', _, _⟩ := hq 0 (by omega)
    obtain ⟨_, _, hcell0⟩ := World.cells?_some h1'
    have := hcell0 0 (by omega)
    simp [Ent.cells] at this
    simpa [Addr.add] using World.cell?_spot this
  subst hs0
  have e : ∀ o u, (q j).cells[o]? = some u → w.cell? ⟨b, f + j * 4 + o, none⟩ = some u := fun o u ho => by
    have ho3 : o < 4 := by have := (List.getElem?_eq_some_iff.1 ho).1; simpa [Ent.cells] using this
    have := hcell o ho3
    rw [add_plain, add_plain, ho] at this
    exact this
  exact ⟨b, f, rfl, e 0 _ rfl, e 1 _ rfl, e 2 _ rfl, e 3 _ rfl, h5⟩
end
end Go.Proofs.YtigljihohpdpeaaGreatDoor
namespace Go.Proofs.YtigljihohpdpeaaGreatDoor
open Go.ChangeShapes Go.WideShapes Go.ChangeAt Go.RowKit Go.Deep

section
variable {H : Type} {enc : TypeId × Value → H} {w : World}
theorem okU {zs : List Int} (h : ∀ n ∈ zs, (Lit.int .u32 n).wf = true) : ∀ x ∈ zs, 0 ≤ x ∧ x ≤ 4294967295 := fun x hx => by
  have := h x hx
  have h0 : IntKind.u32.min = 0 := by decide
  have h1 : IntKind.u32.max = 4294967295 := by decide
  simp only [Lit.wf, h0, h1, Bool.and_eq_true, decide_eq_true_eq] at this
  exact this
set_option maxRecDepth 100000 in
set_option maxHeartbeats 2000000 in
theorem open_snap {fuel : Nat} {cs : List Value} {x : DataW H × List MemPlace} (h : DataW.trod enc Tryz.prog w 0 (fun _ => true) true fuel 41 cs = some x) (hw : ∀ n ∈ x.1.weights Tryz.prog 41, n ≤ reachBytes) :
    ∃ (p : Id) (mA : Option Addr) (mc : Nat) (mems : List Int) (size : Int) (uA : Option Addr) (uc : Nat) (sums : List Int), cs = [.int .i64 p.i, .int .i64 p.t, .int .i64 p.k, .slice mA mems.length mc, .int .i64 size, .slice uA sums.length uc] ∧
      Rd w mA (mems.map (.int .i64)) ∧ mems.length ≤ 140737488355328 ∧ Rd w uA (sums.map (.int .u32)) ∧ sums.length ≤ 140737488355328 ∧ ∀ x ∈ sums, 0 ≤ x ∧ x ≤ 4294967295 := by
  obtain ⟨xs, n, hk, hxy, hlen, hxl, hf⟩ := DataW.trod_struct Tryz.underlying41 h
  rw [c31] at hlen
  subst hxy
  match xs, hxl, cs, hlen with
  | [y0, y1, y2, y3], _, [v0, v1, v2, v3, v4, v5], _ =>
    have g0 := hf 0 _ rfl
    have g1 := hf 1 _ rfl
    have g2 := hf 2 _ rfl
    have g3 := hf 3 _ rfl
    simp [c3, c25, c28, c29] at g0 g1 g2 g3
    obtain ⟨p, e0⟩ := open_id g0
    obtain ⟨mA, mc, ms, e1, r1, b1, _⟩ := open_row3 Tryz.underlying38 Tryz.underlying3 c3 (by decide +kernel) g1 (wsub hw Tryz.underlying41 (j := 1) rfl rfl)
    obtain ⟨z2, e2, _⟩ := DataW.trod_int Tryz.underlying3 g2
    obtain ⟨uA, uc, us, e3, r3, b3, f3⟩ := open_row3 Tryz.underlying39 Tryz.underlying91 c135 (by decide +kernel) g3 (wsub hw Tryz.underlying41 (j := 3) rfl rfl)
    simp [Id.cells] at e0 e1 e2 e3
    obtain ⟨rfl, rfl, rfl⟩ := e0
    subst e1 e2 e3
    exact ⟨p, mA, mc, ms, z2, uA, uc, us, rfl, r1, b1, r3, b3, okU f3⟩
set_option maxRecDepth 100000 in
set_option maxHeartbeats 4000000 in
theorem open_letter {fuel : Nat} {cs : List Value} {x : DataW H × List MemPlace} (h : DataW.trod enc Tryz.prog w 0 (fun _ => true) true fuel 44 cs = some x) (hw : ∀ n ∈ x.1.weights Tryz.prog 44, n ≤ reachBytes) :
    ∃ l : Let, cs = l.arr.toList ∧ l.inW w ∧ ∀ x ∈ l.ents, x.bs.length ≤ 140737488355328 := by
  obtain ⟨xs, n, hk, hxy, hlen, hxl, hf⟩ := DataW.trod_struct Tryz.underlying44 h
  rw [c34] at hlen
  subst hxy
  match xs, hxl, cs, hlen with
  | [y0, y1, y2, y3, y4, y5, y6, y7, y8, y9, y10, y11, y12, y13], _, [v0, v1, v2, v3, v4, v5, v6, v7, v8, v9, v10, v11, v12, v13, v14, v15, v16, v17, v18, v19, v20, v21, v22], _ =>
    have g0 := hf 0 _ rfl
    have g1 := hf 1 _ rfl
    have g2 := hf 2 _ rfl
    have g3 := hf 3 _ rfl
    have g4 := hf 4 _ rfl
    have g5 := hf 5 _ rfl
    have g6 := hf 6 _ rfl
    have g7 := hf 7 _ rfl
    have g8 := hf 8 _ rfl
    have g9 := hf 9 _ rfl
    have g10 := hf 10 _ rfl
    have g11 := hf 11 _ rfl
    have g12 := hf 12 _ rfl
    have g13 := hf 13 _ rfl
    clear hf
    simp [c3, c4, c22, c25, c26, c27, c31, c32] at g0 g1 g2 g3 g4 g5 g6 g7 g8 g9 g10 g11 g12 g13
    obtain ⟨z0, e0, _⟩ := DataW.trod_int Tryz.underlying32 g0
    obtain ⟨z1, e1, _⟩ := DataW.trod_int Tryz.underlying3 g1
    obtain ⟨z2, e2, _⟩ := DataW.trod_int Tryz.underlying3 g2
    obtain ⟨z3, e3, _⟩ := DataW.trod_int Tryz.underlying3 g3
    obtain ⟨z4, e4, _⟩ := DataW.trod_int Tryz.underlying3 g4
    obtain ⟨p5, e5⟩ := open_id g5
    obtain ⟨p6, e6⟩ := open_id g6
    obtain ⟨wA, wc, want, e7, r7, b7⟩ := open_ids g7 (wsub hw Tryz.underlying44 (j := 7) rfl rfl)
    obtain ⟨z8, e8, _⟩ := DataW.trod_int Tryz.underlying3 g8
    obtain ⟨z9, e9, _⟩ := DataW.trod_bool Tryz.underlying4 g9
    obtain ⟨eA, ec, ents, e10, r10, b10, q10⟩ := open_ents g10 (wsub hw Tryz.underlying44 (j := 10) rfl rfl)
    obtain ⟨p11, mA, mc, mems, size, uA, uc, sums, e11, r11, b11, r12, b12, f12⟩ := open_snap g11 (wsub hw Tryz.underlying44 (j := 11) rfl rfl)
    obtain ⟨z12, e12, _⟩ := DataW.trod_int Tryz.underlying3 g12
    obtain ⟨bA, bc, bs, e13, r13, b13, _⟩ := open_row3 Tryz.underlying42 Tryz.underlying5 c5 (by decide +kernel) g13 (wsub hw Tryz.underlying44 (j := 13) rfl rfl)
    simp [Id.cells] at e0 e1 e2 e3 e4 e5 e6 e7 e8 e9 e10 e11 e12 e13
    obtain ⟨rfl, rfl, rfl⟩ := e5
    obtain ⟨rfl, rfl, rfl⟩ := e6
    obtain ⟨rfl, rfl, rfl, rfl, rfl, rfl⟩ := e11
    subst e0 e1 e2 e3 e4 e7 e8 e9 e10 e12 e13
    exact ⟨⟨z0, z1, z2, z3, z4, p5, p6, wA, wc, want, z8, z9, eA, ec, ents, p11, mA, mc, mems, size, uA, uc, sums, z12, bA, bc, bs⟩, rfl, ⟨r7, r10, r11, r12, r13, b7, b10, b11, b12, b13, f12⟩, q10⟩
end
end Go.Proofs.YtigljihohpdpeaaGreatDoor
namespace Go.Proofs.YtigljihohpdpeaaGreatDoor
open Go.ChangeShapes Go.WideShapes Go.ChangeAt Go.RowKit Go.Deep

/-- A letter whose entries' bytes are not too many. -/
def Let.modest (l : Let) : Prop := ∀ x ∈ l.ents, x.bs.length ≤ 140737488355328
structure Deed where
  what : Int
  i : Int
  off : Bool
  lA : Option Addr
  lc : Nat
  ls : List Let
def Deed.cells (d : Deed) : List Value := [.int .i64 d.what, .int .i64 d.i, .bool d.off, .slice d.lA d.ls.length d.lc]
structure Deed.inW (w : World) (d : Deed) : Prop where
  l1 : LetsIn w d.lA d.ls
  l2 : d.ls.length ≤ 140737488355328
  l3 : ∀ l ∈ d.ls, l.modest
def DeedsIn (w : World) (A : Option Addr) (ds : List Deed) : Prop := ∀ k d, ds[k]? = some d → ∃ b f, A = some ⟨b, f, none⟩ ∧ World.rangeAt w b (f + k * 4) d.cells ∧ d.inW w
theorem Deed.inW.ext {w w' : World} {d : Deed} (h : d.inW w) (he : Ext w w') : d.inW w' := ⟨h.l1.ext he, h.l2, h.l3⟩
theorem DeedsIn.at_ {w : World} {A : Option Addr} {ds : List Deed} (h : DeedsIn w A ds) {k : Nat} (hk : k < ds.length) : ∃ b f d, A = some ⟨b, f, none⟩ ∧ ds[k]? = some d ∧ World.rangeAt w b (f + k * 4) d.cells ∧ d.inW w := by
  obtain ⟨b, f, h1, h2⟩ := h k _ (List.getElem?_eq_getElem hk)
  exact ⟨b, f, ds[k], h1, List.getElem?_eq_getElem hk, h2⟩
theorem DeedsIn.ext {w w' : World} {A : Option Addr} {ds : List Deed} (h : DeedsIn w A ds) (he : Ext w w') : DeedsIn w' A ds := fun k d hk => by
  obtain ⟨b, f, h1, h2, h3⟩ := h k d hk
  exact ⟨b, f, h1, fun j v hv => he.cell (h2 j v hv), h3.ext he⟩

section
variable {H : Type} {enc : TypeId × Value → H} {w : World}
theorem cDeed : Tryz.prog.cellsOf 29 = 4 := by kernel_rfl
theorem cLets : Tryz.prog.cellsOf 27 = 1 := by kernel_rfl
theorem range_of {a : Addr} {j n : Nat} {vs : List Value} {b f : Nat} (h1 : w.cells? 0 (a.add (j * n)) n = some vs) (ha : a = ⟨b, f, none⟩) (hn : vs.length = n) : World.rangeAt w b (f + j * n) vs := fun o u ho => by
  obtain ⟨_, _, hcell⟩ := World.cells?_some h1
  have ho3 : o < n := by have := (List.getElem?_eq_some_iff.1 ho).1; omega
  have := hcell o ho3
  subst ha
  rw [add_plain, add_plain, ho] at this
  exact this
set_option maxRecDepth 100000 in
theorem open_lets {fuel : Nat} {cs : List Value} {x : DataW H × List MemPlace} (h : DataW.trod enc Tryz.prog w 0 (fun _ => true) true fuel 27 cs = some x) (hw : ∀ n ∈ x.1.weights Tryz.prog 27, n ≤ reachBytes) :
    ∃ A c ps, cs = [.slice A (ps : List Let).length c] ∧ LetsIn w A ps ∧ ps.length ≤ 140737488355328 ∧ ∀ x ∈ ps, x.modest := by
  rcases open_slice Tryz.underlying27 h with ⟨rfl, rfl⟩ | ⟨a, len, cap, m, n, D, Pl, rfl, _, hl, hm, hmm, rfl, hx⟩
  · exact ⟨none, 0, [], rfl, fun j p hj => by simp at hj, Nat.zero_le _, fun x hx => by cases hx⟩
  simp at hmm
  have hwl : ∀ n ∈ DataW.weightsAll Tryz.prog 44 ((List.range len).map D), n ≤ reachBytes := fun n hn => hw n (by simp [DataW.weights, Tryz.underlying27, hn])
  have hl2 : len ≤ 140737488355328 := by
    have h3 := hw ((((List.range len).map D).length + ((List.range (m - len)).map fun j => D (len + j)).length) * Tryz.prog.bytesOf 44) (by simp [DataW.weights, Tryz.underlying27])
    have h1 : 1 ≤ Tryz.prog.bytesOf 44 := by decide +kernel
    have h4 := Nat.le_mul_of_pos_right (((List.range len).map D).length + ((List.range (m - len)).map fun j => D (len + j)).length) h1
    have := reachBytes_lt
    simp at h3 h4
    omega
  rw [c34] at hx
  have : Inhabited Let := ⟨⟨0, 0, 0, 0, 0, Id.zero, Id.zero, none, 0, [], 0, false, none, 0, [], Id.zero, none, 0, [], 0, none, 0, [], 0, none, 0, []⟩⟩
  obtain ⟨q, hq⟩ := choose_lt (α := Let) (n := len) (p := fun i p => w.cells? 0 (a.add (i * 23)) 23 = some p.arr.toList ∧ p.inW w ∧ p.modest) (fun i hi => by
    obtain ⟨cs', h1, h2⟩ := hx i (by omega)
    obtain ⟨p, rfl, h3⟩ := open_letter h2 (fun n hn => hwl n (weightsAll_mem (l := (List.range len).map D) (i := i) (d := D i) (by simp [hi]) n hn))
    exact ⟨p, h1, h3⟩)
  refine ⟨some a, cap, (List.range len).map q, by simp, fun j p hj => ?_, by simp; omega, fun x hx => by
    obtain ⟨j, hj, rfl⟩ := List.mem_map.1 hx
    exact (hq j (by simpa using hj)).2.2⟩
  have hj' : j < len := by have := (List.getElem?_eq_some_iff.1 hj).1; simpa using this
  obtain ⟨h1, h5, _⟩ := hq j hj'
  have hp : p = q j := by simp [hj'] at hj; exact hj.symm
  subst hp
  obtain ⟨b, f, spot⟩ := a
  have hs0 : spot = none := by
    obtain ⟨h1', _, _⟩ := hq 0 (by omega)
    obtain ⟨_, _, hcell0⟩ := World.cells?_some h1'
    have := hcell0 0 (by omega)
    simp [Let.arr] at this
    simpa [Addr.add] using World.cell?_spot this
  subst hs0
  exact ⟨b, f, rfl, range_of h1 rfl (arr_len _), h5⟩
set_option maxRecDepth 100000 in
theorem open_deed {fuel : Nat} {cs : List Value} {x : DataW H × List MemPlace} (h : DataW.trod enc Tryz.prog w 0 (fun _ => true) true fuel 29 cs = some x) (hw : ∀ n ∈ x.1.weights Tryz.prog 29, n ≤ reachBytes) :
    ∃ d : Deed, cs = d.cells ∧ d.inW w := by
  obtain ⟨xs, n, hk, hxy, hlen, hxl, hf⟩ := DataW.trod_struct Tryz.underlying29 h
  rw [cDeed] at hlen
  subst hxy
  match xs, hxl, cs, hlen with
  | [y0, y1, y2, y3], _, [v0, v1, v2, v3], _ =>
    have g0 := hf 0 _ rfl
    have g1 := hf 1 _ rfl
    have g2 := hf 2 _ rfl
    have g3 := hf 3 _ rfl
    simp [c3, c4, cLets] at g0 g1 g2 g3
    obtain ⟨z0, e0, _⟩ := DataW.trod_int Tryz.underlying3 g0
    obtain ⟨z1, e1, _⟩ := DataW.trod_int Tryz.underlying3 g1
    obtain ⟨z2, e2, _⟩ := DataW.trod_bool Tryz.underlying4 g2
    obtain ⟨lA, lc, ls, e3, r3, b3, f3⟩ := open_lets g3 (wsub hw Tryz.underlying29 (j := 3) rfl rfl)
    simp at e0 e1 e2 e3
    subst e0 e1 e2 e3
    exact ⟨⟨z0, z1, z2, lA, lc, ls⟩, rfl, ⟨r3, b3, f3⟩⟩
set_option maxRecDepth 100000 in
theorem open_deeds {fuel : Nat} {cs : List Value} {x : DataW H × List MemPlace} (h : DataW.trod enc Tryz.prog w 0 (fun _ => true) true fuel 22 cs = some x) (hw : ∀ n ∈ x.1.weights Tryz.prog 22, n ≤ reachBytes) :
    ∃ A c ps, cs = [.slice A (ps : List Deed).length c] ∧ DeedsIn w A ps ∧ ps.length ≤ 140737488355328 := by
  rcases open_slice Tryz.underlying22 h with ⟨rfl, rfl⟩ | ⟨a, len, cap, m, n, D, Pl, rfl, _, hl, hm, hmm, rfl, hx⟩
  · exact ⟨none, 0, [], rfl, fun j p hj => by simp at hj, Nat.zero_le _⟩
  simp at hmm
  have hwl : ∀ n ∈ DataW.weightsAll Tryz.prog 29 ((List.range len).map D), n ≤ reachBytes := fun n hn => hw n (by simp [DataW.weights, Tryz.underlying22, hn])
  have hl2 : len ≤ 140737488355328 := by
    have h3 := hw ((((List.range len).map D).length + ((List.range (m - len)).map fun j => D (len + j)).length) * Tryz.prog.bytesOf 29) (by simp [DataW.weights, Tryz.underlying22])
    have h1 : 1 ≤ Tryz.prog.bytesOf 29 := by decide +kernel
    have h4 := Nat.le_mul_of_pos_right (((List.range len).map D).length + ((List.range (m - len)).map fun j => D (len + j)).length) h1
    have := reachBytes_lt
    simp at h3 h4
    omega
  rw [cDeed] at hx
  have : Inhabited Deed := ⟨⟨0, 0, false, none, 0, []⟩⟩
  obtain ⟨q, hq⟩ := choose_lt (α := Deed) (n := len) (p := fun i p => w.cells? 0 (a.add (i * 4)) 4 = some p.cells ∧ p.inW w) (fun i hi => by
    obtain ⟨cs', h1, h2⟩ := hx i (by omega)
    obtain ⟨p, rfl, h3⟩ := open_deed h2 (fun n hn => hwl n (weightsAll_mem (l := (List.range len).map D) (i := i) (d := D i) (by simp [hi]) n hn))
    exact ⟨p, h1, h3⟩)
  refine ⟨some a, cap, (List.range len).map q, by simp, fun j p hj => ?_, by simp; omega⟩
  have hj' : j < len := by have := (List.getElem?_eq_some_iff.1 hj).1; simpa using this
  obtain ⟨h1, h5⟩ := hq j hj'
  have hp : p = q j := by simp [hj'] at hj; exact hj.symm
  subst hp
  obtain ⟨b, f, spot⟩ := a
  have hs0 : spot = none := by
    obtain ⟨h1', _⟩ := hq 0 (by omega)
    obtain ⟨_, _, hcell0⟩ := World.cells?_some h1'
    have := hcell0 0 (by omega)
    simp [Deed.cells] at this
    simpa [Addr.add] using World.cell?_spot this
  subst hs0
  exact ⟨b, f, rfl, range_of h1 rfl (by simp [Deed.cells]), h5⟩
end
end Go.Proofs.YtigljihohpdpeaaGreatDoor
namespace Go.Proofs.YtigljihohpdpeaaGreatDoor
open Go.RowKit

def lens (ds : List Deed) : Nat := (ds.map fun d => d.ls.length).sum
theorem lens_snoc (ds : List Deed) (d : Deed) : lens (ds ++ [d]) = lens ds + d.ls.length := by simp [lens]
def GrP (ds : List Deed) (w : World) (e : Ending) (w' : World) : Prop := ∃ b : Bool, e = .returned (.bool b) ∧ (b = false → ds.length ≤ 60 ∧ ds.length + lens ds ≤ 1500 ∧ ∀ d ∈ ds, ∀ l ∈ d.ls, l.small) ∧ Ext w w'
def GrRel (ds : List Deed) (w : World) (v i : Value) (wr : World) : Prop := ∃ (k : Nat) (z : Int), k ≤ ds.length ∧ i = .int .i64 k ∧ v = .int .i64 z ∧ 0 ≤ z ∧ z ≤ 3000000000000000 ∧ (z ≤ 1500 → (ds.length : Int) + lens (ds.take k) ≤ z ∧ ∀ d ∈ ds.take k, ∀ l ∈ d.ls, l.small) ∧ Ext w wr
set_option maxRecDepth 100000 in
set_option maxHeartbeats 1000000 in
theorem great_any (A : Option Addr) (c : Nat) (ds : List Deed) (w : World) (hA : DeedsIn w A ds) (hl : ds.length ≤ 140737488355328) :
    Calls Tryz.prog 5 #[.slice A ds.length c] w (GrP ds w) := by
  go_enter Tryz.func5, Tryz.ntmps5
  go_wp2
  go_loopw [3, 4] (fun v i wr => GrRel ds w v i wr) (fun _ i _ => ds.length - (intOf i).toNat)
  case atStart => exact ⟨0, ds.length, Nat.zero_le _, rfl, rfl, by omega, by omega, fun _ => ⟨by simp [lens], fun d hd => by simp at hd⟩, Ext.refl _⟩
  case round =>
    obtain ⟨k, z, hk, rfl, rfl, hz0, hz1, hr, hE⟩ := hrel
    have HR := Lib.hid hr
    have HE := Lib.hid hE
    clear hr hE
    by_cases hlt : k < ds.length
    · by_cases hz : z ≤ 1500
      · have dz : decide (z ≤ 1500) = true := by simpa using hz
        obtain ⟨b, f, d, rfl, he, hr, hin⟩ := (hA.ext HE.out).at_ hlt
        have HT := Lib.hid (take_snoc' he)
        have c3 := hr 3 _ rfl
        have HL := Lib.hid (lettersOf_any d.lA d.lc d.ls wr hin.l1 hin.l2 hin.l3)
        clear he hin hr
        go_wp2_with fail
        refine (HL.out).mono ?_
        rintro ev w1 ⟨v, rfl, hv1, hv2, hv3, hE1⟩
        have x1 : IntKind.i64.wrap (z + v) = z + v := IntWalk.i64_in _ (by omega)
        have HV := Lib.hid hv3
        have HE1 := Lib.hid (HE.out.trans hE1)
        clear hv3 hE1
        go_wp2
        go_roundw
        case rel => exact ⟨k + 1, z + v, by omega, by go_num, rfl, by omega, by omega, fun h5 => by
          have h6 := HR.out (by omega)
          have h7 := HV.out (by omega)
          rw [HT.out, lens_snoc]
          refine ⟨by omega, fun x hx => ?_⟩
          rcases List.mem_append.1 hx with hx | hx
          · exact h6.2 x hx
          · simp at hx; subst hx; exact h7.2, HE1.out⟩
        case measure => simp [intOf]; omega
      · have dz : decide (z ≤ 1500) = false := by simpa using hz
        have dz2 : decide (1500 < z) = true := by simp; omega
        go_wp2
        go_ret
        exact ⟨true, rfl, fun h => by simp at h, HE.out⟩
    · obtain rfl : k = ds.length := by omega
      have hr := HR.out
      rw [List.take_length] at hr
      by_cases hz : z ≤ 1500
      · have dz : decide (1500 < z) = false := by simp; omega
        by_cases h60 : ds.length ≤ 60
        · have d60 : decide (60 < (ds.length : Int)) = false := by simp; omega
          have HR2 := Lib.hid (hr hz)
          clear hr
          go_wp2
          go_ret
          exact ⟨false, rfl, fun _ => ⟨h60, by have := HR2.out.1; omega, HR2.out.2⟩, HE.out⟩
        · have d60 : decide (60 < (ds.length : Int)) = true := by simp; omega
          clear hr
          go_wp2
          go_ret
          exact ⟨true, rfl, fun h => by simp at h, HE.out⟩
      · have dz : decide (1500 < z) = true := by simp; omega
        clear hr
        go_wp2
        go_ret
        exact ⟨true, rfl, fun h => by simp at h, HE.out⟩
end Go.Proofs.YtigljihohpdpeaaGreatDoor
