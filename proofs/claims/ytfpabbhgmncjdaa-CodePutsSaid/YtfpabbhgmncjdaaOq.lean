/-
  The argument opened: a slice of parts; how long its rows can be: by the reach.
-/
import Derived.Test.YtfpabbhgmncjdaaOp
import Derived.SizedLaws
namespace Go.Proofs.Ytfpabbhgmncjdaa
open Go.ChangeShapes Go.WideShapes Go.ChangeAt Go.RowKit Go.Deep

theorem weightsAll_mem {H : Type} {P : Program} {e : TypeId} {l : List (DataW H)} {i : Nat} {d : DataW H} (h : l[i]? = some d) : ∀ n ∈ d.weights P e, n ∈ DataW.weightsAll P e l := by
  induction l generalizing i with
  | nil => simp at h
  | cons q r ih =>
    intro n hn
    simp only [DataW.weightsAll, List.mem_append]
    cases i with
    | zero => simp at h; subst h; exact .inl hn
    | succ i => exact .inr (ih (by simpa using h) n hn)
theorem wsub {H : Type} {P : Program} {t u : TypeId} {fs : Array Field} {parts : List (DataW H)} {d : DataW H} {j : Nat} (hw : ∀ n ∈ (DataW.agg parts).weights P t, n ≤ reachBytes) (ht : P.underlying t = some (.struct fs))
    (hf : (fs.toList.map (·.type))[j]? = some u) (hd : parts[j]? = some d) : ∀ n ∈ d.weights P u, n ≤ reachBytes := fun n hn =>
  hw n (by simp only [DataW.weights, ht]; exact DataW.weights_mem_each hf hd n hn)

section
variable {H : Type} {enc : TypeId × Value → H} {w : World}
theorem open_row2 {t e : TypeId} {k : IntKind} {fuel : Nat} {cs : List Value} {x : DataW H × List MemPlace} (ht : Try.prog.underlying t = some (.slice e)) (he : Try.prog.underlying e = some (.int k)) (hc : Try.prog.cellsOf e = 1) (h1 : 1 ≤ Try.prog.bytesOf e)
    (h : DataW.trod enc Try.prog w 0 (fun _ => true) true fuel t cs = some x) (hw : ∀ n ∈ x.1.weights Try.prog t, n ≤ reachBytes) :
    ∃ (A : Option Addr) (c : Nat) (zs : List Int), cs = [.slice A zs.length c] ∧ Rd w A (zs.map (.int k)) ∧ zs.length ≤ 140737488355328 := by
  rcases open_ints ht he hc h with ⟨rfl, rfl⟩ | ⟨a, len, cap, zs, rfl, _, hl, hm, hz, rfl, hcell, _⟩
  · exact ⟨none, 0, [], rfl, fun j u hj => by simp at hj, Nat.zero_le _⟩
  · simp at hz
    have hlen : (zs.take len).length = len := by simp; omega
    refine ⟨some a, cap, zs.take len, by rw [hlen], fun j u hj => ⟨a, rfl, ?_⟩, ?_⟩
    · rw [List.getElem?_map] at hj
      obtain ⟨z, h2, rfl⟩ := Option.map_eq_some_iff.1 hj
      have hjl : j < len := by have := (List.getElem?_eq_some_iff.1 h2).1; omega
      rw [List.getElem?_take_of_lt hjl] at h2
      have := hcell j (by have := (List.getElem?_eq_some_iff.1 h2).1; omega)
      rw [this, List.getD, h2]; rfl
    · have h3 := hw (((lits (H := H) k (zs.take len)).length + (lits (H := H) k (zs.drop len)).length) * Try.prog.bytesOf e) (by simp [DataW.weights, ht])
      have hl2 : (lits (H := H) k (zs.take len)).length = (zs.take len).length := by simp [lits]
      have h4 := Nat.le_mul_of_pos_right ((lits (H := H) k (zs.take len)).length + (lits (H := H) k (zs.drop len)).length) h1
      have := reachBytes_lt
      omega

set_option maxRecDepth 100000 in
theorem open_part2 {fuel : Nat} {cs : List Value} {x : DataW H × List MemPlace} (h : DataW.trod enc Try.prog w 0 (fun _ => true) true fuel 34 cs = some x) (hw : ∀ n ∈ x.1.weights Try.prog 34, n ≤ reachBytes) :
    ∃ p : Pt, cs = p.cells ∧ p.inW w ∧ p.ns.length ≤ 140737488355328 ∧ p.ts.length ≤ 140737488355328 ∧ p.bs.length ≤ 140737488355328 := by
  obtain ⟨xs, n, hk, hxy, hlen, hxl, hf⟩ := DataW.trod_struct Try.underlying34 h
  have hc9 : Try.prog.cellsOf 34 = 9 := by kernel_rfl
  rw [hc9] at hlen
  subst hxy
  match xs, hxl, cs, hlen with
  | [y0, y1, y2, y3, y4, y5], _, [v0, v1, v2, v3, v4, v5, v6, v7, v8], _ =>
    have ci : Try.prog.cellsOf 3 = 1 := by kernel_rfl
    have cu : Try.prog.cellsOf 5 = 1 := by kernel_rfl
    have cn : Try.prog.cellsOf 29 = 1 := by kernel_rfl
    have cb : Try.prog.cellsOf 25 = 1 := by kernel_rfl
    have ce : Try.prog.cellsOf 32 = 4 := by kernel_rfl
    have ck : Try.prog.cellsOf 30 = 1 := by kernel_rfl
    have g0 := hf 0 _ rfl
    have g1 := hf 1 _ rfl
    have g2 := hf 2 _ rfl
    have g3 := hf 3 _ rfl
    have g4 := hf 4 _ rfl
    have g5 := hf 5 _ rfl
    simp [ci, cn, cb, ce] at g0 g1 g2 g3 g4 g5
    obtain ⟨z0, e0, _⟩ := DataW.trod_int Try.underlying3 g0
    obtain ⟨z1, e1, _⟩ := DataW.trod_int Try.underlying3 g1
    obtain ⟨z5, e5, _⟩ := DataW.trod_int Try.underlying3 g5
    obtain ⟨nA, nc, ns, e2, r2, b2⟩ := open_row2 Try.underlying29 Try.underlying3 ci (by decide +kernel) g2 (wsub hw Try.underlying34 (j := 2) rfl rfl)
    obtain ⟨tA, tc, ts, e3, r3, b3⟩ := open_row2 Try.underlying25 Try.underlying5 cu (by decide +kernel) g3 (wsub hw Try.underlying34 (j := 3) rfl rfl)
    obtain ⟨ys, m, _, hy, _, hyl, hg⟩ := DataW.trod_struct Try.underlying32 g4
    have hw4 := wsub hw Try.underlying34 (j := 4) rfl rfl
    subst hy
    match ys, hyl with
    | [u0, u1, u2, u3], _ =>
      have k0 := hg 0 _ rfl
      have k1 := hg 1 _ rfl
      have k2 := hg 2 _ rfl
      have k3 := hg 3 _ rfl
      simp [ci, cn, cb, ce, ck] at k0 k1 k2 k3
      obtain ⟨s0, f0, _⟩ := DataW.trod_int Try.underlying3 k0
      obtain ⟨s1, f1, _⟩ := DataW.trod_int Try.underlying3 k1
      obtain ⟨s2, f2, _⟩ := DataW.trod_int Try.underlying30 k2
      obtain ⟨bA, bc, bs, f3, r7, b7⟩ := open_row2 Try.underlying25 Try.underlying5 cu (by decide +kernel) k3 (wsub hw4 Try.underlying32 (j := 3) rfl rfl)
      simp at e0 e1 e2 e3 e5 f0 f1 f2 f3
      subst e0 e1 e2 e3 e5 f0 f1 f2 f3
      refine ⟨⟨z0, z1, nA, nc, ns, tA, tc, ts, s0, s1, s2, bA, bc, bs, z5⟩, rfl, ⟨r2, r3, r7⟩, b2, b3, b7⟩

set_option maxRecDepth 100000 in
theorem open_parts2 {fuel : Nat} {cs : List Value} {x : DataW H × List MemPlace} (h : DataW.trod enc Try.prog w 0 (fun _ => true) true fuel 22 cs = some x) (hw : ∀ n ∈ x.1.weights Try.prog 22, n ≤ reachBytes) :
    ∃ A c ps, cs = [.slice A (ps : List Pt).length c] ∧ PtsIn w A ps ∧ ps.length ≤ 140737488355328 := by
  rcases open_slice Try.underlying22 h with ⟨rfl, rfl⟩ | ⟨a, len, cap, m, n, D, Pl, rfl, _, hl, hm, hmm, rfl, hx⟩
  · exact ⟨none, 0, [], rfl, fun j p hj => by simp at hj, Nat.zero_le _⟩
  have hc9 : Try.prog.cellsOf 34 = 9 := by kernel_rfl
  simp at hmm
  have hwl : ∀ n ∈ DataW.weightsAll Try.prog 34 ((List.range len).map D), n ≤ reachBytes := fun n hn => hw n (by simp [DataW.weights, Try.underlying22, hn])
  have hl2 : len ≤ 140737488355328 := by
    have h3 := hw ((((List.range len).map D).length + ((List.range (m - len)).map fun j => D (len + j)).length) * Try.prog.bytesOf 34) (by simp [DataW.weights, Try.underlying22])
    have h1 : 1 ≤ Try.prog.bytesOf 34 := by decide +kernel
    have h4 := Nat.le_mul_of_pos_right (((List.range len).map D).length + ((List.range (m - len)).map fun j => D (len + j)).length) h1
    have := reachBytes_lt
    simp at h3 h4
    omega
  rw [hc9] at hx
  obtain ⟨q, hq⟩ := choose_lt (α := Pt) (n := len) (p := fun i p => w.cells? 0 (a.add (i * 9)) 9 = some p.cells ∧ p.inW w ∧ p.ns.length ≤ 140737488355328 ∧ p.ts.length ≤ 140737488355328 ∧ p.bs.length ≤ 140737488355328) (fun i hi => by
    obtain ⟨cs', h1, h2⟩ := hx i (by omega)
    obtain ⟨p, rfl, h3, h4, h5, h6⟩ := open_part2 h2 (fun n hn => hwl n (weightsAll_mem (l := (List.range len).map D) (i := i) (d := D i) (by simp [hi]) n hn))
    exact ⟨p, h1, h3, by omega, by omega, by omega⟩)
  refine ⟨some a, cap, (List.range len).map q, by simp, fun j p hj => ?_, by simp; omega⟩
  have hj' : j < len := by have := (List.getElem?_eq_some_iff.1 hj).1; simpa using this
  obtain ⟨h1, h2, h3⟩ := hq j hj'
  obtain ⟨_, _, hcell⟩ := World.cells?_some h1
  have hp : p = q j := by simp [hj'] at hj; exact hj.symm
  subst hp
  obtain ⟨b, f, spot⟩ := a
  have hs0 : spot = none := by
    obtain ⟨h1', _⟩ := hq 0 (by omega)
    obtain ⟨_, _, hcell0⟩ := World.cells?_some h1'
    have := hcell0 0 (by omega)
    simp [Pt.cells] at this
    simpa [Addr.add] using World.cell?_spot this
  subst hs0
  refine ⟨b, f, rfl, fun o u ho => ?_, h2, h3⟩
  have ho9 : o < 9 := by have := (List.getElem?_eq_some_iff.1 ho).1; simpa [Pt.cells] using this
  have := hcell o ho9
  rw [add_plain, add_plain, ho] at this
  exact this
end
end Go.Proofs.Ytfpabbhgmncjdaa
