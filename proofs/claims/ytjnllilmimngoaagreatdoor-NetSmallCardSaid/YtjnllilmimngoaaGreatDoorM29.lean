/-
  LentSnap, LentLetter: a letter in memory of its own, with marks behind its rows.
  LentLetter.
  What is the same is told to be; what is kept, too: rows of numbers, identities, entries.
-/
import Derived.Test.YtjnllilmimngoaaGreatDoorM28
import Derived.Test.YtjnllilmimngoaaGreatDoorM11
import Derived.Test.YtjnllilmimngoaaGreatDoorM13
import Derived.Test.YtjnllilmimngoaaGreatDoorM12
namespace Go.Proofs.YtjnllilmimngoaaGreatDoor
open Go.RowKit

def twoB (b : Nat) : Nat → Prop := fun i => i = b ∨ i = b + 1
theorem IdsO.fr {S : Nat → Prop} {w w' : World} {g c : Nat} {ps : List Id} (h : IdsO w g c ps) (hf : Fr S w w') (ho : True → Off S (some ⟨g, 0, none⟩)) : IdsO w' g c ps :=
  ⟨h.1.fr hf fun _ => ho trivial, h.2.fr hf (ho trivial _ rfl)⟩
def LentSn (l : Let) (w : World) (e : Ending) (w' : World) : Prop :=
  ∃ gm cm gu cu, e = .returned (.agg #[.int .i64 l.slast.i, .int .i64 l.slast.t, .int .i64 l.slast.k, .slice (some ⟨gm, 0, none⟩) l.mems.length cm, .int .i64 l.size, .slice (some ⟨gu, 0, none⟩) l.sums.length cu]) ∧
    l.mems.length + 12 ≤ cm ∧ l.sums.length + 12 ≤ cu ∧ w.heap.size ≤ gm ∧ w.heap.size ≤ gu ∧ RdO w' gm cm ((l.mems ++ mks (markI 1) 12).map (Value.int .i64)) ∧ RdO w' gu cu ((l.sums ++ mks (markI 1) 12).map (Value.int .u32)) ∧ Ext w w'
theorem setFr {w : World} {S : Nat → Prop} {p : Addr} (hp : S p.block) (u : Value) : Fr S w (w.setCell p u) := (Fr.refl S w).set (.inl hp) u
theorem offTwo {b g : Nat} (h : b + 2 ≤ g) : Off (twoB b) (some ⟨g, 0, none⟩) := by
  intro ad had
  injection had with had
  subst had
  rintro (h1 | h1)
  · have : g = b := h1
    omega
  · have : g = b + 1 := h1
    omega
set_option maxRecDepth 100000 in
set_option maxHeartbeats 2000000 in
theorem lentSnap_any (l : Let) (w : World) (hm1 : Rd w l.mA (l.mems.map (.int .i64))) (hu1 : Rd w l.uA (l.sums.map (.int .u32))) (hm : l.mems.length ≤ 1000000000) (hu : l.sums.length ≤ 1000000000) :
    Calls Tryz.prog 101 #[.agg #[.int .i64 l.slast.i, .int .i64 l.slast.t, .int .i64 l.slast.k, .slice l.mA l.mems.length l.mc, .int .i64 l.size, .slice l.uA l.sums.length l.uc]] w (LentSn l w) := by
  have HLM := Lib.hid (fun w' (h : Ext w w') => lentInts_any l.mA l.mc l.mems w' (hm1.ext h) hm)
  have HB0 := Lib.hid (heap0 w (.cells #[.int .i64 l.slast.i, .int .i64 l.slast.t, .int .i64 l.slast.k, .slice l.mA l.mems.length l.mc, .int .i64 l.size, .slice l.uA l.sums.length l.uc] 32) (.cells #[.int .i64 0, .int .i64 0, .int .i64 0, .slice none 0 0, .int .i64 0, .slice none 0 0] 32))
  have HB1 := Lib.hid (heap1 w (.cells #[.int .i64 l.slast.i, .int .i64 l.slast.t, .int .i64 l.slast.k, .slice l.mA l.mems.length l.mc, .int .i64 l.size, .slice l.uA l.sums.length l.uc] 32) (.cells #[.int .i64 0, .int .i64 0, .int .i64 0, .slice none 0 0, .int .i64 0, .slice none 0 0] 32))
  have HE0 := Lib.hid (((Ext.refl w).alloc (.cells #[.int .i64 l.slast.i, .int .i64 l.slast.t, .int .i64 l.slast.k, .slice l.mA l.mems.length l.mc, .int .i64 l.size, .slice l.uA l.sums.length l.uc] 32)).alloc (.cells #[.int .i64 0, .int .i64 0, .int .i64 0, .slice none 0 0, .int .i64 0, .slice none 0 0] 32))
  go_enter Tryz.func101, Tryz.ntmps101
  go_wp2_with fail
  refine (HLM.out _ HE0.out).mono ?_
  rintro e w1 ⟨gm, cm, rfl, hcm, _, hgm, hRm, hE1⟩
  have g0 := hE1.blk HB0.out
  have g1 := hE1.blk HB1.out
  have HE1 := Lib.hid (HE0.out.trans hE1)
  have a5 := cell_of_heap g0 5
  have a3 := cell_of_heap g0 3
  have f0 := frozen_of_heap g0
  have hgm2 : w.heap.size + 2 ≤ gm := by simpa using hgm
  simp at a5 a3
  have HG0 := Lib.hid (heap_set (k := 3) (v := .slice (some ⟨gm, 0, none⟩) l.mems.length cm) g0)
  have HG1 := Lib.hid ((Below.heap_setCell w1 ⟨w.heap.size, 3, none⟩ (.slice (some ⟨gm, 0, none⟩) l.mems.length cm) (w.heap.size + 1) (by simp)).trans g1)
  have HRm := Lib.hid (hRm.fr (setFr (S := twoB w.heap.size) (p := ⟨w.heap.size, 3, none⟩) (.inl rfl) (.slice (some ⟨gm, 0, none⟩) l.mems.length cm)) (offTwo hgm2))
  have HE2 := Lib.hid (HE1.out.set (p := ⟨w.heap.size, 3, none⟩) (by simp) (.slice (some ⟨gm, 0, none⟩) l.mems.length cm))
  clear g0 g1 hE1 hRm hgm
  go_wp2_with fail
  clear a3 a5 f0
  refine (lentLimbs_any l.uA l.uc l.sums _ (hu1.ext HE2.out) hu).mono ?_
  rintro e w2 ⟨gu, cu, rfl, hcu, _, hgu, hRu, hE3⟩
  have g0 := hE3.blk HG0.out
  have g1 := hE3.blk HG1.out
  have a0 := cell_of_heap g0 0
  have a1 := cell_of_heap g0 1
  have a2 := cell_of_heap g0 2
  have a3 := cell_of_heap g0 3
  have a4 := cell_of_heap g0 4
  have a5 := cell_of_heap g0 5
  have b0 := cell_of_heap g1 0
  have b1 := cell_of_heap g1 1
  have b2 := cell_of_heap g1 2
  have b3 := cell_of_heap g1 3
  have b4 := cell_of_heap g1 4
  have b5 := cell_of_heap g1 5
  have f0 := frozen_of_heap g0
  have f1 := frozen_of_heap g1
  simp at a0 a1 a2 a3 a4 a5 b0 b1 b2 b3 b4 b5
  have HE4 := Lib.hid (HE2.out.trans hE3)
  have HRm2 := Lib.hid (HRm.out.ext hE3)
  have HRu := Lib.hid hRu
  have hsz := HE2.out.sz
  have hgu2 : w.heap.size + 2 ≤ gu := by
    have h2 := heap_lt HG1.out
    omega
  clear g0 g1 hE3 hRu HG0 HG1 HRm
  go_wp2_with fail
  have key : ∀ (v0 v1 v2 v3 v4 v5 v6 : Value), Fr (twoB w.heap.size) w2 (((((((w2.setCell ⟨w.heap.size, 5, none⟩ v0).setCell ⟨w.heap.size + 1, 0, none⟩ v1).setCell ⟨w.heap.size + 1, 1, none⟩ v2).setCell ⟨w.heap.size + 1, 2, none⟩ v3).setCell ⟨w.heap.size + 1, 3, none⟩ v4).setCell ⟨w.heap.size + 1, 4, none⟩ v5).setCell ⟨w.heap.size + 1, 5, none⟩ v6) := fun v0 v1 v2 v3 v4 v5 v6 =>
    (((((((Fr.refl (twoB w.heap.size) w2).set (.inl (.inl rfl)) _).set (.inl (.inr rfl)) _).set (.inl (.inr rfl)) _).set (.inl (.inr rfl)) _).set (.inl (.inr rfl)) _).set (.inl (.inr rfl)) _).set (.inl (.inr rfl)) _
  refine bodyPost_ret (v := .agg #[.int .i64 l.slast.i, .int .i64 l.slast.t, .int .i64 l.slast.k, .slice (some ⟨gm, 0, none⟩) l.mems.length cm, .int .i64 l.size, .slice (some ⟨gu, 0, none⟩) l.sums.length cu]) (by simp [results, Tryz.results101, go_sem, b0, b1, b2, b3, b4, b5]) rfl ⟨gm, cm, gu, cu, rfl, hcm, hcu, by omega, by omega, ?_, ?_, ?_⟩
  · exact HRm2.out.fr (key _ _ _ _ _ _ _) (offTwo hgm2)
  · exact HRu.out.fr (key _ _ _ _ _ _ _) (offTwo hgu2)
  · exact ((((((HE4.out.set (by simp) _).set (by simp) _).set (by simp) _).set (by simp) _).set (by simp) _).set (by simp) _).set (by simp) _
end Go.Proofs.YtjnllilmimngoaaGreatDoor
namespace Go.Proofs.YtjnllilmimngoaaGreatDoor
open Go.RowKit

/-- A letter that is lent: the same, in new memory, with marks behind its rows. -/
structure LetLent (B : Nat) (l l' : Let) (w : World) : Prop where
  e1 : l'.kind = l.kind
  e2 : l'.frm = l.frm
  e3 : l'.too = l.too
  e4 : l'.term = l.term
  e5 : l'.index = l.index
  e6 : l'.last = l.last
  e7 : l'.prev = l.prev
  e8 : l'.commit = l.commit
  e9 : l'.yes = l.yes
  e10 : l'.slast = l.slast
  e11 : l'.size = l.size
  e12 : l'.piece = l.piece
  w1 : ∃ g, l'.wA = some ⟨g, 0, none⟩ ∧ IdsO w g l'.wc (l.want ++ mkIds 12) ∧ B ≤ g
  w2 : l'.want = l.want ∧ l.want.length + 12 ≤ l'.wc
  n1 : ∃ g, l'.eA = some ⟨g, 0, none⟩ ∧ EntsO w g l'.ec (l'.ents ++ mkEnts 12) ∧ B ≤ g
  n2 : ∃ B, LentOf B l.ents l'.ents w
  n3 : l.ents.length + 12 ≤ l'.ec
  m1 : ∃ g, l'.mA = some ⟨g, 0, none⟩ ∧ RdO w g l'.mc ((l.mems ++ mks (markI 1) 12).map (Value.int .i64)) ∧ B ≤ g
  m2 : l'.mems = l.mems ∧ l.mems.length + 12 ≤ l'.mc
  u1 : ∃ g, l'.uA = some ⟨g, 0, none⟩ ∧ RdO w g l'.uc ((l.sums ++ mks (markI 1) 12).map (Value.int .u32)) ∧ B ≤ g
  u2 : l'.sums = l.sums ∧ l.sums.length + 12 ≤ l'.uc
  b1 : ∃ g, l'.bA = some ⟨g, 0, none⟩ ∧ RdO w g l'.bc ((l.bs ++ mks (markB 1) 12).map (Value.int .u8)) ∧ B ≤ g
  b2 : l'.bs = l.bs ∧ l.bs.length + 12 ≤ l'.bc
theorem LetLent.ext {B : Nat} {l l' : Let} {w w' : World} (h : LetLent B l l' w) (he : Ext w w') : LetLent B l l' w' :=
  ⟨h.e1, h.e2, h.e3, h.e4, h.e5, h.e6, h.e7, h.e8, h.e9, h.e10, h.e11, h.e12, (by obtain ⟨g, a, b, d⟩ := h.w1; exact ⟨g, a, b.ext he, d⟩), h.w2, (by obtain ⟨g, a, b, d⟩ := h.n1; exact ⟨g, a, b.ext he, d⟩), (by obtain ⟨B, a⟩ := h.n2; exact ⟨B, a.ext he⟩), h.n3,
   (by obtain ⟨g, a, b, d⟩ := h.m1; exact ⟨g, a, b.ext he, d⟩), h.m2, (by obtain ⟨g, a, b, d⟩ := h.u1; exact ⟨g, a, b.ext he, d⟩), h.u2, (by obtain ⟨g, a, b, d⟩ := h.b1; exact ⟨g, a, b.ext he, d⟩), h.b2⟩
def LentLet (l : Let) (w : World) (e : Ending) (w' : World) : Prop := ∃ l', e = .returned l'.v ∧ LetLent w.heap.size l l' w' ∧ Ext w w'
def Let.z : Let := ⟨0, 0, 0, 0, 0, Id.zero, Id.zero, none, 0, [], 0, false, none, 0, [], Id.zero, none, 0, [], 0, none, 0, [], 0, none, 0, []⟩
theorem Let.put14 (l : Let) (es : List Ent) (A : Option Addr) (c : Nat) (h : es.length = l.ents.length) : l.arr.setIfInBounds 14 (.slice A l.ents.length c) = Let.arr { l with eA := A, ec := c, ents := es } := by
  simp [Let.arr, h]
theorem Let.putSnap (l : Let) (A D : Option Addr) (c d : Nat) :
    (((((l.arr.setIfInBounds 15 (.int .i64 l.slast.i)).setIfInBounds 16 (.int .i64 l.slast.t)).setIfInBounds 17 (.int .i64 l.slast.k)).setIfInBounds 18 (.slice A l.mems.length c)).setIfInBounds 19 (.int .i64 l.size)).setIfInBounds 20 (.slice D l.sums.length d) = Let.arr { l with mA := A, mc := c, uA := D, uc := d } := by
  simp [Let.arr]
theorem offTwoE {b : Nat} {es es' : List Ent} {w : World} {B : Nat} (h : LentOf B es es' w) (hB : b + 2 ≤ B) : ∀ e ∈ es', e.bs ≠ [] → Off (twoB b) e.bA := fun x hx _ => by
  obtain ⟨j, hj⟩ := List.getElem?_of_mem hx
  have hlt := (List.getElem?_eq_some_iff.1 hj).1
  have hlt2 : j < es.length := by have := h.1; omega
  obtain ⟨g, c', h1, h2, h3⟩ := h.2 j es[j] (List.getElem?_eq_getElem hlt2)
  rw [hj] at h1
  injection h1 with h1
  subst h1
  exact offTwo (by have := (h3.lt (i := g) rfl).1; omega)
theorem LentOf.frTwo {b : Nat} {es es' : List Ent} {w w' : World} {B : Nat} (h : LentOf B es es' w) (hB : b + 2 ≤ B) (hf : Fr (twoB b) w w') : LentOf B es es' w' := ⟨h.1, fun j e hj => by
  obtain ⟨g, c', h1, h2, h3⟩ := h.2 j e hj
  refine ⟨g, c', h1, h2, h3.fr hf (fun i hi => ?_)⟩
  have hg := (h3.lt (i := g) rfl).1
  have : g = i := by simpa [blk] using hi
  rintro (h4 | h4) <;> omega⟩
theorem EntsIn.frTwo {b g B : Nat} {es es' : List Ent} {w w' : World} (h : EntsIn w (some ⟨g, 0, none⟩) (es' ++ mkEnts 12)) (hL : LentOf B es es' w) (hB : b + 2 ≤ B) (hg : b + 2 ≤ g) (hf : Fr (twoB b) w w') : EntsIn w' (some ⟨g, 0, none⟩) (es' ++ mkEnts 12) :=
  h.fr hf (fun _ => offTwo hg) (fun e he hne => by
    rcases List.mem_append.1 he with he | he
    · exact offTwoE hL hB e he hne
    · obtain ⟨j, _, rfl⟩ := List.mem_map.1 he
      exact absurd rfl hne)
theorem EntsO.frTwo {b g c B : Nat} {es es' : List Ent} {w w' : World} (h : EntsO w g c (es' ++ mkEnts 12)) (hL : LentOf B es es' w) (hB : b + 2 ≤ B) (hg : b + 2 ≤ g) (hf : Fr (twoB b) w w') : EntsO w' g c (es' ++ mkEnts 12) :=
  ⟨h.1.frTwo hL hB hg hf, h.2.fr hf fun t => by rcases t with t | t <;> omega⟩
def snW (w : World) (b : Nat) (l : Let) (gm cm gu cu : Nat) : World :=
  (((((w.setCell ⟨b, 15, none⟩ (.int .i64 l.slast.i)).setCell ⟨b, 16, none⟩ (.int .i64 l.slast.t)).setCell ⟨b, 17, none⟩ (.int .i64 l.slast.k)).setCell ⟨b, 18, none⟩ (.slice (some ⟨gm, 0, none⟩) l.mems.length cm)).setCell ⟨b, 19, none⟩ (.int .i64 l.size)).setCell ⟨b, 20, none⟩ (.slice (some ⟨gu, 0, none⟩) l.sums.length cu)
theorem snW_fr (w : World) (b : Nat) (l : Let) (gm cm gu cu : Nat) : Fr (twoB b) w (snW w b l gm cm gu cu) :=
  ((((((Fr.refl (twoB b) w).set (.inl (.inl rfl)) _).set (.inl (.inl rfl)) _).set (.inl (.inl rfl)) _).set (.inl (.inl rfl)) _).set (.inl (.inl rfl)) _).set (.inl (.inl rfl)) _
theorem snW_0 {w : World} {b : Nat} {l : Let} (h : w.heap[b]? = some (.cells l.arr 35)) (gm cm gu cu : Nat) : (snW w b l gm cm gu cu).heap[b]? = some (.cells (Let.arr { l with mA := some ⟨gm, 0, none⟩, mc := cm, uA := some ⟨gu, 0, none⟩, uc := cu }) 35) := by
  unfold snW
  rw [heap_set (heap_set (heap_set (heap_set (heap_set (heap_set h))))), Let.putSnap]
theorem snW_1 {w : World} {b : Nat} {l : Let} (gm cm gu cu : Nat) : (snW w b l gm cm gu cu).heap[b + 1]? = w.heap[b + 1]? := by
  unfold snW
  rw [Below.heap_setCell _ _ _ _ (by simp), Below.heap_setCell _ _ _ _ (by simp), Below.heap_setCell _ _ _ _ (by simp), Below.heap_setCell _ _ _ _ (by simp), Below.heap_setCell _ _ _ _ (by simp), Below.heap_setCell _ _ _ _ (by simp)]
theorem snW_ext {w0 w : World} {b : Nat} {l : Let} (h : Ext w0 w) (hb : w0.heap.size ≤ b) (gm cm gu cu : Nat) : Ext w0 (snW w b l gm cm gu cu) :=
  (((((h.set hb _).set hb _).set hb _).set hb _).set hb _).set hb _
theorem twoOne {b : Nat} {w w' : World} (h : Fr (isB (b + 1)) w w') : Fr (twoB b) w w' := h.mono fun _ _ hi => .inr hi
theorem results_lent (tmps : Array Value) (w : World) (b : Nat) (l : Let) (h2 : tmps.getD 2 undef = .pointer (some ⟨b, 0, none⟩)) (hg : w.heap[b]? = some (.cells l.arr 35)) :
    (results Tryz.f63 tmps).run Tryz.prog w = .ok l.v w := by
  have h2' : tmps[2]?.getD undef = .pointer (some ⟨b, 0, none⟩) := by simpa using h2
  simp [results, Tryz.results63, h2', asAddr, load_let w b l hg]
set_option maxRecDepth 100000 in
set_option maxHeartbeats 4000000 in
theorem lentLet_any (l : Let) (w : World) (hin : l.inW w) (h1 : l.want.length ≤ 1000000000) (h2 : l.ents.length ≤ 1000000000) (h3 : ∀ e ∈ l.ents, e.bs.length ≤ 1000000000) (h4 : l.mems.length ≤ 1000000000) (h5 : l.sums.length ≤ 1000000000) (h6 : l.bs.length ≤ 1000000000) :
    Calls Tryz.prog 63 #[l.v] w (LentLet l w) := by
  have HI := Lib.hid hin
  have HB0 := Lib.hid (heap0 w (.cells l.arr 35) (.cells Let.z.arr 35))
  have HB1 := Lib.hid (heap1 w (.cells l.arr 35) (.cells Let.z.arr 35))
  have HE0 := Lib.hid (((Ext.refl w).alloc (.cells l.arr 35)).alloc (.cells Let.z.arr 35))
  have H3 := Lib.hid h3
  have r0 := cell_of_heap HB0.out
  have hV : l.v = .agg l.arr := rfl
  rw [hV]
  clear hin h3 hV
  go_enter Tryz.func63, Tryz.ntmps63
  go_wp2_with fail
  refine (lentIds_any l.wA l.wc l.want _ (HI.out.w1.ext HE0.out) h1).mono ?_
  rintro e w1 ⟨gw, cw, rfl, hcw, _, hgw, hIw, hE1⟩
  have g0 := hE1.blk HB0.out
  have g1 := hE1.blk HB1.out
  have hz1 := hE1.sz
  simp only [World.size_alloc] at hz1 hgw
  clear r0
  have r0 := cell_of_heap g0
  have f0 := frozen_of_heap g0
  have HG0 := Lib.hid (heap_set (k := 11) (v := .slice (some ⟨gw, 0, none⟩) l.want.length cw) g0)
  have HG1 := Lib.hid ((Below.heap_setCell w1 ⟨w.heap.size, 11, none⟩ (.slice (some ⟨gw, 0, none⟩) l.want.length cw) (w.heap.size + 1) (by simp)).trans g1)
  have HF1 := Lib.hid (setFr (w := w1) (S := twoB w.heap.size) (p := ⟨w.heap.size, 11, none⟩) (.inl rfl) (.slice (some ⟨gw, 0, none⟩) l.want.length cw))
  have HE1 := Lib.hid ((HE0.out.trans hE1).set (p := ⟨w.heap.size, 11, none⟩) (by simp) (.slice (some ⟨gw, 0, none⟩) l.want.length cw))
  have HIw := Lib.hid (hIw.fr HF1.out (fun _ => offTwo (by omega)))
  clear g0 g1 hE1 hIw
  go_wp2_with fail
  refine (lentEnts_any l.eA l.ec l.ents _ (HI.out.e1.ext HE1.out) h2 H3.out).mono ?_
  rintro e w2 ⟨ge, ce, es', rfl, hce, _, hge, hIe, hLO, hE2⟩
  rw [Let.set11] at HG0
  have g0 := hE2.blk HG0.out
  have g1 := hE2.blk HG1.out
  have hz2 := hE2.sz
  have hzs := HE1.out.sz
  have hz1' : w.heap.size + 2 ≤ (w1.setCell ⟨w.heap.size, 11, none⟩ (.slice (some ⟨gw, 0, none⟩) l.want.length cw)).heap.size := by have := heap_lt HG1.out; omega
  generalize hB2 : (w1.setCell ⟨w.heap.size, 11, none⟩ (.slice (some ⟨gw, 0, none⟩) l.want.length cw)).heap.size = B2 at *
  clear r0 f0
  have r0 := cell_of_heap g0
  have f0 := frozen_of_heap g0
  have HG0' := Lib.hid (heap_set (k := 14) (v := .slice (some ⟨ge, 0, none⟩) l.ents.length ce) g0)
  have HG1' := Lib.hid ((Below.heap_setCell w2 ⟨w.heap.size, 14, none⟩ (.slice (some ⟨ge, 0, none⟩) l.ents.length ce) (w.heap.size + 1) (by simp)).trans g1)
  have HF2 := Lib.hid (setFr (w := w2) (S := twoB w.heap.size) (p := ⟨w.heap.size, 14, none⟩) (.inl rfl) (.slice (some ⟨ge, 0, none⟩) l.ents.length ce))
  have HE2 := Lib.hid ((HE1.out.trans hE2).set (p := ⟨w.heap.size, 14, none⟩) (by simp) (.slice (some ⟨ge, 0, none⟩) l.ents.length ce))
  have HIw2 := Lib.hid ((HIw.out.ext hE2).fr HF2.out (fun _ => offTwo (by omega)))
  have HIe := Lib.hid (hIe.frTwo hLO (by omega) (by omega) HF2.out)
  have HLO := Lib.hid (hLO.frTwo (by omega) HF2.out)
  have hel := hLO.1
  clear g0 g1 hE2 hIe hLO HIw HG0 HG1 HF1 HF2
  go_wp2_with fail
  refine (lentSnap_any l _ (HI.out.m1.ext HE2.out) (HI.out.u1.ext HE2.out) h4 h5).mono ?_
  rintro e w3 ⟨gm, cm, gu, cu, rfl, hcm, hcu, hgm, hgu, hRm, hRu, hE3⟩
  have hq := HG0'.out
  rw [Let.put14 { l with wA := some ⟨gw, 0, none⟩, wc := cw, want := l.want } es' (some ⟨ge, 0, none⟩) ce hel] at hq
  have g0 := hE3.blk hq
  have g1 := hE3.blk HG1'.out
  have hz3 := hE3.sz
  have hzs3 : w.heap.size + 2 ≤ (w2.setCell ⟨w.heap.size, 14, none⟩ (.slice (some ⟨ge, 0, none⟩) l.ents.length ce)).heap.size := by have := heap_lt HG1'.out; omega
  generalize hB3 : (w2.setCell ⟨w.heap.size, 14, none⟩ (.slice (some ⟨ge, 0, none⟩) l.ents.length ce)).heap.size = B3 at *
  clear r0 f0 hq
  have r0 := cell_of_heap g0
  have f0 := frozen_of_heap g0
  have HE3 := Lib.hid (HE2.out.trans hE3)
  have HIw3 := Lib.hid (HIw2.out.ext hE3)
  have HIe3 := Lib.hid (HIe.out.ext hE3)
  have HLO3 := Lib.hid (HLO.out.ext hE3)
  have HRm := Lib.hid hRm
  have HRu := Lib.hid hRu
  have HG0 := Lib.hid g0
  have HG1 := Lib.hid g1
  clear g0 g1 hE3 hRm hRu HIw2 HIe HLO HG0' HG1'
  go_wp2_with fail
  have hG4 := snW_0 HG0.out gm cm gu cu
  have hG41 := (snW_1 (w := w3) (b := w.heap.size) (l := { l with wA := some ⟨gw, 0, none⟩, wc := cw, want := l.want, eA := some ⟨ge, 0, none⟩, ec := ce, ents := es' }) gm cm gu cu).trans HG1.out
  have hF4 := snW_fr w3 w.heap.size { l with wA := some ⟨gw, 0, none⟩, wc := cw, want := l.want, eA := some ⟨ge, 0, none⟩, ec := ce, ents := es' } gm cm gu cu
  have hE4 := snW_ext (l := { l with wA := some ⟨gw, 0, none⟩, wc := cw, want := l.want, eA := some ⟨ge, 0, none⟩, ec := ce, ents := es' }) HE3.out (Nat.le_refl _) gm cm gu cu
  have HIw4 := Lib.hid (HIw3.out.fr hF4 (fun _ => offTwo (by omega)))
  have HIe4 := Lib.hid (HIe3.out.frTwo HLO3.out (by omega) (by omega) hF4)
  have HLO4 := Lib.hid (HLO3.out.frTwo (by omega) hF4)
  have HRm4 := Lib.hid (HRm.out.fr hF4 (offTwo (by omega)))
  have HRu4 := Lib.hid (HRu.out.fr hF4 (offTwo (by omega)))
  refine (lentBytes_any l.bA l.bc l.bs (snW w3 w.heap.size { l with wA := some ⟨gw, 0, none⟩, wc := cw, want := l.want, eA := some ⟨ge, 0, none⟩, ec := ce, ents := es' } gm cm gu cu) (HI.out.b1.ext hE4) h6).mono ?_
  rintro e w4 ⟨gb, cb, rfl, hcb, _, hgb, hRb, hE5⟩
  have g0 := hE5.blk hG4
  have g1 := hE5.blk hG41
  have hgb2 : w.heap.size + 2 ≤ gb := by have := heap_lt hG41; omega
  clear r0 f0
  have r0 := cell_of_heap g0
  have f0 := frozen_of_heap g0
  have hq := heap_set (k := 22) (v := .slice (some ⟨gb, 0, none⟩) l.bs.length cb) g0
  rw [Let.set22] at hq
  have HG5 := Lib.hid hq
  have HG51 := Lib.hid ((Below.heap_setCell w4 ⟨w.heap.size, 22, none⟩ (.slice (some ⟨gb, 0, none⟩) l.bs.length cb) (w.heap.size + 1) (by simp)).trans g1)
  have HF5 := Lib.hid (setFr (w := w4) (S := twoB w.heap.size) (p := ⟨w.heap.size, 22, none⟩) (.inl rfl) (.slice (some ⟨gb, 0, none⟩) l.bs.length cb))
  have HE5 := Lib.hid ((hE4.trans hE5).set (p := ⟨w.heap.size, 22, none⟩) (by simp) (.slice (some ⟨gb, 0, none⟩) l.bs.length cb))
  have HIw5 := Lib.hid (HIw4.out.ext hE5)
  have HIe5 := Lib.hid (HIe4.out.ext hE5)
  have HLO5 := Lib.hid (HLO4.out.ext hE5)
  have HRm5 := Lib.hid (HRm4.out.ext hE5)
  have HRu5 := Lib.hid (HRu4.out.ext hE5)
  have HRb5 := Lib.hid hRb
  clear g0 g1 hq hE5 hE4 hF4 hG4 hG41 hRb HIw4 HIe4 HLO4 HRm4 HRu4 HIw3 HIe3 HLO3 HRm HRu HG0 HG1 HE3
  go_wp2_with (first | (refine wpList_load_let rfl _ rfl w.heap.size _ rfl HG5.out ?_) | (refine wpList_store_all rfl _ _ rfl rfl (w.heap.size + 1) _ Let.z.arr rfl rfl HG51.out rfl ?_; intro w6 hh6 hf6; have HH6 := Lib.hid hh6; have HF6 := Lib.hid (HF5.out.trans (twoOne hf6) (fun _ _ h => h)); have HE6 := Lib.hid (((Fr.ofExt (isB (w.heap.size + 1)) HE5.out).trans hf6 (fun _ _ h => h)).toExt (fun i hi => by unfold isB at hi; omega)); clear hh6 hf6))
  refine bodyPost_ret (results_lent _ _ _ _ rfl HH6.out) rfl ⟨_, rfl, ?_, HE6.out⟩
  exact ⟨rfl, rfl, rfl, rfl, rfl, rfl, rfl, rfl, rfl, rfl, rfl, rfl, ⟨gw, rfl, HIw5.out.fr HF6.out (fun _ => offTwo (by omega)), by omega⟩, ⟨rfl, hcw⟩, ⟨ge, rfl, HIe5.out.frTwo HLO5.out (by omega) (by omega) HF6.out, by omega⟩, ⟨_, HLO5.out.frTwo (by omega) HF6.out⟩, hce,
    ⟨gm, rfl, HRm5.out.fr HF6.out (offTwo (by omega)), by omega⟩, ⟨rfl, hcm⟩, ⟨gu, rfl, HRu5.out.fr HF6.out (offTwo (by omega)), by omega⟩, ⟨rfl, hcu⟩, ⟨gb, rfl, HRb5.out.fr HF6.out (offTwo hgb2), by omega⟩, ⟨rfl, hcb⟩⟩
end Go.Proofs.YtjnllilmimngoaaGreatDoor
namespace Go.Proofs.YtjnllilmimngoaaGreatDoor
open Go.RowKit

def SmRel (n : Nat) (w : World) (i : Value) (wr : World) : Prop := ∃ k : Nat, k ≤ n ∧ i = .int .i64 k ∧ Ext w wr
set_option maxRecDepth 100000 in
set_option maxHeartbeats 1000000 in
theorem sameIds_true (A D : Option Addr) (c d : Nat) (ps : List Id) (w : World) (hA : IdsIn w A ps) (hD : IdsIn w D ps) (hx : ps.length ≤ 1000000000) :
    Calls Tryz.prog 54 #[.slice A ps.length c, .slice D ps.length d] w fun e w' => e = .returned (.bool true) ∧ Ext w w' := by
  have hne : ((ps.length : Int) != (ps.length : Int)) = false := by simp
  go_enter Tryz.func54, Tryz.ntmps54
  go_wp2
  go_loopw [5] (fun i wr => SmRel ps.length w i wr) (fun i _ => ps.length - (intOf i).toNat)
  case atStart => exact ⟨0, Nat.zero_le _, rfl, Ext.refl _⟩
  case round =>
    obtain ⟨k, hk, rfl, hE⟩ := hrel
    by_cases hlt : k < ps.length
    · obtain ⟨b, f, p, rfl, hp, c0, c1, c2⟩ := (hA.ext hE).at_ hlt
      obtain ⟨b2, f2, p2, rfl, hp2, d0, d1, d2⟩ := (hD.ext hE).at_ hlt
      rw [hp] at hp2
      injection hp2 with hp2
      subst hp2
      clear hp
      go_wp2
      go_quiet (fail)
      go_wp2
      exact ⟨⟨k + 1, by omega, by go_num, hE.drewN _⟩, by simp [intOf]; omega⟩
    · obtain rfl : k = ps.length := by omega
      go_wp2
      go_ret
      exact ⟨rfl, hE⟩
set_option maxRecDepth 100000 in
set_option maxHeartbeats 2000000 in
theorem keptIds_true (g : Nat) (A : Option Addr) (c d : Nat) (ps : List Id) (w : World) (hg : IdsIn w (some ⟨g, 0, none⟩) (ps ++ mkIds 12)) (hA : IdsIn w A ps) (hz : ps.length ≤ 1000000000) (hc : ps.length + 12 ≤ c) :
    Calls Tryz.prog 112 #[.slice (some ⟨g, 0, none⟩) ps.length c, .slice A ps.length d] w fun e w' => e = .returned (.bool true) ∧ Ext w w' := by
  have hne : ((ps.length : Int) != (ps.length : Int)) = false := by simp
  have HMI := Lib.hid (fun i w hi => markIdent_any i w hi)
  unfold Id.v idV mkId at HMI
  go_enter Tryz.func112, Tryz.ntmps112
  go_wp2
  go_loopw [6] (fun i wr => KeptRelInts ps.length w i wr) (fun i _ => ps.length + 12 - (intOf i).toNat)
  case atStart => exact ⟨0, Nat.zero_le _, rfl, Ext.refl _⟩
  case round =>
    obtain ⟨k, hk, rfl, hE⟩ := hrel
    by_cases hlt : k < ps.length + 12
    · obtain ⟨b, f, p, hb, hp, c0, c1, c2⟩ := (hg.ext hE).at_ (k := k) (by simp [mkIds_length]; omega)
      injection hb with hb
      injection hb with hb hf
      subst hb hf
      simp only [Nat.zero_add] at c0 c1 c2
      have C0 := Lib.hid c0
      have C1 := Lib.hid c1
      have C2 := Lib.hid c2
      have HE := Lib.hid hE
      by_cases hin : k < ps.length
      · obtain ⟨b2, f2, p2, rfl, hp2, d0, d1, d2⟩ := (hA.ext hE).at_ hin
        rw [List.getElem?_append_left hin, hp2] at hp
        injection hp with hp
        subst hp
        have D0 := Lib.hid d0
        have D1 := Lib.hid d1
        have D2 := Lib.hid d2
        have hd1 : decide (ps.length ≤ k) = false := by simp; omega
        clear c0 c1 c2 d0 d1 d2 hp2 hE
        go_wp2_with fail
        refine Stab.wp_region_lex Ext (Ext _) (fun _ => True) (by kernel_rfl) (by kernel_rfl) (fun _ _ h => h) (fun _ _ h k => Ext.trans h k) (fun _ _ _ _ => trivial) ((Ext.refl _).drew) trivial ?_
        simp only [Stab.zipL, Nat.reduceAdd]
        repeat (first
          | (refine Stab.wpX_skip rfl ?_; simp only [Act.put, List.setIfInBounds_toArray, List.set_cons_zero, List.set_cons_succ])
          | (refine Stab.wpX_val rfl rfl ?_; apply Exists.intro; refine ⟨fun wx hC _ => ?_, ?_⟩; (have q0 := hC.cell C0.out; have q1 := hC.cell C1.out; have q2 := hC.cell C2.out; have q3 := hC.cell D0.out; have q4 := hC.cell D1.out; have q5 := hC.cell D2.out; go_simp; exact ⟨Ext.refl _, rfl⟩); simp only [Act.put, List.setIfInBounds_toArray, List.set_cons_zero, List.set_cons_succ])
          | (refine Stab.wpX_call1 rfl rfl (fun _ _ _ _ => trivial) ?_; apply Exists.intro; refine ⟨fun wx hC _ _ => ?_, ?_⟩; (go_simp; refine ⟨rfl, ?_⟩; refine (HMI.out (k - ps.length) _ (by omega)).mono ?_; rintro ev w9 ⟨rfl, hb9⟩; (first | (subst hb9; exact ⟨Ext.refl _, rfl, trivial⟩) | (subst hb9; exact ⟨Ext.refl _, rfl⟩) | exact ⟨hb9, rfl, trivial⟩ | exact ⟨hb9, rfl⟩)); simp only [Act.put, List.setIfInBounds_toArray, List.set_cons_zero, List.set_cons_succ]))
        refine Stab.wpX_end fun w8 hC8 _ _ => ?_
        have HE8 := Lib.hid (HE.out.trans hC8)
        clear hC8
        go_wp2_with fail
        go_roundw
        case rel => exact ⟨k + 1, by omega, by go_num, HE8.out⟩
        case measure => simp [intOf]; omega
      · rw [List.getElem?_append_right (by omega)] at hp
        have hpm : p = mkId (k - ps.length) := by
          have hlm : k - ps.length < (mkIds 12).length := by rw [mkIds_length]; omega
          rw [List.getElem?_eq_getElem hlm] at hp
          injection hp with hp
          rw [← hp]
          simp [mkIds]
        subst hpm
        have hd1 : decide (k < ps.length) = false := by simp; omega
        have hd2 : decide (ps.length ≤ k) = true := by simp; omega
        have hw1 : IntKind.i64.wrap ((k : Int) - ps.length) = ((k - ps.length : Nat) : Int) := by rw [IntWalk.i64_in _ (by omega)]; omega
        clear c0 c1 c2 hp hE
        unfold mkId at C0 C1 C2
        go_wp2_with fail
        refine Stab.wp_region_lex Ext (Ext _) (fun _ => True) (by kernel_rfl) (by kernel_rfl) (fun _ _ h => h) (fun _ _ h k => Ext.trans h k) (fun _ _ _ _ => trivial) ((Ext.refl _).drew) trivial ?_
        simp only [Stab.zipL, Nat.reduceAdd]
        repeat (first
          | (refine Stab.wpX_skip rfl ?_; simp only [Act.put, List.setIfInBounds_toArray, List.set_cons_zero, List.set_cons_succ])
          | (refine Stab.wpX_val rfl rfl ?_; apply Exists.intro; refine ⟨fun wx hC _ => ?_, ?_⟩; (have q0 := hC.cell C0.out; have q1 := hC.cell C1.out; have q2 := hC.cell C2.out; go_simp; exact ⟨Ext.refl _, rfl⟩); simp only [Act.put, List.setIfInBounds_toArray, List.set_cons_zero, List.set_cons_succ])
          | (refine Stab.wpX_call1 rfl rfl (fun _ _ _ _ => trivial) ?_; apply Exists.intro; refine ⟨fun wx hC _ _ => ?_, ?_⟩; (go_simp; refine ⟨rfl, ?_⟩; refine (HMI.out (k - ps.length) _ (by omega)).mono ?_; rintro ev w9 ⟨rfl, hb9⟩; (first | (subst hb9; exact ⟨Ext.refl _, rfl, trivial⟩) | (subst hb9; exact ⟨Ext.refl _, rfl⟩) | exact ⟨hb9, rfl, trivial⟩ | exact ⟨hb9, rfl⟩)); simp only [Act.put, List.setIfInBounds_toArray, List.set_cons_zero, List.set_cons_succ]))
        refine Stab.wpX_end fun w8 hC8 _ _ => ?_
        have HE8 := Lib.hid (HE.out.trans hC8)
        clear hC8
        go_wp2_with fail
        go_roundw
        case rel => exact ⟨k + 1, by omega, by go_num, HE8.out⟩
        case measure => simp [intOf]; omega
    · obtain rfl : k = ps.length + 12 := by omega
      go_wp2
      go_ret
      exact ⟨rfl, hE⟩

set_option maxRecDepth 100000 in
set_option maxHeartbeats 1000000 in
theorem sameEnt_true (x y : Ent) (w : World) (hx : Rd w x.bA (x.bs.map (.int .u8))) (hy : Rd w y.bA (y.bs.map (.int .u8))) (e1 : x.i = y.i) (e2 : x.t = y.t) (e3 : x.k = y.k) (e4 : x.bs = y.bs) (hz : x.bs.length ≤ maxLen) :
    Calls Tryz.prog 96 #[x.v, y.v] w fun e w' => e = .returned (.bool true) ∧ Ext w w' := by
  have HS := Lib.hid (fun w' (h : Ext w w') => sameBytes_any x.bA y.bA x.bc y.bc x.bs y.bs w' (hx.ext h) (hy.ext h) hz (by rw [← e4]; exact hz))
  have hb : decide (x.bs = y.bs) = true := decide_eq_true e4
  rw [hb] at HS
  have b1 : (x.i == y.i) = true := by rw [beq_iff_eq]; exact e1
  have b2 : (x.t == y.t) = true := by rw [beq_iff_eq]; exact e2
  have b3 : (x.k == y.k) = true := by rw [beq_iff_eq]; exact e3
  unfold Ent.v
  clear hx hy hz hb e1 e2 e3 e4
  go_enter Tryz.func96, Tryz.ntmps96
  go_wp2_with fail
  refine (HS.out _ (((Ext.refl _).alloc _).alloc _)).mono ?_
  rintro ev w1 ⟨rfl, hE1⟩
  go_wp2_with fail
  go_ret
  exact ⟨rfl, (((Ext.refl _).alloc _).alloc _).trans hE1⟩
set_option maxRecDepth 100000 in
set_option maxHeartbeats 1000000 in
theorem keptEnt_true (x y : Ent) (g : Nat) (w : World) (hA : x.bA = some ⟨g, 0, none⟩) (hx : Rd w (some ⟨g, 0, none⟩) ((y.bs ++ mks (markB 1) 12).map (.int .u8))) (hy : Rd w y.bA (y.bs.map (.int .u8))) (e1 : x.i = y.i) (e2 : x.t = y.t) (e3 : x.k = y.k) (e4 : x.bs = y.bs) (hz : x.bs.length ≤ 1000000000) (hc : y.bs.length + 12 ≤ x.bc) :
    Calls Tryz.prog 146 #[x.v, y.v] w fun e w' => e = .returned (.bool true) ∧ Ext w w' := by
  have hx1 : Rd w x.bA (x.bs.map (.int .u8)) := by rw [hA, e4]; rw [List.map_append] at hx; exact hx.pre
  have HS := Lib.hid (fun w' (h : Ext w w') => sameEnt_true x y w' (hx1.ext h) (hy.ext h) e1 e2 e3 e4 (by unfold maxLen; omega))
  have HK := Lib.hid (fun w' (h : Ext w w') => keptBytes_any g y.bA x.bc y.bc y.bs w' (hx.ext h) (hy.ext h) (by rw [← e4]; exact hz) hc)
  have HB0 := Lib.hid (heap0 w (.cells #[.int .i64 x.i, .int .i64 x.t, .int .i64 x.k, .slice x.bA x.bs.length x.bc] 121) (.cells #[.int .i64 y.i, .int .i64 y.t, .int .i64 y.k, .slice y.bA y.bs.length y.bc] 121))
  have HB1 := Lib.hid (heap1 w (.cells #[.int .i64 x.i, .int .i64 x.t, .int .i64 x.k, .slice x.bA x.bs.length x.bc] 121) (.cells #[.int .i64 y.i, .int .i64 y.t, .int .i64 y.k, .slice y.bA y.bs.length y.bc] 121))
  have HA := Lib.hid hA
  have H4 := Lib.hid e4
  unfold Ent.v at HS ⊢
  clear hx hy hx1 hz hc e1 e2 e3 e4 hA
  go_enter Tryz.func146, Tryz.ntmps146
  go_wp2_with fail
  refine (HS.out _ (((Ext.refl _).alloc _).alloc _)).mono ?_
  rintro ev w1 ⟨rfl, hE1⟩
  have r0 := cell_of_heap (hE1.blk HB0.out) 3
  have r1 := cell_of_heap (hE1.blk HB1.out) 3
  simp at r0 r1
  rw [HA.out, H4.out] at r0
  have HE1 := Lib.hid ((((Ext.refl _).alloc _).alloc _).trans hE1)
  clear hE1
  go_wp2_with fail
  refine (HK.out _ HE1.out).mono ?_
  rintro ev w2 ⟨rfl, hE2⟩
  go_wp2_with fail
  go_ret
  exact ⟨rfl, HE1.out.trans hE2⟩
end Go.Proofs.YtjnllilmimngoaaGreatDoor
