/-
  LetterHas: the four copies.
-/
import Derived.Test.YtcapapnhlkmeaaaDoorM41
namespace Go.Proofs.YtcapapnhlkmeaaaDoor
open Go.RowKit

def geB (n : Nat) : Nat → Prop := fun i => n ≤ i
def LeL (n : Nat) (a b : World) : Prop := Fr (geB n) a b ∧ ∀ (i : Nat) (cs : Array Value), a.heap[i]? = some (.cells cs 34) → cs.size = 23 → ∃ cs' : Array Value, b.heap[i]? = some (.cells cs' 34) ∧ cs'.size = 23
theorem LeL.ofExt {n : Nat} {a b : World} (h : Ext a b) : LeL n a b := ⟨Fr.ofExt _ h, fun _ cs hc hs => ⟨cs, h.blk hc, hs⟩⟩
theorem LeL.ofStore {n b : Nat} {w w' : World} {cs vs : Array Value} (hb : n ≤ b) (h : w.heap[b]? = some (.cells cs 34)) (h2 : w'.heap[b]? = some (.cells vs 34)) (hv : vs.size = 23) (hF : Fr (isB b) w w') : LeL n w w' := by
  refine ⟨hF.mono (fun i _ hi => by unfold isB at hi; unfold geB; omega), fun i ds hd hs => ?_⟩
  by_cases e : i = b
  · subst e; exact ⟨vs, h2, hv⟩
  · exact ⟨ds, (hF.block i (heap_lt hd) e).trans hd, hs⟩
def NewL (n : Nat) (u : Value) (W : World) : Prop := ∃ (b : Nat) (cs : Array Value), u = .pointer (some ⟨b, 0, none⟩) ∧ n ≤ b ∧ cs.size = 23 ∧ W.heap[b]? = some (.cells cs 34)
theorem NewL.up {n : Nat} {u : Value} {a b : World} (h : NewL n u a) (k : LeL n a b) : NewL n u b := by
  obtain ⟨g, cs, h1, h2, h3, h4⟩ := h
  obtain ⟨cs', h5, h6⟩ := k.2 g cs h4 h3
  exact ⟨g, cs', h1, h2, h6, h5⟩
theorem keepL {b c : Nat} {w w' : World} {l : Let} (h : w.heap[c]? = some (.cells l.arr 34)) (h2 : w'.heap[b]? = some (.cells l.arr 34)) (hF : Fr (isB b) w w') : w'.heap[c]? = some (.cells l.arr 34) := by
  by_cases e : c = b
  · subst e; exact h2
  · exact (hF.block c (heap_lt h) e).trans h
theorem yieldsS_load_let {o : Oper} {a : Act} {w : World} (x : Operand) (ho : o.op = .load 34 x) (b : Nat) (l : Let) (hx : a.eval x = .pointer (some ⟨b, 0, none⟩)) (hg : w.heap[b]? = some (.cells l.arr 34)) :
    StabS.yields Tryd.prog o a w (fun u w' => Ext w w' ∧ u = l.v) := by
  unfold StabS.yields execOp
  simp only [ho, hx, Instr.loadAt, Instr.sureAddr, Sem.run_bind, Sem.run_pure, Result.andThen_ok, load_let w b l hg, StabS.yieldsUpon_value]
  exact ⟨Ext.refl _, trivial⟩
theorem yieldsS_store_let {o : Oper} {a : Act} {w : World} (x y : Operand) (ho : o.op = .store 34 x y) (b : Nat) (l : Let) (cs : Array Value) (hx : a.eval x = .pointer (some ⟨b, 0, none⟩)) (hy : a.eval y = l.v) (hg : w.heap[b]? = some (.cells cs 34)) (hs : cs.size = 23) :
    StabS.yields Tryd.prog o a w (fun _ w' => w'.heap[b]? = some (.cells l.arr 34) ∧ Fr (isB b) w w') := by
  obtain ⟨w', h1, h2, h3⟩ := storeVar_all w b cs l hg hs
  unfold StabS.yields execOp
  simp only [ho, hx, hy, Instr.storeAt, Instr.sureAddr, Sem.run_bind, Sem.run_pure, Result.andThen_ok, h1, StabS.yieldsUpon_value]
  exact ⟨h2, h3⟩

def Same (l l' : Let) : Prop := l'.kind = l.kind ∧ l'.wA = l.wA ∧ l'.wc = l.wc ∧ l'.want = l.want ∧ l'.eA = l.eA ∧ l'.ec = l.ec ∧ l'.ents = l.ents ∧ l'.mA = l.mA ∧ l'.mc = l.mc ∧ l'.mems = l.mems ∧ l'.uA = l.uA ∧ l'.uc = l.uc ∧ l'.sums = l.sums ∧ l'.bA = l.bA ∧ l'.bc = l.bc ∧ l'.bs = l.bs
theorem Same.inW {l l' : Let} {w : World} (h : Same l l') (k : l.inW w) : l'.inW w := by
  obtain ⟨_, h1, _, h2, h3, _, h4, h5, _, h6, h7, _, h8, h9, _, h10⟩ := h
  constructor <;> simp only [h1, h2, h3, h4, h5, h6, h7, h8, h9, h10]
  all_goals first | exact k.w1 | exact k.e1 | exact k.m1 | exact k.u1 | exact k.b1 | exact k.w2 | exact k.e2 | exact k.m2 | exact k.u2 | exact k.b2 | exact k.u3
/-- A copy of the letter in a block, of which something is known. -/
def Gd (l : Let) (P : Let → Prop) (b : Nat) (W : World) : Prop := ∃ l', W.heap[b]? = some (.cells l'.arr 34) ∧ Same l l' ∧ P l'
theorem Gd.ext {l : Let} {P : Let → Prop} {b : Nat} {w w' : World} (h : Gd l P b w) (he : Ext w w') : Gd l P b w' := by
  obtain ⟨l', h1, h2, h3⟩ := h
  exact ⟨l', he.blk h1, h2, h3⟩
theorem Gd.put {l : Let} {P : Let → Prop} {b b' k : Nat} {v : Value} {w : World} (h : Gd l P b w) (upd : Let → Let) (h1 : ∀ l' : Let, l'.arr.setIfInBounds k v = (upd l').arr) (h2 : ∀ l', Same l l' → Same l (upd l')) (h3 : ∀ l', P l' → P (upd l')) : Gd l P b (w.setCell ⟨b', k, none⟩ v) := by
  obtain ⟨l', g1, g2, g3⟩ := h
  by_cases e : b' = b
  · subst e; exact ⟨upd l', (heap_set g1).trans (by rw [h1]), h2 _ g2, h3 _ g3⟩
  · exact ⟨l', (Below.heap_setCell _ _ _ _ (by simpa using fun he => e he.symm)).trans g1, g2, g3⟩
theorem Gd.gain {l : Let} {P : Let → Prop} {b k : Nat} {v : Value} {w : World} (h : Gd l (fun _ => True) b w) (upd : Let → Let) (h1 : ∀ l' : Let, l'.arr.setIfInBounds k v = (upd l').arr) (h2 : ∀ l', Same l l' → Same l (upd l')) (h3 : ∀ l', P (upd l')) : Gd l P b (w.setCell ⟨b, k, none⟩ v) := by
  obtain ⟨l', g1, g2, g3⟩ := h
  exact ⟨upd l', (heap_set g1).trans (by rw [h1]), h2 _ g2, h3 _⟩

def Four (l : Let) (w : World) (P5 P6 P7 P8 : Let → Prop) (b5 b6 b7 b8 : Nat) (W : World) : Prop := Ext w W ∧ W.heap[w.heap.size]? = some (.cells l.arr 34) ∧ Gd l P5 b5 W ∧ Gd l P6 b6 W ∧ Gd l P7 b7 W ∧ Gd l P8 b8 W

set_option maxRecDepth 100000 in
set_option maxHeartbeats 1000000 in
theorem lh_nine (l : Let) (w w1 : World) (y : Int) (hE : Ext w w1) (hG : w1.heap[w.heap.size]? = some (.cells l.arr 34)) (u3 u4 u5 u6 u7 u8 u9 u10 u11 u12 u13 u14 u15 u16 u17 u18 u19 u20 u21 u22 u23 u24 u25 u26 u27 u28 u29 u30 u31 u32 u33 u34 u35 u36 u37 u38 u39 u40 u41 u42 u43 u44 u45 u46 u47 u48 u49 u50 u51 u52 u53 u54 u55 u56 u57 u58 u59 u60 u61 u62 u63 u64 u65 u66 u67 u68 u69 u70 u71 u72 u73 u74 u75 u76 u77 u78 u79 u80 u81 u82 u83 u84 u85 u86 u87 u88 u89 u90 u91 u92 u93 u94 u95 u96 u97 u98 u99 u100 u101 u102 u103 u104 u105 u106 u107 u108 u109 u110 u111 u112 u113 u114 u115 u116 u117 u118 u119 u120 u121 u122 u123 u124 u125 u126 u127 u128 u129 u130 u131 u132 u133 u134 u135 u136 u137 u138 u139 u140 u141 u142 u143 u144 u145 : Value) (K : Act → World → Prop) (Q : Exit → Act → World → Prop)
    (hK : ∀ (b5 b6 b7 b8 : Nat) (u3 u4 u5 u6 u7 u8 u9 u10 u11 u12 u13 u14 u15 u16 u17 u18 u19 u20 u21 u22 u23 u24 u25 u26 u27 u28 u29 u30 u31 u32 u33 u34 u35 u36 u37 u38 u39 u40 u41 u42 u43 u44 u45 u46 u47 u48 u49 u50 u51 u52 u53 u54 u55 u56 u57 u58 u59 u60 u61 u62 u63 u64 u65 u66 u67 u68 u69 u70 u71 u72 u73 u74 u75 u76 u77 u78 u79 u80 u81 u82 u83 u84 u85 u86 u87 u88 u89 u90 u91 u92 u93 u94 u95 u96 u97 u98 u99 u100 u101 u102 u103 u104 u105 u106 u107 u108 u109 u110 u111 u112 u113 u114 u115 u116 u117 u118 u119 u120 u121 u122 u123 u124 u125 u126 u127 u128 u129 u130 u131 u132 u133 u134 u135 u136 u137 u138 u139 u140 u141 u142 u143 u144 u145 : Value) (W : World), w.heap.size < b5 → w.heap.size < b6 → w.heap.size < b7 → w.heap.size < b8 → Four l w (fun _ => True) (fun _ => True) (fun _ => True) (fun _ => True) b5 b6 b7 b8 W →
      u5 = .pointer (some ⟨b5, 0, none⟩) → u6 = .pointer (some ⟨b6, 0, none⟩) → u7 = .pointer (some ⟨b7, 0, none⟩) → u8 = .pointer (some ⟨b8, 0, none⟩) → K ⟨#[.agg l.arr, .int .i64 y, .pointer (some ⟨w.heap.size, 0, none⟩), u3, u4, u5, u6, u7, u8, u9, u10, u11, u12, u13, u14, u15, u16, u17, u18, u19, u20, u21, u22, u23, u24, u25, u26, u27, u28, u29, u30, u31, u32, u33, u34, u35, u36, u37, u38, u39, u40, u41, u42, u43, u44, u45, u46, u47, u48, u49, u50, u51, u52, u53, u54, u55, u56, u57, u58, u59, u60, u61, u62, u63, u64, u65, u66, u67, u68, u69, u70, u71, u72, u73, u74, u75, u76, u77, u78, u79, u80, u81, u82, u83, u84, u85, u86, u87, u88, u89, u90, u91, u92, u93, u94, u95, u96, u97, u98, u99, u100, u101, u102, u103, u104, u105, u106, u107, u108, u109, u110, u111, u112, u113, u114, u115, u116, u117, u118, u119, u120, u121, u122, u123, u124, u125, u126, u127, u128, u129, u130, u131, u132, u133, u134, u135, u136, u137, u138, u139, u140, u141, u142, u143, u144, u145], []⟩ W) :
    Code.wp Tryd.prog lh9 (Exit.then K Q) ⟨#[.agg l.arr, .int .i64 y, .pointer (some ⟨w.heap.size, 0, none⟩), u3, u4, u5, u6, u7, u8, u9, u10, u11, u12, u13, u14, u15, u16, u17, u18, u19, u20, u21, u22, u23, u24, u25, u26, u27, u28, u29, u30, u31, u32, u33, u34, u35, u36, u37, u38, u39, u40, u41, u42, u43, u44, u45, u46, u47, u48, u49, u50, u51, u52, u53, u54, u55, u56, u57, u58, u59, u60, u61, u62, u63, u64, u65, u66, u67, u68, u69, u70, u71, u72, u73, u74, u75, u76, u77, u78, u79, u80, u81, u82, u83, u84, u85, u86, u87, u88, u89, u90, u91, u92, u93, u94, u95, u96, u97, u98, u99, u100, u101, u102, u103, u104, u105, u106, u107, u108, u109, u110, u111, u112, u113, u114, u115, u116, u117, u118, u119, u120, u121, u122, u123, u124, u125, u126, u127, u128, u129, u130, u131, u132, u133, u134, u135, u136, u137, u138, u139, u140, u141, u142, u143, u144, u145], []⟩ w1 := by
  conv => arg 2; whnf
  have HK := Lib.hid hK
  have hlt := heap_lt hG
  have HG := Lib.hid hG
  have HE := Lib.hid hE
  clear hK hG hE
  have HL := Lib.hid (fun (wx : World) (h : Fr (geB w1.heap.size) w1 wx) => (h.block w.heap.size hlt (by unfold geB; omega)).trans HG.out)
  refine StabS.wp_region_lex (LeL w1.heap.size) (Fr (geB w1.heap.size) w1) (fun _ => True) (by kernel_rfl) (by kernel_rfl) (fun _ _ h => LeL.ofExt h) (fun _ _ h k => h.trans k.1 (fun _ _ t => t)) (fun _ _ _ _ => trivial) (Fr.ofExt _ ((Ext.refl _).drew)) trivial ?_
  simp only [StabS.zipL, Nat.reduceAdd]
  iterate 4 (refine StabS.wpX_val rfl rfl ⟨l.v, fun wx hC _ => yieldsS_load_let _ rfl w.heap.size l rfl (HL.out wx hC), ?_⟩; simp only [Act.put, List.setIfInBounds_toArray, List.set_cons_zero, List.set_cons_succ])
  refine StabS.wpX_new (NewL w1.heap.size) rfl rfl (by kernel_rfl) (fun _ _ _ h k => h.up k) (fun _ _ _ _ => trivial) (fun wx hC _ => by go_simp; exact ⟨(Ext.refl _).alloc _, wx.heap.size, _, rfl, hC.size, rfl, heap_alloc_new _ _⟩) ?_
  rintro _ ⟨_, _, ⟨b5, _, rfl, hb5, _, _⟩, _⟩
  simp only [Act.put, List.setIfInBounds_toArray, List.set_cons_zero, List.set_cons_succ]
  refine StabS.wpX_new (NewL w1.heap.size) rfl rfl (by kernel_rfl) (fun _ _ _ h k => h.up k) (fun _ _ _ _ => trivial) (fun wx hC _ => by go_simp; exact ⟨(Ext.refl _).alloc _, wx.heap.size, _, rfl, hC.size, rfl, heap_alloc_new _ _⟩) ?_
  rintro _ ⟨_, _, ⟨b6, _, rfl, hb6, _, _⟩, _⟩
  simp only [Act.put, List.setIfInBounds_toArray, List.set_cons_zero, List.set_cons_succ]
  refine StabS.wpX_new (NewL w1.heap.size) rfl rfl (by kernel_rfl) (fun _ _ _ h k => h.up k) (fun _ _ _ _ => trivial) (fun wx hC _ => by go_simp; exact ⟨(Ext.refl _).alloc _, wx.heap.size, _, rfl, hC.size, rfl, heap_alloc_new _ _⟩) ?_
  rintro _ ⟨_, _, ⟨b7, _, rfl, hb7, _, _⟩, _⟩
  simp only [Act.put, List.setIfInBounds_toArray, List.set_cons_zero, List.set_cons_succ]
  refine StabS.wpX_new (NewL w1.heap.size) rfl rfl (by kernel_rfl) (fun _ _ _ h k => h.up k) (fun _ _ _ _ => trivial) (fun wx hC _ => by go_simp; exact ⟨(Ext.refl _).alloc _, wx.heap.size, _, rfl, hC.size, rfl, heap_alloc_new _ _⟩) ?_
  rintro _ ⟨_, _, ⟨b8, _, rfl, hb8, _, _⟩, _⟩
  simp only [Act.put, List.setIfInBounds_toArray, List.set_cons_zero, List.set_cons_succ]
  refine StabS.wpX_call (fun _ _ => True) (fun _ W => W.heap[b5]? = some (.cells l.arr 34)) rfl rfl (fun _ _ _ _ _ => trivial) (fun _ _ _ h k => k.blk h) ?_ ?_
  · rintro wx hC _ hF
    obtain ⟨b, cs, e, _, hs, hg⟩ := (hF 4 (by kernel_rfl)).1.1.1.2 rfl
    obtain rfl : b5 = b := by simpa using e
    refine StabS.yields_mono (yieldsS_store_let _ _ rfl b5 l cs rfl rfl hg hs) ?_
    rintro u w' ⟨g1, g2⟩
    exact ⟨LeL.ofStore hb5 hg g1 l.asize g2, trivial, g1⟩
  rintro us _
  simp only [Act.put, List.setIfInBounds_toArray, List.set_cons_zero, List.set_cons_succ]
  refine StabS.wpX_call (fun _ _ => True) (fun _ W => W.heap[b6]? = some (.cells l.arr 34) ∧ W.heap[b5]? = some (.cells l.arr 34)) rfl rfl (fun _ _ _ _ _ => trivial) (fun _ _ _ h k => ⟨k.blk h.1, k.blk h.2⟩) ?_ ?_
  · rintro wx hC h0 hF
    obtain ⟨b, cs, e, _, hs, hg⟩ := (hF 5 (by kernel_rfl)).1.1.1.2 rfl
    obtain rfl : b6 = b := by simpa using e
    refine StabS.yields_mono (yieldsS_store_let _ _ rfl b6 l cs rfl rfl hg hs) ?_
    rintro u w' ⟨g1, g2⟩
    exact ⟨LeL.ofStore hb6 hg g1 l.asize g2, trivial, ⟨g1, keepL h0 g1 g2⟩⟩
  rintro us _
  simp only [Act.put, List.setIfInBounds_toArray, List.set_cons_zero, List.set_cons_succ]
  refine StabS.wpX_call (fun _ _ => True) (fun _ W => W.heap[b7]? = some (.cells l.arr 34) ∧ W.heap[b6]? = some (.cells l.arr 34) ∧ W.heap[b5]? = some (.cells l.arr 34)) rfl rfl (fun _ _ _ _ _ => trivial) (fun _ _ _ h k => ⟨k.blk h.1, k.blk h.2.1, k.blk h.2.2⟩) ?_ ?_
  · rintro wx hC ⟨h0, h1⟩ hF
    obtain ⟨b, cs, e, _, hs, hg⟩ := (hF 6 (by kernel_rfl)).1.1.1.2 rfl
    obtain rfl : b7 = b := by simpa using e
    refine StabS.yields_mono (yieldsS_store_let _ _ rfl b7 l cs rfl rfl hg hs) ?_
    rintro u w' ⟨g1, g2⟩
    exact ⟨LeL.ofStore hb7 hg g1 l.asize g2, trivial, ⟨g1, keepL h0 g1 g2, keepL h1 g1 g2⟩⟩
  rintro us _
  simp only [Act.put, List.setIfInBounds_toArray, List.set_cons_zero, List.set_cons_succ]
  refine StabS.wpX_call (fun _ _ => True) (fun _ W => W.heap[b8]? = some (.cells l.arr 34) ∧ W.heap[b7]? = some (.cells l.arr 34) ∧ W.heap[b6]? = some (.cells l.arr 34) ∧ W.heap[b5]? = some (.cells l.arr 34)) rfl rfl (fun _ _ _ _ _ => trivial) (fun _ _ _ h k => ⟨k.blk h.1, k.blk h.2.1, k.blk h.2.2.1, k.blk h.2.2.2⟩) ?_ ?_
  · rintro wx hC ⟨h0, h1, h2⟩ hF
    obtain ⟨b, cs, e, _, hs, hg⟩ := (hF 7 (by kernel_rfl)).1.1.1.2 rfl
    obtain rfl : b8 = b := by simpa using e
    refine StabS.yields_mono (yieldsS_store_let _ _ rfl b8 l cs rfl rfl hg hs) ?_
    rintro u w' ⟨g1, g2⟩
    exact ⟨LeL.ofStore hb8 hg g1 l.asize g2, trivial, ⟨g1, keepL h0 g1 g2, keepL h1 g1 g2, keepL h2 g1 g2⟩⟩
  rintro us _
  simp only [Act.put, List.setIfInBounds_toArray, List.set_cons_zero, List.set_cons_succ]
  refine StabS.wpX_end fun w8 hC8 hT8 _ => ?_
  obtain ⟨h8, h7, h6, h5⟩ := hT8
  have hS : Same l l := ⟨rfl, rfl, rfl, rfl, rfl, rfl, rfl, rfl, rfl, rfl, rfl, rfl, rfl, rfl, rfl, rfl⟩
  refine HK.out b5 b6 b7 b8 _ _ _ _ _ _ _ _ _ _ _ _ _ _ _ _ _ _ _ _ _ _ _ _ _ _ _ _ _ _ _ _ _ _ _ _ _ _ _ _ _ _ _ _ _ _ _ _ _ _ _ _ _ _ _ _ _ _ _ _ _ _ _ _ _ _ _ _ _ _ _ _ _ _ _ _ _ _ _ _ _ _ _ _ _ _ _ _ _ _ _ _ _ _ _ _ _ _ _ _ _ _ _ _ _ _ _ _ _ _ _ _ _ _ _ _ _ _ _ _ _ _ _ _ _ _ _ _ _ _ _ _ _ _ _ _ _ _ _ _ _ _ _ w8 (by omega) (by omega) (by omega) (by omega) ⟨HE.out.trans (hC8.toExt (fun i hi => hi)), HL.out w8 hC8, ⟨l, h5, hS, trivial⟩, ⟨l, h6, hS, trivial⟩, ⟨l, h7, hS, trivial⟩, ⟨l, h8, hS, trivial⟩⟩ rfl rfl rfl rfl
end Go.Proofs.YtcapapnhlkmeaaaDoor
