/-
  LetterPuts: the walk.
-/
import Derived.Test.YtcapapnhlkmeaaaGreatDoorM51
import Derived.Test.YtcapapnhlkmeaaaGreatDoorM46
import Derived.Test.YtcapapnhlkmeaaaGreatDoorM32
import Derived.Test.YtcapapnhlkmeaaaGreatDoorM25
namespace Go.Proofs.YtcapapnhlkmeaaaGreatDoor
open Go.RowKit

def PutsX (X : List Int) (N : Int) (w : World) (e : Ending) (w' : World) : Prop :=
  ∃ A c, e = .returned (.tuple #[.slice A X.length c, .int .i64 N]) ∧ Own w' w.heap.size 5 A c (X.map (.int .u8)) ∧ Ext w w'
def LeP (w3 a b : World) : Prop := (Ext w3 a → Ext w3 b) ∧ ∀ (i : Nat) (cs : Array Value), a.heap[i]? = some (.cells cs 32) → b.heap[i]? = some (.cells cs 32)
theorem LeP.ofExt {w3 a b : World} (h : Ext a b) : LeP w3 a b := ⟨fun k => k.trans h, fun _ _ k => h.blk k⟩
def RowsT (B1 B2 B3 : Nat) (X : List Int) (A1 : Option Addr) (c1 : Nat) (A2 : Option Addr) (c2 : Nat) (A3 : Option Addr) (c3 : Nat) (W : World) : Prop :=
  Own W B1 5 A1 c1 (X.map (.int .u8)) ∧ Own W B2 5 A2 c2 (X.map (.int .u8)) ∧ Own W B3 5 A3 c3 (X.map (.int .u8))
theorem RowsT.ext {B1 B2 B3 : Nat} {X : List Int} {A1 A2 A3 : Option Addr} {c1 c2 c3 : Nat} {w w' : World} (h : RowsT B1 B2 B3 X A1 c1 A2 c2 A3 c3 w) (he : Ext w w') : RowsT B1 B2 B3 X A1 c1 A2 c2 A3 c3 w' := ⟨h.1.ext he, h.2.1.ext he, h.2.2.ext he⟩
theorem putX_len (l : Let) (hu : ∀ x ∈ l.sums, 0 ≤ x ∧ x ≤ 4294967295) : (putX l).length ≤ 1000000 := by
  unfold putX
  split
  · rename_i h
    have := bodyB_length (puts_of_right h hu)
    simp [putB, hdB, leB_length]; omega
  · simp
theorem apart_two {w3 w4 w5 : World} {X : List Int} {A1 A2 A3 : Option Addr} {c1 c2 c3 : Nat} (hX : X.length ≤ 1000000) (h4 : w3.heap.size ≤ w4.heap.size) (h5 : w4.heap.size ≤ w5.heap.size) (b : Nat) (wx : World) (hC : Ext w3 wx)
    (hT : RowsT w3.heap.size w4.heap.size w5.heap.size X A1 c1 A2 c2 A3 c3 wx) (hd : Dis 2 (fun k => if k = 0 then A1 else A3))
    (hb : wx.heap[b]? = some (.cells #[.slice A1 X.length c1, .slice A3 X.length c3] 32)) :
    Calls Tryz.prog 13 #[.slice (some ⟨b, 0, none⟩) 2 2] wx fun e w' => e = .returned (.bool true) ∧ LeP w3 wx w' := by
  have h1 := hT.1
  have h3 := hT.2.2
  have hR : Rows_ wx w3.heap.size 2 (fun k => if k = 0 then A1 else A3) (fun k => if k = 0 then c1 else c3) (fun _ => X) := by
    intro k hk
    rcases (by omega : k = 0 ∨ k = 1) with rfl | rfl
    · exact h1
    · exact ⟨h3.1, h3.2.imp id (fun ⟨g, cap, cur, ha, hB, hr⟩ => ⟨g, cap, cur, ha, by omega, hr⟩)⟩
  have hD : Rd wx (some ⟨b, 0, none⟩) ((List.range 2).map (rowU (fun k => if k = 0 then A1 else A3) (fun _ => X.length) (fun k => if k = 0 then c1 else c3))) := by
    intro j u hj
    refine ⟨_, rfl, ?_⟩
    have hr : List.range 2 = [0, 1] := rfl
    rw [hr] at hj
    match j, hj with
    | 0, hj => simp [rowU] at hj; subst hj; exact (cell_of_heap hb 0).trans rfl
    | 1, hj => simp [rowU] at hj; subst hj; exact (cell_of_heap hb 1).trans rfl
    | j + 2, hj => simp at hj
  refine (apartBytes_any w3.heap.size _ 2 2 _ _ _ (fun _ => X) wx hD (fun _ _ => rfl) hR hd (by omega) (fun _ _ => by show X.length ≤ _; omega) hC.sz).mono ?_
  rintro e w' ⟨rfl, hF⟩
  have hrb : ∀ i, RB 2 (fun k => if k = 0 then A1 else A3) i → w3.heap.size ≤ i ∧ ∃ cur, wx.heap[i]? = some (.cells cur 5 (0, 0)) := by
    rintro i ⟨k, hk, hi⟩
    have hk := hR k hk
    rcases hk.cases with ⟨ha, _, _⟩ | ⟨g, cur, ha, hB, hg, hh, _⟩
    · rw [ha] at hi; simp [blk] at hi
    · rw [ha] at hi; simp [blk] at hi; subst hi; exact ⟨hB, cur, hh⟩
  refine ⟨rfl, fun hx => ((Fr.ofExt (fun i => w3.heap.size ≤ i) hx).trans (hF.mono (fun i _ t => (hrb i t).1)) (fun _ _ t => t)).toExt (fun _ t => t), fun i cs hi => ?_⟩
  rw [hF.block i (heap_lt hi) ?_]
  · exact hi
  · intro t
    obtain ⟨_, cur, hh⟩ := hrb i t
    rw [hi] at hh
    cases hh
def LpPost (w : World) (e : Ending) (w' : World) : Prop := e = .returned (.bool true) ∧ Ext w w'
theorem LetLent.inW {l l' : Let} {w w0 : World} (h : LetLent l l' w) (hin : l.inW w0) : l'.inW w := by
  obtain ⟨gw, hgw, hIw⟩ := h.w1
  obtain ⟨ge, hge, hIe⟩ := h.n1
  obtain ⟨B, hLO⟩ := h.n2
  obtain ⟨gm, hgm, hRm⟩ := h.m1
  obtain ⟨gu, hgu, hRu⟩ := h.u1
  obtain ⟨gb, hgb, hRb⟩ := h.b1
  rw [List.map_append] at hRm hRu hRb
  refine ⟨by rw [hgw, h.w2.1]; exact idsIn_pre hIw, by rw [hge]; exact entsIn_pre hIe, by rw [hgm, h.m2.1]; exact hRm.pre, by rw [hgu, h.u2.1]; exact hRu.pre, by rw [hgb, h.b2.1]; exact hRb.pre, by rw [h.w2.1]; exact hin.w2, by rw [hLO.1]; exact hin.e2, by rw [h.m2.1]; exact hin.m2, by rw [h.u2.1]; exact hin.u2, by rw [h.b2.1]; exact hin.b2, by rw [h.u2.1]; exact hin.u3⟩
set_option maxRecDepth 100000 in
set_option maxHeartbeats 4000000 in
theorem letterPuts_any (l : Let) (w : World) (hin : l.inW w) (hb : ∀ x ∈ l.ents, x.bs.length ≤ 140737488355328) (hg : ErrT w) : Calls Tryz.prog 3 #[l.v] w (LpPost w) := by
  have HLO := Lib.hid (fun w' (h : Ext w w') => letterOf_le l w' (hin.ext h) hb)
  have HI := Lib.hid hin
  have HGE := Lib.hid hg
  have HG0 := Lib.hid (heap_alloc_new w (.cells l.arr 34))
  have HE0 := Lib.hid ((Ext.refl w).alloc (.cells l.arr 34))
  have hV : l.v = .agg l.arr := rfl
  rw [hV]
  clear hin hb hg hV
  go_enter Tryz.func3, Tryz.ntmps3
  go_wp2_with (refine wpList_load_let rfl _ rfl w.heap.size l rfl HG0.out ?_)
  refine (HLO.out _ HE0.out).mono ?_
  rintro e w1 ⟨n, rfl, hn, hE1⟩
  have HG1 := Lib.hid (hE1.blk HG0.out)
  have HE1 := Lib.hid (HE0.out.trans hE1)
  clear hE1
  by_cases h4 : n ≤ 4000
  case neg =>
    have d4 : decide (4000 < n) = true := decide_eq_true (by omega)
    clear hn
    go_wp2_with fail
    refine (awake_any w1 (HGE.out.ext HE1.out)).mono ?_
    rintro e w2 ⟨rfl, hE2⟩
    go_wp2_with fail
    go_ret
    exact ⟨rfl, HE1.out.trans hE2⟩
  have d4 : decide (4000 < n) = false := decide_eq_false (by omega)
  have HS := Lib.hid (hn h4)
  clear hn h4
  go_wp2_with (refine wpList_load_let rfl _ rfl w.heap.size l rfl HG1.out ?_)
  refine (lentLet_any l w1 (HI.out.ext HE1.out) HS.out.s1 HS.out.s2 HS.out.s3 HS.out.s4 HS.out.s5 HS.out.s6).mono ?_
  rintro e w2 ⟨l', rfl, hL, hE2⟩
  have hp := lent_put hL
  have hrr := lent_right hL
  have HI' := Lib.hid (hL.inW HI.out)
  have HE2 := Lib.hid (HE1.out.trans hE2)
  have HG2 := Lib.hid (hE2.blk HG1.out)
  have HLL := Lib.hid hL
  have hlt2 := heap_lt HG2.out
  clear hE2 hL
  go_wp2_with (first
    | refine wpList_load_let rfl _ rfl w2.heap.size l' rfl HH3.out ?_
    | (refine wpList_store_all rfl _ _ rfl rfl w2.heap.size l' Let.z.arr rfl rfl (heap_alloc_new w2 _) rfl ?_; intro w3 hh3 hf3; have HH3 := Lib.hid hh3; have HE3 := Lib.hid (((Fr.ofExt (isB w2.heap.size) ((Ext.refl w2).alloc (.cells Let.z.arr 34))).trans hf3 (fun _ _ h => h)).toExt (fun i hi => by unfold isB at hi; omega)); clear hh3 hf3))
  have HB3 := Lib.hid (HE3.out.blk HG2.out)
  have HI3 := Lib.hid (HI'.out.ext HE3.out)
  have HT3 := Lib.hid ((HGE.out.ext HE2.out).ext HE3.out)
  have hlt3 := HE3.out.sz
  refine (put_any l' w3 HI3.out HT3.out).mono ?_
  rintro e w4 ⟨A1, c1, rfl, hO1, hE4⟩
  rw [hp.1] at hO1 ⊢
  rw [hp.2]
  have HO1 := Lib.hid hO1
  have HE4 := Lib.hid hE4
  have HH4 := Lib.hid (hE4.blk HH3.out)
  have HB4 := Lib.hid (hE4.blk HB3.out)
  have hlt4 := hE4.sz
  clear hE4 hO1
  go_wp2_with (first
    | refine wpList_load_let rfl _ rfl w2.heap.size l' rfl HH4.out ?_
    | refine wpList_load_let rfl _ rfl w.heap.size l rfl HB4.out ?_)
  refine (rput_any l w4 (((HI.out.ext HE2.out).ext HE3.out).ext HE4.out)).mono ?_
  rintro e w5 ⟨A2, c2, rfl, hO2, hE5⟩
  have HO2 := Lib.hid hO2
  have HE5 := Lib.hid (HE4.out.trans hE5)
  have HO15 := Lib.hid (HO1.out.ext hE5)
  have HH5 := Lib.hid (hE5.blk HH4.out)
  have HB5 := Lib.hid (hE5.blk HB4.out)
  have hlt5 := hE5.sz
  clear hE5 hO2
  go_wp2_with (first
    | refine wpList_load_let rfl _ rfl w2.heap.size l' rfl HH5.out ?_
    | refine wpList_load_let rfl _ rfl w.heap.size l rfl HB5.out ?_)
  refine (put_any l' w5 (HI3.out.ext HE5.out) (HT3.out.ext HE5.out)).mono ?_
  rintro e w6 ⟨A3, c3, rfl, hO3, hE6⟩
  rw [hp.1] at hO3 ⊢
  rw [hp.2]
  have HT := Lib.hid (⟨HO15.out.ext hE6, HO2.out.ext hE6, hO3⟩ : RowsT w3.heap.size w4.heap.size w5.heap.size (putX l) A1 c1 A2 c2 A3 c3 w6)
  have HE6 := Lib.hid (HE5.out.trans hE6)
  clear hE6 hO3
  go_wp2_with (fail)
  have HE23 := Lib.hid (HE2.out.trans HE3.out)
  have HR1 := Lib.hid (fun wx (hC : Ext w3 wx) => Right_any l' wx (HI3.out.ext hC) (HT3.out.ext hC))
  rw [hrr] at HR1
  have hlen : (putX l).length ≤ 1000000 := putX_len l (fun x hx => HI.out.u3 x hx)
  have HS0 := Lib.hid (fun wx (hT : RowsT w3.heap.size w4.heap.size w5.heap.size (putX l) A1 c1 A2 c2 A3 c3 wx) => sameBytes_any A1 A2 c1 c2 (putX l) (putX l) wx hT.1.rd hT.2.1.rd (by unfold maxLen; omega) (by unfold maxLen; omega))
  rw [show decide (putX l = putX l) = true from decide_eq_true rfl] at HS0
  have HK := Lib.hid (fun wx (hC : Ext w3 wx) => keptLet_true l l' wx ((HI.out.ext HE23.out).ext hC) HS.out ((HLL.out.ext HE3.out).ext hC))
  have HDis : Hid (Dis 2 (fun k => if k = 0 then A1 else A3)) := Lib.hid (by
    have g1 : ∀ i, blk A1 i → i < w4.heap.size := fun i hi => HO1.out.lt hi |>.2
    have g3 : ∀ i, blk A3 i → w5.heap.size ≤ i := fun i hi => HT.out.2.2.lt hi |>.1
    have g5 := hlt5
    intro k j hk hj hkj i hi
    rcases (by omega : (k = 0 ∧ j = 1) ∨ (k = 1 ∧ j = 0)) with ⟨rfl, rfl⟩ | ⟨rfl, rfl⟩
    · intro hi2
      have a := g1 i hi
      have b := g3 i hi2
      omega
    · intro hi2
      have a := g1 i hi2
      have b := g3 i hi
      omega)
  have HAp := Lib.hid (apart_two (w3 := w3) (w4 := w4) (w5 := w5) (X := putX l) (A1 := A1) (c1 := c1) (A2 := A2) (c2 := c2) (A3 := A3) (c3 := c3) hlen hlt4 hlt5)
  refine Stab.wp_region_lex (LeP w3) (Ext w3) (RowsT w3.heap.size w4.heap.size w5.heap.size (putX l) A1 c1 A2 c2 A3 c3) (by kernel_rfl) (by kernel_rfl) (fun _ _ h => LeP.ofExt h) (fun _ _ h k => k.1 h) (fun _ _ h k => h.ext k) (HE6.out.drew) (RowsT.ext HT.out (Ext.refl _).drew) ?_
  simp only [Stab.zipL, Nat.reduceAdd]
  (refine Stab.wpX_val rfl rfl ?_; apply Exists.intro; refine ⟨fun wx hC _ => yields_load_let _ rfl w2.heap.size l' rfl (hC.blk HH3.out), ?_⟩; simp only [Act.put, List.setIfInBounds_toArray, List.set_cons_zero, List.set_cons_succ])
  (refine Stab.wpX_call1 rfl rfl (fun _ _ h k => h.ext k) ?_; apply Exists.intro; refine ⟨fun wx hC hT _ => ?_, ?_⟩; (go_simp; refine ⟨rfl, ?_⟩; refine (HR1.out _ hC).mono ?_; rintro ev w9 ⟨rfl, hb9⟩; exact ⟨LeP.ofExt hb9, rfl, hT.ext hb9⟩); simp only [Act.put, List.setIfInBounds_toArray, List.set_cons_zero, List.set_cons_succ])
  (refine Stab.wpX_val rfl rfl ?_; apply Exists.intro; refine ⟨fun wx hC _ => yields_load_let _ rfl w.heap.size l rfl (hC.blk HB3.out), ?_⟩; simp only [Act.put, List.setIfInBounds_toArray, List.set_cons_zero, List.set_cons_succ])
  (refine Stab.wpX_call1 rfl rfl (fun _ _ h k => h.ext k) ?_; apply Exists.intro; refine ⟨fun wx hC hT _ => ?_, ?_⟩; (go_simp; refine ⟨rfl, ?_⟩; refine (rrightL_any l _ ((HI.out.ext HE23.out).ext hC)).mono ?_; rintro ev w9 ⟨rfl, hb9⟩; exact ⟨LeP.ofExt hb9, rfl, hT.ext hb9⟩); simp only [Act.put, List.setIfInBounds_toArray, List.set_cons_zero, List.set_cons_succ])
  iterate 9 (refine Stab.wpX_val rfl rfl ?_; apply Exists.intro; refine ⟨fun wx hC _ => ?_, ?_⟩; (go_simp; (try simp (disch := omega) only [↓IntWalk.iteOmega, Stab.yieldsUpon_value, IntWalk.i64_in]); exact ⟨Ext.refl _, rfl⟩); simp only [Act.put, List.setIfInBounds_toArray, List.set_cons_zero, List.set_cons_succ])
  (refine Stab.wpX_call1 rfl rfl (fun _ _ h k => h.ext k) ?_; apply Exists.intro; refine ⟨fun wx hC hT _ => ?_, ?_⟩; (go_simp; refine ⟨rfl, ?_⟩; refine (HS0.out _ hT).mono ?_; rintro ev w9 ⟨rfl, hb9⟩; exact ⟨LeP.ofExt hb9, rfl, hT.ext hb9⟩); simp only [Act.put, List.setIfInBounds_toArray, List.set_cons_zero, List.set_cons_succ])
  iterate 2 (refine Stab.wpX_val rfl rfl ?_; apply Exists.intro; refine ⟨fun wx hC _ => ?_, ?_⟩; (go_simp; (try simp (disch := omega) only [↓IntWalk.iteOmega, Stab.yieldsUpon_value, IntWalk.i64_in]); exact ⟨Ext.refl _, rfl⟩); simp only [Act.put, List.setIfInBounds_toArray, List.set_cons_zero, List.set_cons_succ])
  (refine Stab.wpX_val rfl rfl ?_; apply Exists.intro; refine ⟨fun wx hC _ => yields_load_let _ rfl w2.heap.size l' rfl (hC.blk HH3.out), ?_⟩; simp only [Act.put, List.setIfInBounds_toArray, List.set_cons_zero, List.set_cons_succ])
  (refine Stab.wpX_val rfl rfl ?_; apply Exists.intro; refine ⟨fun wx hC _ => yields_load_let _ rfl w.heap.size l rfl (hC.blk HB3.out), ?_⟩; simp only [Act.put, List.setIfInBounds_toArray, List.set_cons_zero, List.set_cons_succ])
  (refine Stab.wpX_call1 rfl rfl (fun _ _ h k => h.ext k) ?_; apply Exists.intro; refine ⟨fun wx hC hT _ => ?_, ?_⟩; (go_simp; refine ⟨rfl, ?_⟩; refine (HK.out _ hC).mono ?_; rintro ev w9 ⟨rfl, hb9⟩; exact ⟨LeP.ofExt hb9, rfl, hT.ext hb9⟩); simp only [Act.put, List.setIfInBounds_toArray, List.set_cons_zero, List.set_cons_succ])
  iterate 4 (refine Stab.wpX_val rfl rfl ?_; apply Exists.intro; refine ⟨fun wx hC _ => ?_, ?_⟩; (go_simp; (try simp (disch := omega) only [↓IntWalk.iteOmega, Stab.yieldsUpon_value, IntWalk.i64_in]); exact ⟨Ext.refl _, rfl⟩); simp only [Act.put, List.setIfInBounds_toArray, List.set_cons_zero, List.set_cons_succ])
  refine Stab.wpX_new (fun u W => ∃ b, u = .slice (some ⟨b, 0, none⟩) 2 2 ∧ W.heap[b]? = some (.cells #[.slice A1 (putX l).length c1, .slice A3 (putX l).length c3] 32)) rfl rfl (by kernel_rfl) (fun u W W' ⟨b, h1, h2⟩ hle => ⟨b, h1, hle.2 b _ h2⟩) (fun _ _ h k => RowsT.ext h k) ?_ ?_
  · intro wx hC _
    go_simp
    exact ⟨(Ext.refl _).alloc _, (Array.getElem?_eq_some_iff.1 (heap_alloc_new wx _)).2⟩
  rintro ul ⟨_, _, ⟨lb, rfl, _⟩, _⟩
  simp only [Act.put, List.setIfInBounds_toArray, List.set_cons_zero, List.set_cons_succ]
  refine Stab.wpX_call (fun u W => u = .bool true) (fun _ _ => True) rfl rfl (fun _ _ _ h _ => h) (fun _ _ _ _ _ => trivial) ?_ ?_
  · intro wx hC hT hF
    obtain ⟨lb', hl1, hl2⟩ := (hF 23 (by kernel_rfl)).2 rfl
    obtain rfl : lb = lb' := by simpa using hl1
    go_simp
    refine ⟨rfl, ?_⟩
    refine (HAp.out lb wx hC hT HDis.out hl2).mono ?_
    rintro ev w9 ⟨rfl, hE9⟩
    exact ⟨hE9, rfl⟩
  rintro uj ⟨_, _, rfl, _⟩
  simp only [Act.put, List.setIfInBounds_toArray, List.set_cons_zero, List.set_cons_succ]
  iterate 2 (refine Stab.wpX_val rfl rfl ?_; apply Exists.intro; refine ⟨fun wx hC _ => ?_, ?_⟩; (go_simp; (try simp (disch := omega) only [↓IntWalk.iteOmega, Stab.yieldsUpon_value, IntWalk.i64_in]); exact ⟨Ext.refl _, rfl⟩); simp only [Act.put, List.setIfInBounds_toArray, List.set_cons_zero, List.set_cons_succ])
  (refine Stab.wpX_val rfl rfl ?_; apply Exists.intro; refine ⟨fun wx hC _ => yields_load_let _ rfl w2.heap.size l' rfl (hC.blk HH3.out), ?_⟩; simp only [Act.put, List.setIfInBounds_toArray, List.set_cons_zero, List.set_cons_succ])
  (refine Stab.wpX_val rfl rfl ?_; apply Exists.intro; refine ⟨fun wx hC _ => yields_load_let _ rfl w.heap.size l rfl (hC.blk HB3.out), ?_⟩; simp only [Act.put, List.setIfInBounds_toArray, List.set_cons_zero, List.set_cons_succ])
  (refine Stab.wpX_call1 rfl rfl (fun _ _ _ _ => trivial) ?_; apply Exists.intro; refine ⟨fun wx hC hT _ => ?_, ?_⟩; (go_simp; refine ⟨rfl, ?_⟩; refine (HK.out _ hC).mono ?_; rintro ev w9 ⟨rfl, hb9⟩; exact ⟨LeP.ofExt hb9, rfl⟩); simp only [Act.put, List.setIfInBounds_toArray, List.set_cons_zero, List.set_cons_succ])
  iterate 2 (refine Stab.wpX_val rfl rfl ?_; apply Exists.intro; refine ⟨fun wx hC _ => ?_, ?_⟩; (go_simp; (try simp (disch := omega) only [↓IntWalk.iteOmega, Stab.yieldsUpon_value, IntWalk.i64_in]); exact ⟨Ext.refl _, rfl⟩); simp only [Act.put, List.setIfInBounds_toArray, List.set_cons_zero, List.set_cons_succ])
  (refine Stab.wpX_call1 rfl rfl (fun _ _ _ _ => trivial) ?_; apply Exists.intro; refine ⟨fun wx hC hT _ => ?_, ?_⟩; (go_simp; refine ⟨rfl, ?_⟩; refine (awake_any _ (HT3.out.ext hC)).mono ?_; rintro ev w9 ⟨rfl, hb9⟩; exact ⟨LeP.ofExt hb9, rfl⟩); simp only [Act.put, List.setIfInBounds_toArray, List.set_cons_zero, List.set_cons_succ])
  iterate 2 (refine Stab.wpX_val rfl rfl ?_; apply Exists.intro; refine ⟨fun wx hC _ => ?_, ?_⟩; (go_simp; (try simp (disch := omega) only [↓IntWalk.iteOmega, Stab.yieldsUpon_value, IntWalk.i64_in]); exact ⟨Ext.refl _, rfl⟩); simp only [Act.put, List.setIfInBounds_toArray, List.set_cons_zero, List.set_cons_succ])
  refine Stab.wpX_end fun w8 hC8 _ hF8 => ?_
  go_wp2_with fail
  all_goals (go_ret; exact ⟨rfl, HE23.out.trans hC8⟩)
end Go.Proofs.YtcapapnhlkmeaaaGreatDoor
