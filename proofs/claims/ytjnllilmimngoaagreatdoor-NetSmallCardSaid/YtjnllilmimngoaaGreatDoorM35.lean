/-
  OverLetters: what was lent is written over.
  Both nets in memory; what the calls on them leave.
  same: both nets have the same.
-/
import Derived.Test.YtjnllilmimngoaaGreatDoorM34
import Derived.Test.YtjnllilmimngoaaGreatDoorM33
import Derived.Test.YtjnllilmimngoaaGreatDoorM20
namespace Go.Proofs.YtjnllilmimngoaaGreatDoor
open Go.RowKit

def isB2 (a b : Nat) : Nat → Prop := fun i => i = a ∨ i = b
set_option maxRecDepth 100000 in
set_option maxHeartbeats 1000000 in
theorem overSnap_lent (a0 a1 a2 a4 : Int) (gm mc gu uc : Nat) (w : World) (hm : HasRow 1 w gm mc) (hu : HasRow 1 w gu uc) (h1 : 12 ≤ mc) (h2 : 12 ≤ uc) :
    Calls Tryz.prog 117 #[.agg #[.int .i64 a0, .int .i64 a1, .int .i64 a2, .slice (some ⟨gm, 0, none⟩) 0 mc, .int .i64 a4, .slice (some ⟨gu, 0, none⟩) 0 uc]] w fun e w' => e = .returned (.tuple #[]) ∧ Fr (isB2 gm gu) w w' ∧ Sh w w' := by
  have hE := (Ext.refl w).alloc (.cells #[.int .i64 a0, .int .i64 a1, .int .i64 a2, .slice (some ⟨gm, 0, none⟩) 0 mc, .int .i64 a4, .slice (some ⟨gu, 0, none⟩) 0 uc] 32)
  have hG := heap_alloc_new w (.cells #[.int .i64 a0, .int .i64 a1, .int .i64 a2, .slice (some ⟨gm, 0, none⟩) 0 mc, .int .i64 a4, .slice (some ⟨gu, 0, none⟩) 0 uc] 32)
  have H1 := Lib.hid (overInts_any gm 0 mc _ (hm.ext hE) (by omega) (by omega))
  have HE := Lib.hid hE
  have HG := Lib.hid hG
  have HU := Lib.hid (hu.ext hE)
  have hml := hm.lt
  clear hE hG
  go_enter Tryz.func117, Tryz.ntmps117
  go_wp2_with fail
  refine (H1.out).mono ?_
  rintro ev w1 ⟨rfl, hF1, hS1⟩
  have d5 : w1.cell? ⟨w.heap.size, 5, none⟩ = some (.slice (some ⟨gu, 0, none⟩) 0 uc) := by
    rw [cell_of_heap ((hF1.block _ (heap_lt HG.out) (by unfold isB; omega)).trans HG.out)]
    rfl
  have H2 := Lib.hid (overLimbs_any gu 0 uc w1 (HU.out.sh hS1) (by omega) (by omega))
  have HF1 := Lib.hid hF1
  have HS1 := Lib.hid hS1
  clear hF1 hS1
  go_wp2_with fail
  refine (H2.out).mono ?_
  rintro ev w2 ⟨rfl, hF2, hS2⟩
  go_wp2_with fail
  go_end0
  exact ⟨rfl, ((Fr.ofExt _ HE.out).trans HF1.out (fun i _ t => .inl t)).trans hF2 (fun i _ t => .inr t), (Sh.ext HE.out).trans (HS1.out.trans hS2)⟩
theorem infoSnapO : (Tryz.prog.info? 32).map (·.size) = some 6 := by kernel_rfl
set_option maxRecDepth 100000 in
set_option maxHeartbeats 2000000 in
theorem overLet_lent (B : Nat) (l : Let) (w : World) (h : LentHas B l w) (hl : l.light) :
    Calls Tryz.prog 67 #[l.v] w fun e w' => e = .returned (.tuple #[]) ∧ Fr (lentRows l) w w' ∧ Sh w w' := by
  obtain ⟨gw, hw1, hw2, hw3, hw4⟩ := h.w1
  obtain ⟨ge, he1, he2, he3, he4⟩ := h.e1
  obtain ⟨gm, hm1, hm2, hm3, hm4⟩ := h.m1
  obtain ⟨gu, hu1, hu2, hu3, hu4⟩ := h.u1
  obtain ⟨gb, hb1, hb2, hb3, hb4⟩ := h.b1
  have hV : l.v = .agg l.arr := rfl
  rw [hV]
  have hE := (Ext.refl w).alloc (.cells l.arr 35)
  have hG := heap_alloc_new w (.cells l.arr 35)
  have r7 : (w.alloc (.cells l.arr 35)).cell? ⟨w.heap.size, 11, none⟩ = some (.slice (some ⟨gw, 0, none⟩) 0 l.wc) := by rw [cell_of_heap hG]; simp [Let.arr, hl.w, hw1]
  have H1 := Lib.hid (overIdents_any gw l.wc _ (hw3.ext hE) hw2)
  have HE := Lib.hid hE
  have HG := Lib.hid hG
  have HLI := Lib.hid hl
  have lw := hw3.lt
  have le := he3.lt
  have lm := hm3.lt
  have lu := hu3.lt
  have lb := hb3.lt
  have A1 := Lib.hid (And.intro hw1 (And.intro he1 (And.intro hm1 (And.intro hu1 hb1))))
  have R2 := Lib.hid (And.intro (he3.ext hE) (And.intro (hm3.ext hE) (And.intro (hu3.ext hE) (hb3.ext hE))))
  clear hE hG hV hl h hw1 he1 hm1 hu1 hb1 hw3 he3 hm3 hu3 hb3
  go_enter Tryz.func67, Tryz.ntmps67
  go_wp2_with fail
  refine (H1.out).mono ?_
  rintro ev w1 ⟨rfl, hF1, hS1⟩
  have g1 := (hF1.block _ (heap_lt HG.out) (by unfold isB; omega)).trans HG.out
  have r10 : w1.cell? ⟨w.heap.size, 14, none⟩ = some (.slice (some ⟨ge, 0, none⟩) 0 l.ec) := by rw [cell_of_heap g1]; simp [Let.arr, HLI.out.e, A1.out.2.1]
  have H2 := Lib.hid (overEntries_any ge l.ec w1 (R2.out.1.sh hS1) he2)
  have HF1 := Lib.hid hF1
  have HS1 := Lib.hid hS1
  have HG1 := Lib.hid g1
  clear hF1 hS1 g1 r7
  go_wp2_with fail
  refine (H2.out).mono ?_
  rintro ev w2 ⟨rfl, hF2, hS2⟩
  have g2 := (hF2.block _ (heap_lt HG1.out) (by unfold isB; omega)).trans HG1.out
  have hrg : World.rangeAt w2 w.heap.size 15 [.int .i64 l.slast.i, .int .i64 l.slast.t, .int .i64 l.slast.k, .slice (some ⟨gm, 0, none⟩) 0 l.mc, .int .i64 l.size, .slice (some ⟨gu, 0, none⟩) 0 l.uc] := fun j v hv => by
    have hj := (List.getElem?_eq_some_iff.1 hv).1
    simp only [List.length_cons, List.length_nil] at hj
    rw [cell_of_heap g2]
    rcases (by omega : j = 0 ∨ j = 1 ∨ j = 2 ∨ j = 3 ∨ j = 4 ∨ j = 5) with rfl | rfl | rfl | rfl | rfl | rfl
    · simpa [Let.arr] using hv
    · simpa [Let.arr] using hv
    · simpa [Let.arr] using hv
    · simpa [Let.arr, HLI.out.m, A1.out.2.2.1] using hv
    · simpa [Let.arr] using hv
    · simpa [Let.arr, HLI.out.u, A1.out.2.2.2.1] using hv
  have HS2 := Lib.hid (HS1.out.trans hS2)
  have H3 := Lib.hid (overSnap_lent l.slast.i l.slast.t l.slast.k l.size gm l.mc gu l.uc w2 (R2.out.2.1.sh HS2.out) (R2.out.2.2.1.sh HS2.out) hm2 hu2)
  have HF2 := Lib.hid hF2
  have HG2 := Lib.hid g2
  clear hF2 hS2 g2 r10
  go_wp2_with (refine wpList_load_mid rfl 32 _ rfl w.heap.size 15 (by simp [Act.eval, Act.put]) _ _ hrg Tryz.underlying32 rfl infoSnapO ?_)
  refine (H3.out).mono ?_
  rintro ev w3 ⟨rfl, hF3, hS3⟩
  have g3 := (hF3.block _ (heap_lt HG2.out) (by unfold isB2; omega)).trans HG2.out
  have r13 : w3.cell? ⟨w.heap.size, 22, none⟩ = some (.slice (some ⟨gb, 0, none⟩) 0 l.bc) := by rw [cell_of_heap g3]; simp [Let.arr, HLI.out.b, A1.out.2.2.2.2]
  have HS3 := Lib.hid (HS2.out.trans hS3)
  have H4 := Lib.hid (overBytes_any gb 0 l.bc w3 (R2.out.2.2.2.sh HS3.out) (by omega) (by omega))
  have HF3 := Lib.hid hF3
  clear hF3 hS3 g3 hrg
  go_wp2_with fail
  refine (H4.out).mono ?_
  rintro ev w4 ⟨rfl, hF4, hS4⟩
  go_wp2_with fail
  go_end0
  refine ⟨rfl, ((((Fr.ofExt _ HE.out).trans HF1.out (fun i _ t => ?_)).trans HF2.out (fun i _ t => ?_)).trans HF3.out (fun i _ t => ?_)).trans hF4 (fun i _ t => ?_), (Sh.ext HE.out).trans (HS3.out.trans hS4)⟩
  · have t2 : i = gw := t
    exact .inl (by rw [A1.out.1, t2]; rfl)
  · have t2 : i = ge := t
    exact .inr (.inl (by rw [A1.out.2.1, t2]; rfl))
  · rcases t with t2 | t2
    · exact .inr (.inr (.inl (by rw [A1.out.2.2.1, t2]; rfl)))
    · exact .inr (.inr (.inr (.inl (by rw [A1.out.2.2.2.1, t2]; rfl))))
  · have t2 : i = gb := t
    exact .inr (.inr (.inr (.inr (by rw [A1.out.2.2.2.2, t2]; rfl))))
def OlRel1 (g M n : Nat) (w : World) (i : Value) (wr : World) : Prop := ∃ k : Nat, k ≤ n ∧ i = .int .i64 k ∧ Fr (fun i => g + 1 ≤ i ∧ i < M) w wr ∧ Sh w wr
def OlRel2 (g M n : Nat) (w : World) (i : Value) (wr : World) : Prop := ∃ k : Nat, k ≤ n + 12 ∧ i = .int .i64 k ∧ HasRow 23 wr g (n + 12) ∧ Fr (fun i => g ≤ i ∧ i < M) w wr
set_option maxRecDepth 100000 in
set_option maxHeartbeats 4000000 in
theorem overLets_lent (g : Nat) (ls ls' : List Let) (w : World) (hO : OwnW 23 w g 35 (some ⟨g, 0, none⟩) (ls.length + 12) (ls.length + 12) (flat (ls' ++ mkLs 12))) (hn : ls'.length = ls.length) (hl : ∀ l ∈ ls', l.light) (hh : ∀ l ∈ ls', LentHas (g + 1) l w) (w0 : World) (hh0 : ∀ l ∈ ls', LentHas (g + 1) l w0) (hglt : g < w0.heap.size) (hb : ls.length ≤ 10000) :
    Calls Tryz.prog 35 #[.slice (some ⟨g, 0, none⟩) ls.length (ls.length + 12)] w fun e w' => e = .returned (.tuple #[]) ∧ Fr (fun i => g ≤ i ∧ i < w0.heap.size) w w' := by
  have HO := Lib.hid hO
  have HN := Lib.hid hn
  have HLI := Lib.hid hl
  have HHH := Lib.hid hh
  have HH0 := Lib.hid hh0
  clear hO hn hl hh hh0
  go_enter Tryz.func35, Tryz.ntmps35
  go_wp2_with fail
  go_loopw [2] (fun i wr => OlRel1 g w0.heap.size ls.length w i wr) (fun i _ => ls.length - (intOf i).toNat)
  case atStart => exact ⟨0, Nat.zero_le _, rfl, Fr.refl _ _, Sh.refl _⟩
  case round =>
    obtain ⟨k, hk, rfl, hF, hS⟩ := hrel
    have HF := Lib.hid hF
    have HS := Lib.hid hS
    clear hF hS
    by_cases hlt : k < ls.length
    · obtain ⟨l, hx⟩ : ∃ l, ls'[k]? = some l := ⟨_, List.getElem?_eq_getElem (by rw [HN.out]; exact hlt)⟩
      have hmem := List.mem_of_getElem? hx
      have hO2 := HO.out.fr HF.out (fun i hi t => by
        have : g = i := by simpa [blk] using hi
        have t2 : g + 1 ≤ i := t.1
        omega)
      have hr : World.rangeAt wr g (k * 23) l.arr.toList := fun j v hv => by
        have h9 := hO2.rd.at0 (flat_get (ls := ls' ++ mkLs 12) (by rw [List.getElem?_append_left (by rw [HN.out]; exact hlt)]; exact hx) hv)
        exact h9
      have HV := Lib.hid (overLet_lent (g + 1) l wr ((HHH.out l hmem).sh HS.out) (HLI.out l hmem))
      have HHL := Lib.hid (HH0.out l hmem)
      clear hx hmem hO2
      go_wp2_with (refine wpList_load_letAt rfl _ rfl g (k * 23) l (by simp [Act.eval, Act.put]) hr ?_)
      refine (HV.out).mono ?_
      rintro ev w1 ⟨rfl, hF1, hS1⟩
      have HF1 := Lib.hid (HF.out.trans hF1 (fun i hi t => by
        obtain ⟨g1, a1, _, b1, c1⟩ := HHL.out.w1
        obtain ⟨g2, a2, _, b2, c2⟩ := HHL.out.e1
        obtain ⟨g3, a3, _, b3, c3⟩ := HHL.out.m1
        obtain ⟨g4, a4, _, b4, c4⟩ := HHL.out.u1
        obtain ⟨g5, a5, _, b5, c5⟩ := HHL.out.b1
        have q1 := b1.lt
        have q2 := b2.lt
        have q3 := b3.lt
        have q4 := b4.lt
        have q5 := b5.lt
        unfold lentRows at t
        rw [a1, a2, a3, a4, a5] at t
        simp only [blk, Option.map_some, Option.some.injEq] at t
        show g + 1 ≤ i ∧ i < w0.heap.size
        omega))
      have HS1 := Lib.hid (HS.out.trans hS1)
      clear hF1 hS1
      go_wp2_with fail
      go_roundw
      case rel => exact ⟨k + 1, by omega, by go_num, HF1.out, HS1.out⟩
      case measure => simp [intOf]; omega
    · obtain rfl : k = ls.length := by omega
      have hcd : 0 ≤ (ls.length : Int) + 12 ∧ (ls.length : Int) + 12 ≤ (ls.length : Int) + 12 := by omega
      have HR0 := Lib.hid ((HasRow.ofW HO.out).sh HS.out)
      go_wp2
      go_loopw [4] (fun i wr => OlRel2 g w0.heap.size ls.length w i wr) (fun i _ => ls.length + 12 - (intOf i).toNat)
      case atStart => exact ⟨0, Nat.zero_le _, rfl, HR0.out, HF.out.mono (fun i _ t => ⟨by have := t.1; omega, t.2⟩)⟩
      case round =>
        clear HF HS HR0
        obtain ⟨k, hk3, rfl, hr, hf⟩ := hrel
        by_cases hlt3 : k < ls.length + 12
        · have HR := Lib.hid hr
          have HF := Lib.hid hf
          clear hr hf
          go_wp2_with fail
          refine (markLetterK 2 k _ (by omega) (by omega)).mono ?_
          rintro ev w5 ⟨rfl, hE5⟩
          have HR5 := Lib.hid (HR.out.ext hE5)
          have HF5 := Lib.hid (HF.out.then hE5)
          clear hE5
          obtain ⟨cur, bt, hg5, hs5⟩ := HR5.out
          go_wp2_with (refine wpList_store_at rfl 35 bt _ _ rfl rfl g k 23 cur (mkLetK 2 k).arr (by simp [Act.eval]) rfl hg5 infoLet (by omega) (by simp [Let.arr]) (mkLetK 2 k).one ?_; intro w6 hS6; have HS6 := Lib.hid hS6; clear hS6)
          go_roundw
          case rel => exact ⟨k + 1, by omega, by go_num, HR5.out.stored HS6.out (by omega) (arr_len _), HF5.out.trans HS6.out.1 (fun i _ t => ⟨by have t2 : i = g := t; omega, by have t2 : i = g := t; omega⟩)⟩
          case measure => simp [intOf]; omega
        · obtain rfl : k = ls.length + 12 := by omega
          go_wp2
          go_end0
          exact ⟨rfl, hf⟩
end Go.Proofs.YtjnllilmimngoaaGreatDoor
namespace Go.Proofs.YtjnllilmimngoaaGreatDoor
open Go.RowKit

/-- Both nets, beside the blocks X. -/
def JAt (X : Nat → Prop) (B nb bb rb : Nat) (s : NetS) (r : RefS) (w : World) : Prop :=
  ∃ A c Ar cr Ac cc, NetAt w B nb bb A c s ∧ RefAt w B rb Ar cr Ac cc r ∧ (∀ i, mutN nb bb A i → ¬ mutR rb Ar Ac i) ∧ (∀ i, mutN nb bb A i → ¬ X i) ∧ (∀ i, mutR rb Ar Ac i → ¬ X i)
def JF (X : Nat → Prop) (B : Nat) : Nat → Prop := fun i => B ≤ i ∧ ¬ X i
section
variable {X : Nat → Prop} {B nb bb rb : Nat} {s s' : NetS} {r r' : RefS} {w w' : World}
theorem JAt.ext (h : JAt X B nb bb rb s r w) (he : Ext w w') : JAt X B nb bb rb s r w' := by
  obtain ⟨A, c, Ar, cr, Ac, cc, h1, h2, h3, h4, h5⟩ := h
  exact ⟨A, c, Ar, cr, Ac, cc, h1.ext he, h2.ext he, h3, h4, h5⟩
theorem JAt.fr {S : Nat → Prop} (h : JAt X B nb bb rb s r w) (hf : Fr S w w') (hS : ∀ i, S i → X i) (hl : ∀ u ∈ s.us, u.light) : JAt X B nb bb rb s r w' := by
  obtain ⟨A, c, Ar, cr, Ac, cc, h1, h2, h3, h4, h5⟩ := h
  exact ⟨A, c, Ar, cr, Ac, cc, h1.fr hf (fun i hi t => h4 i t (hS i hi)) (fun u hu => (hl u hu).off _), h2.fr hf (fun i hi t => h5 i hi (hS i t)), h3, h4, h5⟩
theorem JAt.sub {Y : Nat → Prop} (h : JAt X B nb bb rb s r w) (hY : ∀ i, i < w.heap.size → Y i → X i) : JAt Y B nb bb rb s r w := by
  obtain ⟨A, c, Ar, cr, Ac, cc, h1, h2, h3, h4, h5⟩ := h
  exact ⟨A, c, Ar, cr, Ac, cc, h1, h2, h3, fun i hi t => h4 i hi (hY i (h1.mut_lt hi).2 t), fun i hi t => h5 i hi (hY i (h2.mut_lt hi).2 t)⟩
/-- New blocks may be put beside. -/
theorem JAt.grow {Y : Nat → Prop} (h : JAt X B nb bb rb s r w) (he : Ext w w') (hY : ∀ i, Y i → X i ∨ w.heap.size ≤ i) : JAt Y B nb bb rb s r w' := by
  obtain ⟨A, c, Ar, cr, Ac, cc, h1, h2, h3, h4, h5⟩ := h
  refine ⟨A, c, Ar, cr, Ac, cc, h1.ext he, h2.ext he, h3, fun i hi t => ?_, fun i hi t => ?_⟩
  · have := (h1.mut_lt hi).2
    rcases hY i t with t | t
    · exact h4 i hi t
    · omega
  · have := (h2.mut_lt hi).2
    rcases hY i t with t | t
    · exact h5 i hi t
    · omega
end
section
variable {X : Nat → Prop} {B nb bb rb : Nat} {s s' : NetS} {r r' : RefS} {w w' : World} {A Ar Ac : Option Addr} {c cr cc : Nat}
theorem jstep_n (h1 : NetAt w B nb bb A c s) (h2 : RefAt w B rb Ar cr Ac cc r) (h3 : ∀ i, mutN nb bb A i → ¬ mutR rb Ar Ac i) (h4 : ∀ i, mutN nb bb A i → ¬ X i) (h5 : ∀ i, mutR rb Ar Ac i → ¬ X i) (hX : ∀ i, X i → i < w.heap.size) (hs : NetStep w B nb bb A s' w') :
    JAt X B nb bb rb s' r w' ∧ Fr (JF X B) w w' := by
  obtain ⟨A', c', hN, hF, hA⟩ := hs
  have hm : ∀ i, mutN nb bb A' i → mutN nb bb A i ∨ w.heap.size ≤ i := fun i hi => by
    rcases hi with hi | hi | hi
    · exact .inl (.inl hi)
    · exact .inl (.inr (.inl hi))
    · exact (hA i hi).imp (fun t => .inr (.inr t)) id
  refine ⟨⟨A', c', Ar, cr, Ac, cc, hN, h2.fr hF (fun i hi t => h3 i t hi), fun i hi t => ?_, fun i hi t => ?_, h5⟩, hF.mono fun i _ t => ⟨(h1.mut_lt t).1, h4 i t⟩⟩
  · rcases hm i hi with h | h
    · exact h3 i h t
    · have := (h2.mut_lt t).2
      omega
  · rcases hm i hi with h | h
    · exact h4 i h t
    · have := hX i t
      omega
theorem jstep_r (h1 : NetAt w B nb bb A c s) (h2 : RefAt w B rb Ar cr Ac cc r) (h3 : ∀ i, mutN nb bb A i → ¬ mutR rb Ar Ac i) (h4 : ∀ i, mutN nb bb A i → ¬ X i) (h5 : ∀ i, mutR rb Ar Ac i → ¬ X i) (hX : ∀ i, X i → i < w.heap.size) (hl : ∀ u ∈ s.us, u.light) (hs : RefStep w B rb Ar Ac r' w') :
    JAt X B nb bb rb s r' w' ∧ Fr (JF X B) w w' := by
  obtain ⟨A', c', Ac', cc', hN, hF, hA, hAc⟩ := hs
  have hm : ∀ i, mutR rb A' Ac' i → mutR rb Ar Ac i ∨ w.heap.size ≤ i := fun i hi => by
    rcases hi with hi | hi | hi
    · exact .inl (.inl hi)
    · exact (hA i hi).imp (fun t => .inr (.inl t)) id
    · exact (hAc i hi).imp (fun t => .inr (.inr t)) id
  refine ⟨⟨A, c, A', c', Ac', cc', h1.fr hF (fun i hi t => h3 i t hi) (fun u hu => (hl u hu).off _), hN, fun i hi t => ?_, h4, fun i hi t => ?_⟩, hF.mono fun i _ t => ⟨(h2.mut_lt t).1, h5 i t⟩⟩
  · rcases hm i t with h | h
    · exact h3 i hi h
    · have := (h1.mut_lt hi).2
      omega
  · rcases hm i hi with h | h
    · exact h5 i h t
    · have := hX i t
      omega
end
/-- What both nets have, is the same. -/
structure SR (s : NetS) (r : RefS) : Prop where
  k : s.us.map Let.cont = r.us.map Let.cont
  l : ∀ u ∈ s.us, u.light
  t : ∀ u ∈ s.us, u.tight
  q : ∀ u ∈ s.us, rightL u = true
  c : r.cuts = offs s.off 8
  o : s.off.length = 8
  z : s.off.getD 0 false = false
  c1 : r.sent = s.sent
  c2 : r.gone = s.gone
  c3 : r.lost = s.lost
  c4 : r.twice = s.twice
section
variable {s : NetS} {r : RefS}
theorem SR.len (h : SR s r) : s.us.length = r.us.length := by simpa using congrArg List.length h.k
theorem SR.fitsR (h : SR s r) (hf : s.fits) : r.fits := by
  refine ⟨by rw [← h.len]; exact hf.f1, by rw [h.c1]; exact hf.f2, by rw [h.c2]; exact hf.f3, by rw [h.c3]; exact hf.f4, by rw [h.c4]; exact hf.f5, ?_⟩
  rw [h.c]
  have h1 : offs s.off 8 = ((List.range 7).filter fun j => s.off.getD (j + 1) false).map fun (j : Nat) => ((j : Int) + 1) := by
    unfold offs
    rw [List.range_succ_eq_map, List.filter_cons, if_neg (by rw [h.z]; simp), List.filter_map, List.map_map]
    rfl
  rw [h1, List.length_map]
  exact Nat.le_trans (List.length_filter_le _ _) (by simp)
end
theorem offs_up {off : List Bool} (hz : off.getD 0 false = false) : offs off 8 = cutsUp (fun x => off.getD x.toNat false) 7 := by
  unfold offs cutsUp
  rw [List.range_succ_eq_map, List.filter_cons, if_neg (by rw [hz]; simp), List.filter_map, List.map_map, List.filter_map]
  rfl
theorem mem_offs {off : List Bool} {x : Int} (h1 : 0 ≤ x) (h7 : x ≤ 7) : decide (x ∈ offs off 8) = off.getD x.toNat false := by
  rw [Bool.eq_iff_iff, decide_eq_true_iff]
  unfold offs
  constructor
  · intro h
    obtain ⟨j, hj, rfl⟩ := List.mem_map.1 h
    simpa using (List.mem_filter.1 hj).2
  · intro h
    exact List.mem_map.2 ⟨x.toNat, List.mem_filter.2 ⟨List.mem_range.2 (by omega), h⟩, by omega⟩
theorem cut_mem {off : List Bool} {x : Int} (h1 : 0 ≤ x) (h7 : x ≤ 7) : cut off x = decide (x ∈ offs off 8) := by rw [mem_offs h1 h7]; rfl
theorem cutsUp_congr {f g : Int → Bool} (h : ∀ x, 1 ≤ x → x ≤ 7 → f x = g x) : cutsUp f 7 = cutsUp g 7 := by
  unfold cutsUp
  refine List.filter_congr fun x hx => ?_
  obtain ⟨j, hj, rfl⟩ := List.mem_map.1 hx
  have := List.mem_range.1 hj
  exact h _ (by omega) (by omega)
theorem cut_set {off : List Bool} (hz : off.getD 0 false = false) (hl : off.length = 8) {who : Int} (h1 : 1 ≤ who) (h7 : who ≤ 7) (b : Bool) : cutsUp (cutF (offs off 8) who b) 7 = offs (off.set who.toNat b) 8 := by
  have hz2 : (off.set who.toNat b).getD 0 false = false := by
    rw [List.getD_eq_getElem?_getD, List.getElem?_set_ne (by omega), ← List.getD_eq_getElem?_getD]
    exact hz
  rw [offs_up hz2]
  refine cutsUp_congr fun x hx1 hx7 => ?_
  unfold cutF
  rw [mem_offs (by omega) hx7]
  by_cases hw : x = who
  · subst hw
    have h3 : (x != x) = false := by simp
    have h5 : (off.set x.toNat b).getD x.toNat false = b := by
      rw [List.getD_eq_getElem?_getD, List.getElem?_set_self (by omega)]
      rfl
    rw [h3, h5]
    simp
  · have h2 : (x == who) = false := by simpa using hw
    have h3 : (x != who) = true := by simpa using hw
    have h6 : (off.set who.toNat b).getD x.toNat false = off.getD x.toNat false := by
      rw [List.getD_eq_getElem?_getD, List.getD_eq_getElem?_getD, List.getElem?_set_ne (by omega)]
    rw [h2, h3, h6]
    simp
end Go.Proofs.YtjnllilmimngoaaGreatDoor
namespace Go.Proofs.YtjnllilmimngoaaGreatDoor
open Go.RowKit

def LookQ (us : List Let) (u : Value) (w : World) : Prop := ∃ A c ms, u = .slice A us.length c ∧ ms.map Let.cont = us.map Let.cont ∧ LetsIn w A ms
theorem LookQ.up {us : List Let} (u : Value) : Stab.Up Ext (LookQ us u) := fun w w' h he => by
  obtain ⟨A, c, ms, h1, h2, h3⟩ := h
  exact ⟨A, c, ms, h1, h2, h3.ext he⟩
def OffQ (off : List Bool) (u : Value) (w : World) : Prop := ∃ A c, u = .slice A (offs off 8).length c ∧ Rd w A ((offs off 8).map (.int .i64))
theorem OffQ.up {off : List Bool} (u : Value) : Stab.Up Ext (OffQ off u) := fun w w' h he => by
  obtain ⟨A, c, h1, h2⟩ := h
  exact ⟨A, c, h1, h2.ext he⟩
set_option maxRecDepth 100000 in
set_option maxHeartbeats 8000000 in
theorem same_any (X : Nat → Prop) (B nb bb rb : Nat) (s : NetS) (r : RefS) (w : World) (hJ : JAt X B nb bb rb s r w) (hs : SR s r) (hf : s.fits) :
    Calls Tryz.prog 13 #[.pointer (some ⟨nb, 0, none⟩), .pointer (some ⟨rb, 0, none⟩)] w fun e w' => e = .returned (.bool true) ∧ Ext w w' := by
  obtain ⟨A, c, Ar, cr, Ac, cc, hN, hR, -, -, -⟩ := hJ
  have HCN := Lib.hid (count_any w B nb bb A c s hN)
  have HN := Lib.hid hN
  have HR := Lib.hid hR
  have HS := Lib.hid hs
  have HF := Lib.hid hf
  clear hN hR hs hf
  go_enter Tryz.func13, Tryz.ntmps13
  go_wp2_with fail
  refine (HCN.out).mono ?_
  rintro ev w8 ⟨rfl, hE8⟩
  have HE8 := Lib.hid hE8
  clear hE8
  go_upto_region 2 with (refine wpList_store_row rfl 57 _ _ rfl rfl w8.heap.size 5 _ (countA s.us.length s.sent s.gone s.lost s.twice) rfl rfl (heap_alloc_new w8 _) infoCount (by simp) rfl (count_one _ _ _ _ _) ?_; intro w9 hG9 hF9; have HG9 := Lib.hid hG9; have HE9 := Lib.hid (show Ext w8 w9 from ((Fr.ofExt (isB w8.heap.size) ((Ext.refl w8).alloc _)).trans hF9 (fun _ _ h => h)).toExt (fun i hi => by unfold isB at hi; omega)); clear hG9 hF9)
  have y0 : w9.cell? ⟨w8.heap.size, 0, none⟩ = some (.int .i64 s.us.length) := by rw [cell_of_heap HG9.out]; rfl
  have y1 : w9.cell? ⟨w8.heap.size, 1, none⟩ = some (.int .i64 s.sent) := by rw [cell_of_heap HG9.out]; rfl
  have y2 : w9.cell? ⟨w8.heap.size, 2, none⟩ = some (.int .i64 s.gone) := by rw [cell_of_heap HG9.out]; rfl
  have y3 : w9.cell? ⟨w8.heap.size, 3, none⟩ = some (.int .i64 s.lost) := by rw [cell_of_heap HG9.out]; rfl
  have y4 : w9.cell? ⟨w8.heap.size, 4, none⟩ = some (.int .i64 s.twice) := by rw [cell_of_heap HG9.out]; rfl
  have HE29 := Lib.hid (HE8.out.trans HE9.out)
  have HR9 := Lib.hid (HR.out.ext HE29.out)
  have hcs := HR9.out.cells
  rw [← HS.out.len, HS.out.c, HS.out.c1, HS.out.c2, HS.out.c3, HS.out.c4] at hcs
  obtain ⟨z0, z1, z2, z3, z4, z5⟩ := hcs
  have HLK := Lib.hid (fun wx (h : Ext w9 wx) => look_any wx B nb bb A c s (HN.out.ext (HE29.out.trans h)) HF.out.f1)
  have HOF := Lib.hid (fun wx (h : Ext w9 wx) => off_any wx nb bb s.off (HN.out.ext (HE29.out.trans h)).n1 HS.out.o)
  have hol := offs_len s.off 8
  refine Stab.wp_region_lex Ext (Ext w9) (fun _ => True) (by kernel_rfl) (by kernel_rfl) (fun _ _ h => h) (fun _ _ h k => Ext.trans h k) (fun _ _ _ _ => trivial) ((Ext.refl _).drew) trivial ?_
  simp only [Stab.zipL, Nat.reduceAdd]
  iterate 1 (refine Stab.wpX_val rfl rfl ?_; apply Exists.intro; refine ⟨fun wx hC _ => ?_, ?_⟩; (have r0 := hC.cell y0; have r1 := hC.cell y1; have r2 := hC.cell y2; have r3 := hC.cell y3; have r4 := hC.cell y4; have q0 := hC.cell z0; have q1 := hC.cell z1; have q2 := hC.cell z2; have q3 := hC.cell z3; have q4 := hC.cell z4; have q5 := hC.cell z5; go_simp; exact ⟨Ext.refl _, rfl⟩); simp only [Act.put, List.setIfInBounds_toArray, List.set_cons_zero, List.set_cons_succ])
  refine Stab.wpX_call (LookQ s.us) (fun _ _ => True) rfl rfl (LookQ.up) (fun _ _ _ _ _ => trivial) ?_ ?_
  · intro wx hC _ hF
    go_simp
    refine ⟨rfl, ?_⟩
    refine (HLK.out _ hC).mono ?_
    rintro ev w11 ⟨A2, c2, ms2, rfl, h1, h2, hE11⟩
    exact ⟨hE11, A2, c2, ms2, rfl, h1, h2.lets⟩
  rintro ux ⟨_, _, ⟨A2, c2, _, rfl, -, -⟩, _⟩
  simp only [Act.put, List.setIfInBounds_toArray, List.set_cons_zero, List.set_cons_succ]
  iterate 4 (refine Stab.wpX_val rfl rfl ?_; apply Exists.intro; refine ⟨fun wx hC _ => ?_, ?_⟩; (have r0 := hC.cell y0; have r1 := hC.cell y1; have r2 := hC.cell y2; have r3 := hC.cell y3; have r4 := hC.cell y4; have q0 := hC.cell z0; have q1 := hC.cell z1; have q2 := hC.cell z2; have q3 := hC.cell z3; have q4 := hC.cell z4; have q5 := hC.cell z5; go_simp; exact ⟨Ext.refl _, rfl⟩); simp only [Act.put, List.setIfInBounds_toArray, List.set_cons_zero, List.set_cons_succ])
  (refine Stab.wpX_call1 rfl rfl (fun _ _ _ _ => trivial) ?_; apply Exists.intro; refine ⟨fun wx hC _ hF => ?_, ?_⟩; (obtain ⟨A3, c3, ms3, hv, hm3, hl3⟩ := (hF 1 rfl).2 rfl; injection hv with hv1 _ hv2; subst hv1 hv2; go_simp; refine ⟨rfl, ?_⟩; have hml := congrArg List.length hm3; simp only [List.length_map] at hml; have hsl := sameLets_true A2 Ar c2 cr ms3 r.us wx hl3 ((HR9.out.ext hC).lets) (hm3.trans HS.out.k) (by rw [hml]; have := HF.out.f1; omega); rw [hml, ← HS.out.len] at hsl; refine hsl.mono ?_; rintro ev w9 ⟨rfl, hE9⟩; first | exact ⟨hE9, rfl⟩ | exact ⟨hE9, rfl, trivial⟩); simp only [Act.put, List.setIfInBounds_toArray, List.set_cons_zero, List.set_cons_succ])
  iterate 2 (refine Stab.wpX_val rfl rfl ?_; apply Exists.intro; refine ⟨fun wx hC _ => ?_, ?_⟩; (have r0 := hC.cell y0; have r1 := hC.cell y1; have r2 := hC.cell y2; have r3 := hC.cell y3; have r4 := hC.cell y4; have q0 := hC.cell z0; have q1 := hC.cell z1; have q2 := hC.cell z2; have q3 := hC.cell z3; have q4 := hC.cell z4; have q5 := hC.cell z5; go_simp; exact ⟨Ext.refl _, rfl⟩); simp only [Act.put, List.setIfInBounds_toArray, List.set_cons_zero, List.set_cons_succ])
  refine Stab.wpX_call (OffQ s.off) (fun _ _ => True) rfl rfl (OffQ.up) (fun _ _ _ _ _ => trivial) ?_ ?_
  · intro wx hC _ hF
    go_simp
    refine ⟨rfl, ?_⟩
    refine (HOF.out _ hC).mono ?_
    rintro ev w11 ⟨A3, c3, rfl, h1, hE11⟩
    exact ⟨hE11, A3, c3, rfl, h1.rd⟩
  rintro ux ⟨_, _, ⟨A4, c4, rfl, -⟩, _⟩
  simp only [Act.put, List.setIfInBounds_toArray, List.set_cons_zero, List.set_cons_succ]
  iterate 4 (refine Stab.wpX_val rfl rfl ?_; apply Exists.intro; refine ⟨fun wx hC _ => ?_, ?_⟩; (have r0 := hC.cell y0; have r1 := hC.cell y1; have r2 := hC.cell y2; have r3 := hC.cell y3; have r4 := hC.cell y4; have q0 := hC.cell z0; have q1 := hC.cell z1; have q2 := hC.cell z2; have q3 := hC.cell z3; have q4 := hC.cell z4; have q5 := hC.cell z5; go_simp; exact ⟨Ext.refl _, rfl⟩); simp only [Act.put, List.setIfInBounds_toArray, List.set_cons_zero, List.set_cons_succ])
  (refine Stab.wpX_call1 rfl rfl (fun _ _ _ _ => trivial) ?_; apply Exists.intro; refine ⟨fun wx hC _ hF => ?_, ?_⟩; (obtain ⟨A5, c5, hv, hrd⟩ := (hF 9 rfl).2 rfl; injection hv with hv1 _ hv2; subst hv1 hv2; go_simp; refine ⟨rfl, ?_⟩; have hk1 := (HR9.out.ext hC).k1.rd; rw [HS.out.c] at hk1; have hsi := sameInts_any A4 Ac c4 cc (offs s.off 8) (offs s.off 8) wx hrd hk1 (by unfold maxLen; omega) (by unfold maxLen; omega); rw [show decide (offs s.off 8 = offs s.off 8) = true by simp] at hsi; refine hsi.mono ?_; rintro ev w9 ⟨rfl, hE9⟩; first | exact ⟨hE9, rfl⟩ | exact ⟨hE9, rfl, trivial⟩); simp only [Act.put, List.setIfInBounds_toArray, List.set_cons_zero, List.set_cons_succ])
  iterate 48 (refine Stab.wpX_val rfl rfl ?_; apply Exists.intro; refine ⟨fun wx hC _ => ?_, ?_⟩; (have r0 := hC.cell y0; have r1 := hC.cell y1; have r2 := hC.cell y2; have r3 := hC.cell y3; have r4 := hC.cell y4; have q0 := hC.cell z0; have q1 := hC.cell z1; have q2 := hC.cell z2; have q3 := hC.cell z3; have q4 := hC.cell z4; have q5 := hC.cell z5; go_simp; exact ⟨Ext.refl _, rfl⟩); simp only [Act.put, List.setIfInBounds_toArray, List.set_cons_zero, List.set_cons_succ])
  refine Stab.wpX_end fun w12 hC12 _ _ => ?_
  go_wp2_with fail
  go_ret
  exact ⟨rfl, HE29.out.trans hC12⟩
end Go.Proofs.YtjnllilmimngoaaGreatDoor
