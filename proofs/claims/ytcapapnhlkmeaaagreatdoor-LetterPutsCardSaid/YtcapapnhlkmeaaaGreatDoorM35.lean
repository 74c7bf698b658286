/-
  The letters' writer: body, by kinds.
-/
import Derived.Test.YtcapapnhlkmeaaaGreatDoorM34
import Derived.Test.YtcapapnhlkmeaaaGreatDoorM25
namespace Go.Proofs.YtcapapnhlkmeaaaGreatDoor
open Go.RowKit

def idsR (ps : List Id) : List Int := leB 1 ps.length ++ idsB ps
def entsR (es : List Ent) : List Int := leB 1 es.length ++ entsB es
def bodyB (l : Let) : List Int :=
  if l.kind = 1 then idB l.last else if l.kind = 2 then [yesI l.yes] else if l.kind = 3 then idB l.prev ++ leB 6 l.commit ++ entsR l.ents else if l.kind = 4 then leB 6 l.index ++ [yesI l.yes]
  else if l.kind = 5 then carryB l else if l.kind = 6 then idB l.last ++ leB 1 l.piece ++ [yesI l.yes] else if l.kind = 7 then idsR l.want ++ idB l.last ++ leB 1 l.piece
  else if l.kind = 8 then entsR l.ents ++ (if l.ents.length = 0 then carryB l else idsR l.want) else []
def num6 (n : Int) : Prop := 0 ≤ n ∧ n ≤ 1099511627776
def num1 (n : Int) : Prop := 0 ≤ n ∧ n ≤ 255
def idsFit (ps : List Id) : Prop := ps.length ≤ 255 ∧ ∀ p ∈ ps, p.fits
def entsFit (es : List Ent) : Prop := es.length ≤ 255 ∧ ∀ e ∈ es, e.fits
theorem field1_6 {bs : List Int} {n : Int} (h0 : 0 ≤ n) (h1 : n ≤ 1099511627776) : fieldS 6 bs false [n] = (bs ++ leB 6 n, false) := field1 (wd := 6) (by decide) h0 h1
/-- What is asked of what a kind puts. -/
structure Let.puts (l : Let) : Prop where
  k1 : l.kind = 1 → l.last.fits
  k3 : l.kind = 3 → l.prev.fits ∧ num6 l.commit ∧ entsFit l.ents
  k4 : l.kind = 4 → num6 l.index
  k5 : l.kind = 5 → l.carries
  k6 : l.kind = 6 → l.last.fits ∧ num1 l.piece
  k7 : l.kind = 7 → idsFit l.want ∧ l.last.fits ∧ num1 l.piece
  k8 : l.kind = 8 → entsFit l.ents ∧ (l.ents.length = 0 → l.carries) ∧ (l.ents.length ≠ 0 → idsFit l.want)
theorem idsR_length (ps : List Id) : (idsR ps).length = 1 + 13 * ps.length := by simp [idsR, leB_length, idsB_length]
theorem entsR_length (es : List Ent) (h : entsFit es) : (entsR es).length ≤ 1 + 215 * es.length := by
  have := entsB_length es h.2
  simp [entsR, leB_length]; omega
theorem carryB_length (l : Let) (h : l.carries) : (carryB l).length ≤ 70000 := by
  have h2 := h.f2
  have h5 := h.f5
  have h8 := h.f8
  simp [carryB, idB_length, rowB_length, leB_length, sumsB_length, textB]; omega
theorem app3 (a b c : List Int) : a ++ b ++ c = a ++ (b ++ c) := List.append_assoc a b c
theorem IdsIn.fr {S : Nat → Prop} {w w' : World} {A : Option Addr} {ps : List Id} (h : IdsIn w A ps) (hf : Fr S w w') (ho : ps ≠ [] → Off S A) : IdsIn w' A ps := fun j p hj => by
  obtain ⟨b, f, h1, h2, h3, h4⟩ := h j p hj
  have hne : ps ≠ [] := by rintro rfl; simp at hj
  have hof : ¬ S b := ho hne _ h1
  exact ⟨b, f, h1, hf.cell (p := ⟨b, _, none⟩) hof h2, hf.cell (p := ⟨b, _, none⟩) hof h3, hf.cell (p := ⟨b, _, none⟩) hof h4⟩
theorem EntsIn.fr {S : Nat → Prop} {w w' : World} {A : Option Addr} {es : List Ent} (h : EntsIn w A es) (hf : Fr S w w') (ho : es ≠ [] → Off S A) (ho2 : ∀ e ∈ es, e.bs ≠ [] → Off S e.bA) : EntsIn w' A es := fun j e hj => by
  obtain ⟨b, f, h1, h2, h3, h4, h5, h6⟩ := h j e hj
  have hne : es ≠ [] := by rintro rfl; simp at hj
  have hof : ¬ S b := ho hne _ h1
  exact ⟨b, f, h1, hf.cell (p := ⟨b, _, none⟩) hof h2, hf.cell (p := ⟨b, _, none⟩) hof h3, hf.cell (p := ⟨b, _, none⟩) hof h4, hf.cell (p := ⟨b, _, none⟩) hof h5, h6.1.fr' hf (ho2 e (mem_of_get hj)), h6.2⟩
theorem Let.inW.fr {S : Nat → Prop} {w w' : World} {l : Let} (h : l.inW w) (hf : Fr S w w') (ho : l.off S) : l.inW w' :=
  ⟨h.w1.fr hf ho.w1, h.e1.fr hf ho.e1 ho.e2, h.m1.fr' hf ho.m1, h.u1.fr' hf ho.u1, h.b1.fr' hf ho.b1, h.w2, h.e2, h.m2, h.u2, h.b2, h.u3⟩
theorem blk_old {w : World} {A A' : Option Addr} {wb : Nat} {D : Option Addr} {b : Nat} (hD : ∃ f, D = some ⟨b, f, none⟩) (hb : b < w.heap.size) (hO : Off (touched wb A) D) (hA : ∀ i, blk A' i → blk A i ∨ w.heap.size ≤ i) : Off (touched wb A') D := by
  obtain ⟨f, rfl⟩ := hD
  intro ad had
  injection had with had
  subst had
  rintro (h | h)
  · exact hO _ rfl (.inl h)
  · rcases hA _ h with h1 | h1
    · exact hO _ rfl (.inr h1)
    · exact absurd hb (by simpa using h1)
theorem ne_get {α : Type} {l : List α} (h : l ≠ []) : ∃ x, l[0]? = some x := by
  cases l with
  | nil => exact absurd rfl h
  | cons x l => exact ⟨x, rfl⟩
/-- Off a writer that has grown since. -/
theorem Let.off.grow {w : World} {A A' : Option Addr} {wb : Nat} {l : Let} (h : l.off (touched wb A)) (hin : l.inW w) (hA : ∀ i, blk A' i → blk A i ∨ w.heap.size ≤ i) : l.off (touched wb A') where
  w1 := fun hne => by
    obtain ⟨p, hp⟩ := ne_get hne
    obtain ⟨b, f, h1, h2, _⟩ := hin.w1 0 p hp
    exact blk_old ⟨f, h1⟩ (World.block_lt_of_cell? w _ h2) (h.w1 hne) hA
  e1 := fun hne => by
    obtain ⟨p, hp⟩ := ne_get hne
    obtain ⟨b, f, h1, h2, _⟩ := hin.e1 0 p hp
    exact blk_old ⟨f, h1⟩ (World.block_lt_of_cell? w _ h2) (h.e1 hne) hA
  e2 := fun e he hne => by
    obtain ⟨j, hj⟩ := List.getElem?_of_mem he
    obtain ⟨b, f, h1, h2, h3, h4, h5, h6⟩ := hin.e1 j e hj
    exact off_fr (w1 := w) (h.e2 e he hne) h6.1 (by simpa using hne) hA
  m1 := fun hne => off_fr (w1 := w) (h.m1 hne) hin.m1 (by simpa using hne) hA
  u1 := fun hne => off_fr (w1 := w) (h.u1 hne) hin.u1 (by simpa using hne) hA
  b1 := fun hne => off_fr (w1 := w) (h.b1 hne) hin.b1 (by simpa using hne) hA

set_option maxRecDepth 100000 in
set_option maxHeartbeats 2000000 in
theorem body_1 (B wb : Nat) (A : Option Addr) (c : Nat) (bs : List Int) (l : Let) (hk : l.kind = 1) (hc : l.puts) (w : World) (hW : Wr 61 B w wb A c bs false) (hB : B ≤ w.heap.size) (hl : bs.length ≤ 1000)
    (hin : l.inW w) (hO : l.off (touched wb A)) :
    Calls Tryz.prog 22 #[.pointer (some ⟨wb, 0, none⟩), l.v] w fun e w' => e = .returned (.tuple #[]) ∧ WStep 61 B wb A w (bs ++ bodyB l) false w' := by
  have q1 : (l.kind == 1) = true := by rw [hk]; rfl
  have q4 : (l.kind == 4) = false := by rw [hk]; rfl
  have q2 : (l.kind == 2) = false := by rw [hk]; rfl
  have q3 : (l.kind == 3) = false := by rw [hk]; rfl
  have q5 : (l.kind == 5) = false := by rw [hk]; rfl
  have q6 : (l.kind == 6) = false := by rw [hk]; rfl
  have q7 : (l.kind == 7) = false := by rw [hk]; rfl
  have q8 : (l.kind == 8) = false := by rw [hk]; rfl
  have HIN := Lib.hid (hin.ext ((Ext.refl w).alloc (.cells l.arr 34)))
  have HO := Lib.hid hO
  have HBB := Lib.hid (show bodyB l = idB l.last by simp [bodyB, hk])
  have HK := Lib.hid (hc.k1 hk)
  clear hin hO hc hk
  have hlt := hW.lt
  have hW0 := hW.ext ((Ext.refl w).alloc (.cells l.arr 34))
  have HNT := Lib.hid (not_touched_new hW)
  have HG0 := Lib.hid (heap_alloc_new w (.cells l.arr 34))
  have HP0 := Lib.hid (WP.start hW0)
  have r0 := cell_of_heap HG0.out
  have z0 : w.heap.size + 1 ≤ (w.alloc (.cells l.arr 34)).heap.size := by simp
  have hV : l.v = .agg l.arr := rfl
  rw [hV]
  clear hV hW0
  go_enter Tryz.func22, Tryz.ntmps22
  go_wp2_with fail
  refine (ident_put B wb _ _ _ l.last HK.out _ HP0.out.1 (by omega) (by first | omega | (simp [leB_length, idB_length, idsR_length]; omega))).mono ?_
  rintro e w1 ⟨rfl, hS1⟩
  obtain ⟨A1, c1, P1⟩ := HP0.out.step hS1
  clear hS1
  have z1 := P1.size
  rw [World.size_alloc] at z1
  have g1 := (P1.heap (i := w.heap.size) (by simp) HNT.out).trans HG0.out
  have r1 := cell_of_heap g1
  have HP1 := Lib.hid P1
  clear g1 P1 r0
  go_wp2_with fail
  have h := HP1.out.done
  rw [show bs ++ idB l.last = bs ++ bodyB l by rw [HBB.out]] at h
  first
    | (go_end0; exact ⟨rfl, WStep.ext ((Ext.refl w).alloc _) h⟩)
    | (refine bodyPost_ret (results_none rfl _ _ _) rfl ?_; exact ⟨rfl, WStep.ext ((Ext.refl w).alloc _) h⟩)
set_option maxRecDepth 100000 in
set_option maxHeartbeats 2000000 in
theorem body_2 (B wb : Nat) (A : Option Addr) (c : Nat) (bs : List Int) (l : Let) (hk : l.kind = 2) (hc : l.puts) (w : World) (hW : Wr 61 B w wb A c bs false) (hB : B ≤ w.heap.size) (hl : bs.length ≤ 1000)
    (hin : l.inW w) (hO : l.off (touched wb A)) :
    Calls Tryz.prog 22 #[.pointer (some ⟨wb, 0, none⟩), l.v] w fun e w' => e = .returned (.tuple #[]) ∧ WStep 61 B wb A w (bs ++ bodyB l) false w' := by
  have q1 : (l.kind == 1) = false := by rw [hk]; rfl
  have q4 : (l.kind == 4) = false := by rw [hk]; rfl
  have q2 : (l.kind == 2) = true := by rw [hk]; rfl
  have q3 : (l.kind == 3) = false := by rw [hk]; rfl
  have q5 : (l.kind == 5) = false := by rw [hk]; rfl
  have q6 : (l.kind == 6) = false := by rw [hk]; rfl
  have q7 : (l.kind == 7) = false := by rw [hk]; rfl
  have q8 : (l.kind == 8) = false := by rw [hk]; rfl
  have HIN := Lib.hid (hin.ext ((Ext.refl w).alloc (.cells l.arr 34)))
  have HO := Lib.hid hO
  have HBB := Lib.hid (show bodyB l = [yesI l.yes] by simp [bodyB, hk])
  clear hin hO hc hk
  have hlt := hW.lt
  have hW0 := hW.ext ((Ext.refl w).alloc (.cells l.arr 34))
  have HNT := Lib.hid (not_touched_new hW)
  have HG0 := Lib.hid (heap_alloc_new w (.cells l.arr 34))
  have HP0 := Lib.hid (WP.start hW0)
  have r0 := cell_of_heap HG0.out
  have z0 : w.heap.size + 1 ≤ (w.alloc (.cells l.arr 34)).heap.size := by simp
  have hV : l.v = .agg l.arr := rfl
  rw [hV]
  clear hV hW0
  go_enter Tryz.func22, Tryz.ntmps22
  go_wp2_with fail
  refine (yes_any B wb _ _ _ l.yes _ HP0.out.1 (by omega) (by first | omega | (simp [leB_length, idB_length, idsR_length]; omega))).mono ?_
  rintro e w1 ⟨rfl, hS1⟩
  obtain ⟨A1, c1, P1⟩ := HP0.out.step hS1
  clear hS1
  have z1 := P1.size
  rw [World.size_alloc] at z1
  have g1 := (P1.heap (i := w.heap.size) (by simp) HNT.out).trans HG0.out
  have r1 := cell_of_heap g1
  have HP1 := Lib.hid P1
  clear g1 P1 r0
  go_wp2_with fail
  have h := HP1.out.done
  rw [show bs ++ [yesI l.yes] = bs ++ bodyB l by rw [HBB.out]] at h
  first
    | (go_end0; exact ⟨rfl, WStep.ext ((Ext.refl w).alloc _) h⟩)
    | (refine bodyPost_ret (results_none rfl _ _ _) rfl ?_; exact ⟨rfl, WStep.ext ((Ext.refl w).alloc _) h⟩)
set_option maxRecDepth 100000 in
set_option maxHeartbeats 2000000 in
theorem body_3 (B wb : Nat) (A : Option Addr) (c : Nat) (bs : List Int) (l : Let) (hk : l.kind = 3) (hc : l.puts) (w : World) (hW : Wr 61 B w wb A c bs false) (hB : B ≤ w.heap.size) (hl : bs.length ≤ 1000)
    (hin : l.inW w) (hO : l.off (touched wb A)) :
    Calls Tryz.prog 22 #[.pointer (some ⟨wb, 0, none⟩), l.v] w fun e w' => e = .returned (.tuple #[]) ∧ WStep 61 B wb A w (bs ++ bodyB l) false w' := by
  have q1 : (l.kind == 1) = false := by rw [hk]; rfl
  have q4 : (l.kind == 4) = false := by rw [hk]; rfl
  have q2 : (l.kind == 2) = false := by rw [hk]; rfl
  have q3 : (l.kind == 3) = true := by rw [hk]; rfl
  have q5 : (l.kind == 5) = false := by rw [hk]; rfl
  have q6 : (l.kind == 6) = false := by rw [hk]; rfl
  have q7 : (l.kind == 7) = false := by rw [hk]; rfl
  have q8 : (l.kind == 8) = false := by rw [hk]; rfl
  have HIN := Lib.hid (hin.ext ((Ext.refl w).alloc (.cells l.arr 34)))
  have HO := Lib.hid hO
  have HBB := Lib.hid (show bodyB l = idB l.prev ++ leB 6 l.commit ++ entsR l.ents by simp [bodyB, hk])
  have HK := Lib.hid (hc.k3 hk)
  clear hin hO hc hk
  have hlt := hW.lt
  have hW0 := hW.ext ((Ext.refl w).alloc (.cells l.arr 34))
  have HNT := Lib.hid (not_touched_new hW)
  have HG0 := Lib.hid (heap_alloc_new w (.cells l.arr 34))
  have HP0 := Lib.hid (WP.start hW0)
  have r0 := cell_of_heap HG0.out
  have z0 : w.heap.size + 1 ≤ (w.alloc (.cells l.arr 34)).heap.size := by simp
  have hV : l.v = .agg l.arr := rfl
  rw [hV]
  clear hV hW0
  go_enter Tryz.func22, Tryz.ntmps22
  go_wp2_with fail
  refine (ident_put B wb _ _ _ l.prev HK.out.1 _ HP0.out.1 (by omega) (by first | omega | (simp [leB_length, idB_length, idsR_length]; omega))).mono ?_
  rintro e w1 ⟨rfl, hS1⟩
  obtain ⟨A1, c1, P1⟩ := HP0.out.step hS1
  clear hS1
  have z1 := P1.size
  rw [World.size_alloc] at z1
  have g1 := (P1.heap (i := w.heap.size) (by simp) HNT.out).trans HG0.out
  have r1 := cell_of_heap g1
  have HP1 := Lib.hid P1
  clear g1 P1 r0
  go_wp2_with fail
  have Pa1 := HP1.out.ext ((Ext.refl _).alloc (.cells #[.int .i64 l.commit] 3))
  refine (field_any B wb _ _ _ false 6 _ 1 [l.commit] _ Pa1.1 (by simp; omega) (rd_one _ (.int .i64 l.commit) 3) (fun _ => off_new HP1.out.1) (by first | omega | (simp [leB_length, idB_length, idsR_length]; omega))).mono ?_
  rintro e w2 ⟨rfl, hS2⟩
  rw [field1_6 HK.out.2.1.1 HK.out.2.1.2] at hS2
  obtain ⟨A2, c2, P2⟩ := Pa1.step hS2
  clear hS2 Pa1
  have z2 := P2.size
  rw [World.size_alloc] at z2
  have g2 := (P2.heap (i := w.heap.size) (by simp) HNT.out).trans HG0.out
  have r2 := cell_of_heap g2
  have HP2 := Lib.hid P2
  clear g2 P2 r1
  go_wp2_with fail
  refine (entries_put B wb _ _ _ l.eA l.ec l.ents HK.out.2.2.2 HK.out.2.2.1 _ HP2.out.1 (by omega) (by first | omega | (simp [leB_length, idB_length, idsR_length]; omega)) (HIN.out.e1.fr HP2.out.2.1 HO.out.e1 HO.out.e2) (HO.out.grow HIN.out HP2.out.2.2).e1 (HO.out.grow HIN.out HP2.out.2.2).e2).mono ?_
  rintro e w3 ⟨rfl, hS3⟩
  obtain ⟨A3, c3, P3⟩ := HP2.out.step hS3
  clear hS3
  have z3 := P3.size
  rw [World.size_alloc] at z3
  have g3 := (P3.heap (i := w.heap.size) (by simp) HNT.out).trans HG0.out
  have r3 := cell_of_heap g3
  have HP3 := Lib.hid P3
  clear g3 P3 r2
  go_wp2_with fail
  have h := HP3.out.done
  rw [show bs ++ idB l.prev ++ leB 6 l.commit ++ leB 1 l.ents.length ++ entsB l.ents = bs ++ bodyB l by rw [HBB.out]; simp [entsR]] at h
  first
    | (go_end0; exact ⟨rfl, WStep.ext ((Ext.refl w).alloc _) h⟩)
    | (refine bodyPost_ret (results_none rfl _ _ _) rfl ?_; exact ⟨rfl, WStep.ext ((Ext.refl w).alloc _) h⟩)
set_option maxRecDepth 100000 in
set_option maxHeartbeats 2000000 in
theorem body_4 (B wb : Nat) (A : Option Addr) (c : Nat) (bs : List Int) (l : Let) (hk : l.kind = 4) (hc : l.puts) (w : World) (hW : Wr 61 B w wb A c bs false) (hB : B ≤ w.heap.size) (hl : bs.length ≤ 1000)
    (hin : l.inW w) (hO : l.off (touched wb A)) :
    Calls Tryz.prog 22 #[.pointer (some ⟨wb, 0, none⟩), l.v] w fun e w' => e = .returned (.tuple #[]) ∧ WStep 61 B wb A w (bs ++ bodyB l) false w' := by
  have q1 : (l.kind == 1) = false := by rw [hk]; rfl
  have q4 : (l.kind == 4) = true := by rw [hk]; rfl
  have q2 : (l.kind == 2) = false := by rw [hk]; rfl
  have q3 : (l.kind == 3) = false := by rw [hk]; rfl
  have q5 : (l.kind == 5) = false := by rw [hk]; rfl
  have q6 : (l.kind == 6) = false := by rw [hk]; rfl
  have q7 : (l.kind == 7) = false := by rw [hk]; rfl
  have q8 : (l.kind == 8) = false := by rw [hk]; rfl
  have HIN := Lib.hid (hin.ext ((Ext.refl w).alloc (.cells l.arr 34)))
  have HO := Lib.hid hO
  have HBB := Lib.hid (show bodyB l = leB 6 l.index ++ [yesI l.yes] by simp [bodyB, hk])
  have HK := Lib.hid (hc.k4 hk)
  clear hin hO hc hk
  have hlt := hW.lt
  have hW0 := hW.ext ((Ext.refl w).alloc (.cells l.arr 34))
  have HNT := Lib.hid (not_touched_new hW)
  have HG0 := Lib.hid (heap_alloc_new w (.cells l.arr 34))
  have HP0 := Lib.hid (WP.start hW0)
  have r0 := cell_of_heap HG0.out
  have z0 : w.heap.size + 1 ≤ (w.alloc (.cells l.arr 34)).heap.size := by simp
  have hV : l.v = .agg l.arr := rfl
  rw [hV]
  clear hV hW0
  go_enter Tryz.func22, Tryz.ntmps22
  go_wp2_with fail
  have Pa0 := HP0.out.ext ((Ext.refl _).alloc (.cells #[.int .i64 l.index] 3))
  have hr0 := rd_one (w.alloc (.cells l.arr 34)) (.int .i64 l.index) 3
  have ho0 := off_new HP0.out.1
  rw [World.size_alloc] at hr0 ho0
  refine (field_any B wb _ _ _ false 6 (some ⟨w.heap.size + 1, 0, none⟩) 1 [l.index] _ Pa0.1 (by simp; omega) hr0 (fun _ => ho0) (by first | omega | (simp [leB_length, idB_length, idsR_length]; omega))).mono ?_
  clear hr0 ho0
  rintro e w1 ⟨rfl, hS1⟩
  rw [field1_6 HK.out.1 HK.out.2] at hS1
  obtain ⟨A1, c1, P1⟩ := Pa0.step hS1
  clear hS1 Pa0
  have z1 := P1.size
  rw [World.size_alloc] at z1
  have g1 := (P1.heap (i := w.heap.size) (by simp) HNT.out).trans HG0.out
  have r1 := cell_of_heap g1
  have HP1 := Lib.hid P1
  clear g1 P1 r0
  go_wp2_with fail
  refine (yes_any B wb _ _ _ l.yes _ HP1.out.1 (by omega) (by first | omega | (simp [leB_length, idB_length, idsR_length]; omega))).mono ?_
  rintro e w2 ⟨rfl, hS2⟩
  obtain ⟨A2, c2, P2⟩ := HP1.out.step hS2
  clear hS2
  have z2 := P2.size
  rw [World.size_alloc] at z2
  have g2 := (P2.heap (i := w.heap.size) (by simp) HNT.out).trans HG0.out
  have r2 := cell_of_heap g2
  have HP2 := Lib.hid P2
  clear g2 P2 r1
  go_wp2_with fail
  have h := HP2.out.done
  rw [show bs ++ leB 6 l.index ++ [yesI l.yes] = bs ++ bodyB l by rw [HBB.out]; simp] at h
  first
    | (go_end0; exact ⟨rfl, WStep.ext ((Ext.refl w).alloc _) h⟩)
    | (refine bodyPost_ret (results_none rfl _ _ _) rfl ?_; exact ⟨rfl, WStep.ext ((Ext.refl w).alloc _) h⟩)
set_option maxRecDepth 100000 in
set_option maxHeartbeats 2000000 in
theorem body_5 (B wb : Nat) (A : Option Addr) (c : Nat) (bs : List Int) (l : Let) (hk : l.kind = 5) (hc : l.puts) (w : World) (hW : Wr 61 B w wb A c bs false) (hB : B ≤ w.heap.size) (hl : bs.length ≤ 1000)
    (hin : l.inW w) (hO : l.off (touched wb A)) :
    Calls Tryz.prog 22 #[.pointer (some ⟨wb, 0, none⟩), l.v] w fun e w' => e = .returned (.tuple #[]) ∧ WStep 61 B wb A w (bs ++ bodyB l) false w' := by
  have q1 : (l.kind == 1) = false := by rw [hk]; rfl
  have q4 : (l.kind == 4) = false := by rw [hk]; rfl
  have q2 : (l.kind == 2) = false := by rw [hk]; rfl
  have q3 : (l.kind == 3) = false := by rw [hk]; rfl
  have q5 : (l.kind == 5) = true := by rw [hk]; rfl
  have q6 : (l.kind == 6) = false := by rw [hk]; rfl
  have q7 : (l.kind == 7) = false := by rw [hk]; rfl
  have q8 : (l.kind == 8) = false := by rw [hk]; rfl
  have HIN := Lib.hid (hin.ext ((Ext.refl w).alloc (.cells l.arr 34)))
  have HO := Lib.hid hO
  have HBB := Lib.hid (show bodyB l = carryB l by simp [bodyB, hk])
  have HK := Lib.hid (hc.k5 hk)
  clear hin hO hc hk
  have hlt := hW.lt
  have hW0 := hW.ext ((Ext.refl w).alloc (.cells l.arr 34))
  have HNT := Lib.hid (not_touched_new hW)
  have HG0 := Lib.hid (heap_alloc_new w (.cells l.arr 34))
  have HP0 := Lib.hid (WP.start hW0)
  have r0 := cell_of_heap HG0.out
  have z0 : w.heap.size + 1 ≤ (w.alloc (.cells l.arr 34)).heap.size := by simp
  have hV : l.v = .agg l.arr := rfl
  rw [hV]
  clear hV hW0
  go_enter Tryz.func22, Tryz.ntmps22
  go_wp2_with (refine wpList_load_let rfl _ rfl w.heap.size l rfl ((HP0.out.heap (i := w.heap.size) (by simp) HNT.out).trans HG0.out) ?_)
  refine (carry_put B wb _ _ _ l HK.out _ HP0.out.1 (by omega) (by first | omega | (simp [leB_length, idB_length, idsR_length]; omega)) (HIN.out.fr HP0.out.2.1 HO.out) (HO.out.grow HIN.out HP0.out.2.2)).mono ?_
  rintro e w1 ⟨rfl, hS1⟩
  obtain ⟨A1, c1, P1⟩ := HP0.out.step hS1
  clear hS1
  have z1 := P1.size
  rw [World.size_alloc] at z1
  have g1 := (P1.heap (i := w.heap.size) (by simp) HNT.out).trans HG0.out
  have r1 := cell_of_heap g1
  have HP1 := Lib.hid P1
  clear g1 P1 r0
  go_wp2_with fail
  have h := HP1.out.done
  rw [show bs ++ carryB l = bs ++ bodyB l by rw [HBB.out]] at h
  first
    | (go_end0; exact ⟨rfl, WStep.ext ((Ext.refl w).alloc _) h⟩)
    | (refine bodyPost_ret (results_none rfl _ _ _) rfl ?_; exact ⟨rfl, WStep.ext ((Ext.refl w).alloc _) h⟩)
set_option maxRecDepth 100000 in
set_option maxHeartbeats 2000000 in
theorem body_6 (B wb : Nat) (A : Option Addr) (c : Nat) (bs : List Int) (l : Let) (hk : l.kind = 6) (hc : l.puts) (w : World) (hW : Wr 61 B w wb A c bs false) (hB : B ≤ w.heap.size) (hl : bs.length ≤ 1000)
    (hin : l.inW w) (hO : l.off (touched wb A)) :
    Calls Tryz.prog 22 #[.pointer (some ⟨wb, 0, none⟩), l.v] w fun e w' => e = .returned (.tuple #[]) ∧ WStep 61 B wb A w (bs ++ bodyB l) false w' := by
  have q1 : (l.kind == 1) = false := by rw [hk]; rfl
  have q4 : (l.kind == 4) = false := by rw [hk]; rfl
  have q2 : (l.kind == 2) = false := by rw [hk]; rfl
  have q3 : (l.kind == 3) = false := by rw [hk]; rfl
  have q5 : (l.kind == 5) = false := by rw [hk]; rfl
  have q6 : (l.kind == 6) = true := by rw [hk]; rfl
  have q7 : (l.kind == 7) = false := by rw [hk]; rfl
  have q8 : (l.kind == 8) = false := by rw [hk]; rfl
  have HIN := Lib.hid (hin.ext ((Ext.refl w).alloc (.cells l.arr 34)))
  have HO := Lib.hid hO
  have HBB := Lib.hid (show bodyB l = idB l.last ++ leB 1 l.piece ++ [yesI l.yes] by simp [bodyB, hk])
  have HK := Lib.hid (hc.k6 hk)
  clear hin hO hc hk
  have hlt := hW.lt
  have hW0 := hW.ext ((Ext.refl w).alloc (.cells l.arr 34))
  have HNT := Lib.hid (not_touched_new hW)
  have HG0 := Lib.hid (heap_alloc_new w (.cells l.arr 34))
  have HP0 := Lib.hid (WP.start hW0)
  have r0 := cell_of_heap HG0.out
  have z0 : w.heap.size + 1 ≤ (w.alloc (.cells l.arr 34)).heap.size := by simp
  have hV : l.v = .agg l.arr := rfl
  rw [hV]
  clear hV hW0
  go_enter Tryz.func22, Tryz.ntmps22
  go_wp2_with fail
  refine (ident_put B wb _ _ _ l.last HK.out.1 _ HP0.out.1 (by omega) (by first | omega | (simp [leB_length, idB_length, idsR_length]; omega))).mono ?_
  rintro e w1 ⟨rfl, hS1⟩
  obtain ⟨A1, c1, P1⟩ := HP0.out.step hS1
  clear hS1
  have z1 := P1.size
  rw [World.size_alloc] at z1
  have g1 := (P1.heap (i := w.heap.size) (by simp) HNT.out).trans HG0.out
  have r1 := cell_of_heap g1
  have HP1 := Lib.hid P1
  clear g1 P1 r0
  go_wp2_with fail
  have Pa1 := HP1.out.ext ((Ext.refl _).alloc (.cells #[.int .i64 l.piece] 3))
  refine (field_any B wb _ _ _ false 1 _ 1 [l.piece] _ Pa1.1 (by simp; omega) (rd_one _ (.int .i64 l.piece) 3) (fun _ => off_new HP1.out.1) (by first | omega | (simp [leB_length, idB_length, idsR_length]; omega))).mono ?_
  rintro e w2 ⟨rfl, hS2⟩
  rw [field1_1 HK.out.2.1 HK.out.2.2] at hS2
  obtain ⟨A2, c2, P2⟩ := Pa1.step hS2
  clear hS2 Pa1
  have z2 := P2.size
  rw [World.size_alloc] at z2
  have g2 := (P2.heap (i := w.heap.size) (by simp) HNT.out).trans HG0.out
  have r2 := cell_of_heap g2
  have HP2 := Lib.hid P2
  clear g2 P2 r1
  go_wp2_with fail
  refine (yes_any B wb _ _ _ l.yes _ HP2.out.1 (by omega) (by first | omega | (simp [leB_length, idB_length, idsR_length]; omega))).mono ?_
  rintro e w3 ⟨rfl, hS3⟩
  obtain ⟨A3, c3, P3⟩ := HP2.out.step hS3
  clear hS3
  have z3 := P3.size
  rw [World.size_alloc] at z3
  have g3 := (P3.heap (i := w.heap.size) (by simp) HNT.out).trans HG0.out
  have r3 := cell_of_heap g3
  have HP3 := Lib.hid P3
  clear g3 P3 r2
  go_wp2_with fail
  have h := HP3.out.done
  rw [show bs ++ idB l.last ++ leB 1 l.piece ++ [yesI l.yes] = bs ++ bodyB l by rw [HBB.out]; simp] at h
  first
    | (go_end0; exact ⟨rfl, WStep.ext ((Ext.refl w).alloc _) h⟩)
    | (refine bodyPost_ret (results_none rfl _ _ _) rfl ?_; exact ⟨rfl, WStep.ext ((Ext.refl w).alloc _) h⟩)
set_option maxRecDepth 100000 in
set_option maxHeartbeats 2000000 in
theorem body_7 (B wb : Nat) (A : Option Addr) (c : Nat) (bs : List Int) (l : Let) (hk : l.kind = 7) (hc : l.puts) (w : World) (hW : Wr 61 B w wb A c bs false) (hB : B ≤ w.heap.size) (hl : bs.length ≤ 1000)
    (hin : l.inW w) (hO : l.off (touched wb A)) :
    Calls Tryz.prog 22 #[.pointer (some ⟨wb, 0, none⟩), l.v] w fun e w' => e = .returned (.tuple #[]) ∧ WStep 61 B wb A w (bs ++ bodyB l) false w' := by
  have q1 : (l.kind == 1) = false := by rw [hk]; rfl
  have q4 : (l.kind == 4) = false := by rw [hk]; rfl
  have q2 : (l.kind == 2) = false := by rw [hk]; rfl
  have q3 : (l.kind == 3) = false := by rw [hk]; rfl
  have q5 : (l.kind == 5) = false := by rw [hk]; rfl
  have q6 : (l.kind == 6) = false := by rw [hk]; rfl
  have q7 : (l.kind == 7) = true := by rw [hk]; rfl
  have q8 : (l.kind == 8) = false := by rw [hk]; rfl
  have HIN := Lib.hid (hin.ext ((Ext.refl w).alloc (.cells l.arr 34)))
  have HO := Lib.hid hO
  have HBB := Lib.hid (show bodyB l = idsR l.want ++ idB l.last ++ leB 1 l.piece by simp [bodyB, hk])
  have HK := Lib.hid (hc.k7 hk)
  have hw255 := HK.out.1.1
  clear hin hO hc hk
  have hlt := hW.lt
  have hW0 := hW.ext ((Ext.refl w).alloc (.cells l.arr 34))
  have HNT := Lib.hid (not_touched_new hW)
  have HG0 := Lib.hid (heap_alloc_new w (.cells l.arr 34))
  have HP0 := Lib.hid (WP.start hW0)
  have r0 := cell_of_heap HG0.out
  have z0 : w.heap.size + 1 ≤ (w.alloc (.cells l.arr 34)).heap.size := by simp
  have hV : l.v = .agg l.arr := rfl
  rw [hV]
  clear hV hW0
  go_enter Tryz.func22, Tryz.ntmps22
  go_wp2_with fail
  refine (idents_put B wb _ _ _ l.wA l.wc l.want HK.out.1.2 HK.out.1.1 _ HP0.out.1 (by omega) (by first | omega | (simp [leB_length, idB_length, idsB_length]; omega)) (HIN.out.w1.fr HP0.out.2.1 HO.out.w1) (HO.out.grow HIN.out HP0.out.2.2).w1).mono ?_
  rintro e w1 ⟨rfl, hS1⟩
  obtain ⟨A1, c1, P1⟩ := HP0.out.step hS1
  clear hS1
  have z1 := P1.size
  rw [World.size_alloc] at z1
  have g1 := (P1.heap (i := w.heap.size) (by simp) HNT.out).trans HG0.out
  have r1 := cell_of_heap g1
  have HP1 := Lib.hid P1
  clear g1 P1 r0
  go_wp2_with fail
  refine (ident_put B wb _ _ _ l.last HK.out.2.1 _ HP1.out.1 (by omega) (by first | omega | (simp [leB_length, idB_length, idsB_length]; omega))).mono ?_
  rintro e w2 ⟨rfl, hS2⟩
  obtain ⟨A2, c2, P2⟩ := HP1.out.step hS2
  clear hS2
  have z2 := P2.size
  rw [World.size_alloc] at z2
  have g2 := (P2.heap (i := w.heap.size) (by simp) HNT.out).trans HG0.out
  have r2 := cell_of_heap g2
  have HP2 := Lib.hid P2
  clear g2 P2 r1
  go_wp2_with fail
  have Pa2 := HP2.out.ext ((Ext.refl _).alloc (.cells #[.int .i64 l.piece] 3))
  refine (field_any B wb _ _ _ false 1 _ 1 [l.piece] _ Pa2.1 (by simp; omega) (rd_one _ (.int .i64 l.piece) 3) (fun _ => off_new HP2.out.1) (by first | omega | (simp [leB_length, idB_length, idsB_length]; omega))).mono ?_
  rintro e w3 ⟨rfl, hS3⟩
  rw [field1_1 HK.out.2.2.1 HK.out.2.2.2] at hS3
  obtain ⟨A3, c3, P3⟩ := Pa2.step hS3
  clear hS3 Pa2
  have z3 := P3.size
  rw [World.size_alloc] at z3
  have g3 := (P3.heap (i := w.heap.size) (by simp) HNT.out).trans HG0.out
  have r3 := cell_of_heap g3
  have HP3 := Lib.hid P3
  clear g3 P3 r2
  go_wp2_with fail
  have h := HP3.out.done
  rw [show bs ++ leB 1 l.want.length ++ idsB l.want ++ idB l.last ++ leB 1 l.piece = bs ++ bodyB l by rw [HBB.out]; simp [idsR]] at h
  first
    | (go_end0; exact ⟨rfl, WStep.ext ((Ext.refl w).alloc _) h⟩)
    | (refine bodyPost_ret (results_none rfl _ _ _) rfl ?_; exact ⟨rfl, WStep.ext ((Ext.refl w).alloc _) h⟩)
set_option maxRecDepth 100000 in
set_option maxHeartbeats 2000000 in
theorem body_8a (B wb : Nat) (A : Option Addr) (c : Nat) (bs : List Int) (l : Let) (hk : l.kind = 8) (hne : l.ents.length ≠ 0) (hc : l.puts) (w : World) (hW : Wr 61 B w wb A c bs false) (hB : B ≤ w.heap.size) (hl : bs.length ≤ 1000)
    (hin : l.inW w) (hO : l.off (touched wb A)) :
    Calls Tryz.prog 22 #[.pointer (some ⟨wb, 0, none⟩), l.v] w fun e w' => e = .returned (.tuple #[]) ∧ WStep 61 B wb A w (bs ++ bodyB l) false w' := by
  have q1 : (l.kind == 1) = false := by rw [hk]; rfl
  have q4 : (l.kind == 4) = false := by rw [hk]; rfl
  have q2 : (l.kind == 2) = false := by rw [hk]; rfl
  have q3 : (l.kind == 3) = false := by rw [hk]; rfl
  have q5 : (l.kind == 5) = false := by rw [hk]; rfl
  have q6 : (l.kind == 6) = false := by rw [hk]; rfl
  have q7 : (l.kind == 7) = false := by rw [hk]; rfl
  have q8 : (l.kind == 8) = true := by rw [hk]; rfl
  have HIN := Lib.hid (hin.ext ((Ext.refl w).alloc (.cells l.arr 34)))
  have HO := Lib.hid hO
  have HBB := Lib.hid (show bodyB l = entsR l.ents ++ idsR l.want by simp [bodyB, hk, hne])
  have HK := Lib.hid (hc.k8 hk)
  have HK2 := Lib.hid (HK.out.2.2 hne)
  have hn0 : ((l.ents.length : Int) == 0) = false := by rw [beq_eq_false_iff_ne]; omega
  have he255 := HK.out.1.1
  have hel := entsB_length l.ents HK.out.1.2
  clear hne
  clear hin hO hc hk
  have hlt := hW.lt
  have hW0 := hW.ext ((Ext.refl w).alloc (.cells l.arr 34))
  have HNT := Lib.hid (not_touched_new hW)
  have HG0 := Lib.hid (heap_alloc_new w (.cells l.arr 34))
  have HP0 := Lib.hid (WP.start hW0)
  have r0 := cell_of_heap HG0.out
  have z0 : w.heap.size + 1 ≤ (w.alloc (.cells l.arr 34)).heap.size := by simp
  have hV : l.v = .agg l.arr := rfl
  rw [hV]
  clear hV hW0
  go_enter Tryz.func22, Tryz.ntmps22
  go_wp2_with fail
  refine (entries_put B wb _ _ _ l.eA l.ec l.ents HK.out.1.2 HK.out.1.1 _ HP0.out.1 (by omega) (by first | omega | (simp [leB_length, idB_length, idsR_length]; omega)) (HIN.out.e1.fr HP0.out.2.1 HO.out.e1 HO.out.e2) (HO.out.grow HIN.out HP0.out.2.2).e1 (HO.out.grow HIN.out HP0.out.2.2).e2).mono ?_
  rintro e w1 ⟨rfl, hS1⟩
  obtain ⟨A1, c1, P1⟩ := HP0.out.step hS1
  clear hS1
  have z1 := P1.size
  rw [World.size_alloc] at z1
  have g1 := (P1.heap (i := w.heap.size) (by simp) HNT.out).trans HG0.out
  have r1 := cell_of_heap g1
  have HP1 := Lib.hid P1
  clear g1 P1 r0
  go_wp2_with fail
  refine (idents_put B wb _ _ _ l.wA l.wc l.want HK2.out.2 HK2.out.1 _ HP1.out.1 (by omega) (by first | omega | (simp [leB_length, idB_length, idsR_length]; omega)) (HIN.out.w1.fr HP1.out.2.1 HO.out.w1) (HO.out.grow HIN.out HP1.out.2.2).w1).mono ?_
  rintro e w2 ⟨rfl, hS2⟩
  obtain ⟨A2, c2, P2⟩ := HP1.out.step hS2
  clear hS2
  have z2 := P2.size
  rw [World.size_alloc] at z2
  have g2 := (P2.heap (i := w.heap.size) (by simp) HNT.out).trans HG0.out
  have r2 := cell_of_heap g2
  have HP2 := Lib.hid P2
  clear g2 P2 r1
  go_wp2_with fail
  have h := HP2.out.done
  rw [show bs ++ leB 1 l.ents.length ++ entsB l.ents ++ leB 1 l.want.length ++ idsB l.want = bs ++ bodyB l by rw [HBB.out]; simp [entsR, idsR]] at h
  first
    | (go_end0; exact ⟨rfl, WStep.ext ((Ext.refl w).alloc _) h⟩)
    | (refine bodyPost_ret (results_none rfl _ _ _) rfl ?_; exact ⟨rfl, WStep.ext ((Ext.refl w).alloc _) h⟩)
set_option maxRecDepth 100000 in
set_option maxHeartbeats 2000000 in
theorem body_8b (B wb : Nat) (A : Option Addr) (c : Nat) (bs : List Int) (l : Let) (hk : l.kind = 8) (hne : l.ents.length = 0) (hc : l.puts) (w : World) (hW : Wr 61 B w wb A c bs false) (hB : B ≤ w.heap.size) (hl : bs.length ≤ 1000)
    (hin : l.inW w) (hO : l.off (touched wb A)) :
    Calls Tryz.prog 22 #[.pointer (some ⟨wb, 0, none⟩), l.v] w fun e w' => e = .returned (.tuple #[]) ∧ WStep 61 B wb A w (bs ++ bodyB l) false w' := by
  have q1 : (l.kind == 1) = false := by rw [hk]; rfl
  have q4 : (l.kind == 4) = false := by rw [hk]; rfl
  have q2 : (l.kind == 2) = false := by rw [hk]; rfl
  have q3 : (l.kind == 3) = false := by rw [hk]; rfl
  have q5 : (l.kind == 5) = false := by rw [hk]; rfl
  have q6 : (l.kind == 6) = false := by rw [hk]; rfl
  have q7 : (l.kind == 7) = false := by rw [hk]; rfl
  have q8 : (l.kind == 8) = true := by rw [hk]; rfl
  have HIN := Lib.hid (hin.ext ((Ext.refl w).alloc (.cells l.arr 34)))
  have HO := Lib.hid hO
  have HBB := Lib.hid (show bodyB l = entsR l.ents ++ carryB l by simp [bodyB, hk, hne])
  have HK := Lib.hid (hc.k8 hk)
  have HK2 := Lib.hid (HK.out.2.1 hne)
  have hn0 : ((l.ents.length : Int) == 0) = true := by rw [beq_iff_eq]; omega
  have he255 := HK.out.1.1
  have hel := entsB_length l.ents HK.out.1.2
  clear hne
  clear hin hO hc hk
  have hlt := hW.lt
  have hW0 := hW.ext ((Ext.refl w).alloc (.cells l.arr 34))
  have HNT := Lib.hid (not_touched_new hW)
  have HG0 := Lib.hid (heap_alloc_new w (.cells l.arr 34))
  have HP0 := Lib.hid (WP.start hW0)
  have r0 := cell_of_heap HG0.out
  have z0 : w.heap.size + 1 ≤ (w.alloc (.cells l.arr 34)).heap.size := by simp
  have hV : l.v = .agg l.arr := rfl
  rw [hV]
  clear hV hW0
  go_enter Tryz.func22, Tryz.ntmps22
  go_wp2_with fail
  refine (entries_put B wb _ _ _ l.eA l.ec l.ents HK.out.1.2 HK.out.1.1 _ HP0.out.1 (by omega) (by first | omega | (simp [leB_length, idB_length, idsR_length]; omega)) (HIN.out.e1.fr HP0.out.2.1 HO.out.e1 HO.out.e2) (HO.out.grow HIN.out HP0.out.2.2).e1 (HO.out.grow HIN.out HP0.out.2.2).e2).mono ?_
  rintro e w1 ⟨rfl, hS1⟩
  obtain ⟨A1, c1, P1⟩ := HP0.out.step hS1
  clear hS1
  have z1 := P1.size
  rw [World.size_alloc] at z1
  have g1 := (P1.heap (i := w.heap.size) (by simp) HNT.out).trans HG0.out
  have r1 := cell_of_heap g1
  have HP1 := Lib.hid P1
  clear g1 P1 r0
  go_wp2_with (refine wpList_load_let rfl _ rfl w.heap.size l rfl ((HP1.out.heap (i := w.heap.size) (by simp) HNT.out).trans HG0.out) ?_)
  refine (carry_put B wb _ _ _ l HK2.out _ HP1.out.1 (by omega) (by first | omega | (simp [leB_length, idB_length, idsR_length]; omega)) (HIN.out.fr HP1.out.2.1 HO.out) (HO.out.grow HIN.out HP1.out.2.2)).mono ?_
  rintro e w2 ⟨rfl, hS2⟩
  obtain ⟨A2, c2, P2⟩ := HP1.out.step hS2
  clear hS2
  have z2 := P2.size
  rw [World.size_alloc] at z2
  have g2 := (P2.heap (i := w.heap.size) (by simp) HNT.out).trans HG0.out
  have r2 := cell_of_heap g2
  have HP2 := Lib.hid P2
  clear g2 P2 r1
  go_wp2_with fail
  have h := HP2.out.done
  rw [show bs ++ leB 1 l.ents.length ++ entsB l.ents ++ carryB l = bs ++ bodyB l by rw [HBB.out]; simp [entsR]] at h
  first
    | (go_end0; exact ⟨rfl, WStep.ext ((Ext.refl w).alloc _) h⟩)
    | (refine bodyPost_ret (results_none rfl _ _ _) rfl ?_; exact ⟨rfl, WStep.ext ((Ext.refl w).alloc _) h⟩)
theorem body_put (B wb : Nat) (A : Option Addr) (c : Nat) (bs : List Int) (l : Let) (hk : 1 ≤ l.kind ∧ l.kind ≤ 8) (hc : l.puts) (w : World) (hW : Wr 61 B w wb A c bs false) (hB : B ≤ w.heap.size) (hl : bs.length ≤ 1000)
    (hin : l.inW w) (hO : l.off (touched wb A)) :
    Calls Tryz.prog 22 #[.pointer (some ⟨wb, 0, none⟩), l.v] w fun e w' => e = .returned (.tuple #[]) ∧ WStep 61 B wb A w (bs ++ bodyB l) false w' := by
  by_cases h1 : l.kind = 1
  · exact body_1 B wb A c bs l h1 hc w hW hB hl hin hO
  by_cases h2 : l.kind = 2
  · exact body_2 B wb A c bs l h2 hc w hW hB hl hin hO
  by_cases h3 : l.kind = 3
  · exact body_3 B wb A c bs l h3 hc w hW hB hl hin hO
  by_cases h4 : l.kind = 4
  · exact body_4 B wb A c bs l h4 hc w hW hB hl hin hO
  by_cases h5 : l.kind = 5
  · exact body_5 B wb A c bs l h5 hc w hW hB hl hin hO
  by_cases h6 : l.kind = 6
  · exact body_6 B wb A c bs l h6 hc w hW hB hl hin hO
  by_cases h7 : l.kind = 7
  · exact body_7 B wb A c bs l h7 hc w hW hB hl hin hO
  have h8 : l.kind = 8 := by omega
  by_cases h0 : l.ents.length = 0
  · exact body_8b B wb A c bs l h8 h0 hc w hW hB hl hin hO
  · exact body_8a B wb A c bs l h8 h0 hc w hW hB hl hin hO
end Go.Proofs.YtcapapnhlkmeaaaGreatDoor
