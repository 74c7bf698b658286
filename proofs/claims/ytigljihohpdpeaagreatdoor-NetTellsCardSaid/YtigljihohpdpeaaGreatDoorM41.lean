/-
  Look.
  The law's loop: what lies in memory at each round, and what it means.
  The plain law of below: greedy matching.
-/
import Derived.Test.YtigljihohpdpeaaGreatDoorM36
import Derived.Test.YtigljihohpdpeaaGreatDoorM33
namespace Go.Proofs.YtigljihohpdpeaaGreatDoor
open Go.RowKit

/-- Letters in memory of their own, from block B on. -/
structure NewLets (B : Nat) (w : World) (A : Option Addr) (c : Nat) (ms : List Let) : Prop where
  o : OwnW 23 w B 44 A ms.length c (flat ms)
  h : ∀ m ∈ ms, Held (fun i => i < B ∨ blk A i) w m
theorem NewLets.ext {B : Nat} {w w' : World} {A : Option Addr} {c : Nat} {ms : List Let} (h : NewLets B w A c ms) (he : Ext w w') : NewLets B w' A c ms := ⟨h.o.ext he, fun m hm => (h.h m hm).ext he⟩
theorem NewLets.lets {B : Nat} {w : World} {A : Option Addr} {c : Nat} {ms : List Let} (h : NewLets B w A c ms) : LetsIn w A ms := LetsIn.own h.o fun m hm => (h.h m hm).i
def LookP (us : List Let) (w : World) (e : Ending) (w' : World) : Prop := ∃ A c ms, e = .returned (.slice A us.length c) ∧ ms.map Let.cont = us.map Let.cont ∧ NewLets w.heap.size w' A c ms ∧ Ext w w'
def LookRel (us : List Let) (w : World) (v i : Value) (wr : World) : Prop :=
  ∃ (k : Nat) (A : Option Addr) (c : Nat) (ms : List Let), k ≤ us.length ∧ i = .int .i64 k ∧ v = .slice A k c ∧ ms.length = k ∧ ms.map Let.cont = (us.take k).map Let.cont ∧ NewLets w.heap.size wr A c ms ∧ Ext w wr
theorem wpList_buildL {ops : Array Oper} {rest : List Oper} {o : Oper} {a : Act} {w : World} {Q : Exit → Act → World → Prop} (hgd : o.guard = none) (x : Operand) (l : Let)
    (ho : o.op = .buildSlice 27 1 #[(0, x)]) (hx : a.eval x = l.v)
    (h : wpList Tryz.prog ops Q rest (a.put o.dst (.slice (some ⟨w.heap.size, 0, none⟩) 1 1)) (w.alloc (.cells l.arr 44))) : wpList Tryz.prog ops Q (o :: rest) a w := by
  refine wpList_plain hgd fun K hK => ?_
  have hV : l.v = .agg l.arr := rfl
  rw [hV] at hx
  unfold Oper.wp execOp
  simp only [ho, hx, List.map_toArray, List.map_cons, List.map_nil]
  have hb := buildL l
  go_simp
  rw [← hb] at h
  exact hK _ _ h
set_option maxRecDepth 100000 in
set_option maxHeartbeats 4000000 in
theorem look_any (w : World) (B nb bb : Nat) (A : Option Addr) (c : Nat) (s : NetS) (hN : NetAt w B nb bb A c s) (hf : s.us.length ≤ 5000) :
    Calls Tryz.prog 7 #[.pointer (some ⟨nb, 0, none⟩)] w (LookP s.us w) := by
  have HT := Lib.hid (there_any nb bb s.off w hN.n1)
  have c0 := net_c0 hN.n1
  have b0 := bag_c0 hN.b1
  have HN := Lib.hid hN
  clear hN
  go_enter Tryz.func7, Tryz.ntmps7
  go_wp2_with fail
  refine (HT.out).mono ?_
  rintro ev w1 ⟨rfl, rfl⟩
  go_wp2_with fail
  go_loopw [2, 16] (fun v i wr => LookRel s.us w v i wr) (fun _ i _ => s.us.length - (intOf i).toNat)
  case atStart => exact ⟨0, none, 0, [], Nat.zero_le _, rfl, rfl, rfl, rfl, ⟨OwnW.nil _ _ _ _, fun m hm => by simp at hm⟩, Ext.refl _⟩
  case round =>
    obtain ⟨k, A1, c1, ms, hk, rfl, rfl, hml, hmc, hNL, hE⟩ := hrel
    have HE := Lib.hid hE
    have HNL := Lib.hid hNL
    have HMC := Lib.hid hmc
    clear hE hNL hmc
    by_cases hlt : k < s.us.length
    · obtain ⟨g, f, u, rfl, hu, hr, _⟩ := (HN.out.ext HE.out).lets.at_ hlt
      have HH := Lib.hid ((HN.out.u2 u (List.mem_of_getElem? hu)).ext HE.out)
      have HTK := Lib.hid (take_snoc' hu)
      clear hu
      go_wp2_with (first | (refine wpList_load_letAt rfl _ rfl g (f + k * 23) u (by simp [Act.eval, Act.put]) hr ?_) | (refine wpList_load_letAt rfl _ rfl wr.heap.size 0 u rfl (range_heap HG5.out) ?_) | (refine wpList_store_all rfl _ _ rfl rfl wr.heap.size u _ rfl rfl (heap_alloc_new wr _) (by simp) ?_; intro w5 hG5 hF5; have HG5 := Lib.hid hG5; have HF5 := Lib.hid hF5; clear hG5 hF5))
      have HE5 := Lib.hid (show Ext wr w5 from ((Fr.ofExt (isB wr.heap.size) ((Ext.refl wr).alloc _)).trans HF5.out (fun _ _ h => h)).toExt (fun i hi => by unfold isB at hi; omega))
      refine (own_any u w5 (HH.out.i.ext HE5.out) HH.out.s).mono ?_
      rintro ev w6 ⟨u', rfl, huc, hui, huo, hE6⟩
      have HE6 := Lib.hid (HE5.out.trans hE6)
      have hsz := HE5.out.sz
      have hsz6 := hE6.sz
      have hW := HE.out.sz
      have HE7 := Lib.hid ((HE6.out).alloc (.cells u'.arr 44))
      have HNL7 := Lib.hid (HNL.out.ext HE7.out)
      have HU := Lib.hid (And.intro huc (And.intro (hui.ext ((Ext.refl w6).alloc (.cells u'.arr 44))) huo))
      have hO := HNL7.out.o
      have hr7 : Rd (w6.alloc (.cells u'.arr 44)) (some ⟨w6.heap.size, 0, none⟩) (flat [u']) := fun j v hj => ⟨_, rfl, by
        rw [add_lit', Nat.zero_add, cell_of_heap (heap_alloc_new w6 _)]
        simpa [flat] using hj⟩
      clear hr huc hui huo hE6
      go_wp2_with (first | (refine wpList_buildL rfl _ u' rfl rfl ?_) | (at_builtin; refine appendLets _ rfl _ _ rfl w.heap.size A1 _ c1 ms rfl hml.symm hO _ 1 1 [u'] rfl rfl hr7 (by simp only [List.length_cons, List.length_nil]; omega) (by rw [World.size_alloc]; omega) ?_; intro A3 c3 w3 hO3 hF3 hA3))
      go_roundw
      case rel =>
        refine ⟨k + 1, A3, c3, ms ++ [u'], by omega, by go_num, by simp [hml], by simp [hml], by rw [HTK.out, List.map_append, List.map_append, HMC.out]; simp [HU.out.1], ⟨hO3, fun m hm => ?_⟩, ownW_fresh hO (HE.out.trans HE7.out) hF3⟩
        have hA1 : ∀ i, blk A1 i → i < wr.heap.size := fun i hi => (HNL.out.o.lt hi).2
        rcases List.mem_append.1 hm with hm | hm
        · refine (HNL7.out.h m hm).fr (hF3.mono fun i _ t => .inr t) fun i hi h => ?_
          rcases h with h | h
          · exact .inl h
          · rcases hA3 i h with h | h
            · exact .inr h
            · omega
        · simp at hm
          subst hm
          refine ⟨HU.out.2.1.fr hF3 (HU.out.2.2.sub fun i hi => Nat.lt_of_lt_of_le (hA1 i hi) hsz), HU.out.2.2.new HU.out.2.1 fun i hi h => ?_, small_cont HU.out.1 HH.out.s⟩
          rcases h with h | h
          · omega
          · rcases hA3 i h with h | h
            · exact Nat.lt_of_lt_of_le (hA1 i h) hsz
            · omega
      case measure => simp [intOf]; omega
    · obtain rfl : k = s.us.length := by omega
      go_wp2
      go_ret
      exact ⟨A1, c1, ms, rfl, by rw [HMC.out, List.take_length], HNL.out, HE.out⟩
end Go.Proofs.YtigljihohpdpeaaGreatDoor
namespace Go.Proofs.YtigljihohpdpeaaGreatDoor
open Go.RowKit

theorem Let.off.or {S T : Nat → Prop} {l : Let} (h : l.off S) (k : l.off T) : l.off (fun i => S i ∨ T i) :=
  ⟨fun hx ad ha hn => hn.elim (h.w1 hx ad ha) (k.w1 hx ad ha), fun hx ad ha hn => hn.elim (h.e1 hx ad ha) (k.e1 hx ad ha), fun e he hx ad ha hn => hn.elim (h.e2 e he hx ad ha) (k.e2 e he hx ad ha),
    fun hx ad ha hn => hn.elim (h.m1 hx ad ha) (k.m1 hx ad ha), fun hx ad ha hn => hn.elim (h.u1 hx ad ha) (k.u1 hx ad ha), fun hx ad ha hn => hn.elim (h.b1 hx ad ha) (k.b1 hx ad ha)⟩

/-- The blocks that the loop turns. -/
def Mu (nb bb : Nat) (A As Ag : Option Addr) : Nat → Prop := fun i => mutN nb bb A i ∨ (blk As i ∨ blk Ag i)
/-- The net, and the rows of what was sent and of what was got. -/
structure NT (w : World) (B nb bb : Nat) (A : Option Addr) (c : Nat) (s : NetS) (As : Option Addr) (cs : Nat) (SS : List Let) (Ag : Option Addr) (cg : Nat) (GG : List Let) : Prop where
  n : NetAt w B nb bb A c s
  o1 : OwnW 23 w B 44 As SS.length cs (flat SS)
  o2 : OwnW 23 w B 44 Ag GG.length cg (flat GG)
  d1 : ∀ i, blk As i → ¬ mutN nb bb A i
  d2 : ∀ i, blk Ag i → ¬ mutN nb bb A i
  d3 : ∀ i, blk As i → ¬ blk Ag i
  hu : ∀ u ∈ s.us, u.off (Mu nb bb A As Ag)
  hs : ∀ u ∈ SS, u.inW w ∧ u.off (Mu nb bb A As Ag)
  hg : ∀ u ∈ GG, u.inW w ∧ u.off (Mu nb bb A As Ag)
section
variable {w w' : World} {B nb bb : Nat} {A As Ag : Option Addr} {c cs cg : Nat} {s : NetS} {SS GG : List Let}
theorem NT.ext (h : NT w B nb bb A c s As cs SS Ag cg GG) (he : Ext w w') : NT w' B nb bb A c s As cs SS Ag cg GG :=
  ⟨h.n.ext he, h.o1.ext he, h.o2.ext he, h.d1, h.d2, h.d3, h.hu, fun u hu => ⟨(h.hs u hu).1.ext he, (h.hs u hu).2⟩, fun u hu => ⟨(h.hg u hu).1.ext he, (h.hg u hu).2⟩⟩
theorem NT.lt (h : NT w B nb bb A c s As cs SS Ag cg GG) {i : Nat} (hi : Mu nb bb A As Ag i) : B ≤ i ∧ i < w.heap.size := by
  rcases hi with hi | hi | hi
  · exact h.n.mut_lt hi
  · exact h.o1.lt hi
  · exact h.o2.lt hi
theorem NT.ls (h : NT w B nb bb A c s As cs SS Ag cg GG) : LetsIn w As SS := LetsIn.own h.o1 fun u hu => (h.hs u hu).1
theorem NT.lg (h : NT w B nb bb A c s As cs SS Ag cg GG) : LetsIn w Ag GG := LetsIn.own h.o2 fun u hu => (h.hg u hu).1
/-- A call on the net. -/
theorem NT.step (h : NT w B nb bb A c s As cs SS Ag cg GG) {s' : NetS} (hst : NetStep w B nb bb A s' w') (hn : ∀ u ∈ s'.us, u ∈ s.us ∨ u.off (fun i => i < w.heap.size)) :
    ∃ A' c', NT w' B nb bb A' c' s' As cs SS Ag cg GG ∧ Fr (mutN nb bb A) w w' ∧ ∀ i, Mu nb bb A' As Ag i → Mu nb bb A As Ag i ∨ w.heap.size ≤ i := by
  obtain ⟨A', c', hN, hF, hA⟩ := hst
  have hm : ∀ i, mutN nb bb A' i → mutN nb bb A i ∨ w.heap.size ≤ i := fun i hi => by
    rcases hi with hi | hi | hi
    · exact .inl (.inl hi)
    · exact .inl (.inr (.inl hi))
    · exact (hA i hi).imp (fun t => .inr (.inr t)) id
  have hM : ∀ i, i < w.heap.size → Mu nb bb A' As Ag i → Mu nb bb A As Ag i := fun i hi h => by
    rcases h with h | h
    · rcases hm i h with h | h
      · exact .inl h
      · omega
    · exact .inr h
  refine ⟨A', c', ⟨hN, h.o1.fr hF h.d1, h.o2.fr hF h.d2, fun i hi t => ?_, fun i hi t => ?_, h.d3, fun u hu => ?_, fun u hu => ?_, fun u hu => ?_⟩, hF, fun i hi => ?_⟩
  · rcases hm i t with t | t
    · exact h.d1 i hi t
    · have := (h.o1.lt hi).2
      omega
  · rcases hm i t with t | t
    · exact h.d2 i hi t
    · have := (h.o2.lt hi).2
      omega
  · rcases hn u hu with h1 | h1
    · exact (h.hu u h1).new (h.n.u2 u h1).i hM
    · exact (hN.u2 u hu).o.or ((h1.sub (T := blk As) fun i hi => (h.o1.lt hi).2).or (h1.sub (T := blk Ag) fun i hi => (h.o2.lt hi).2))
  · obtain ⟨h1, h2⟩ := h.hs u hu
    exact ⟨h1.fr hF (h2.sub fun i t => .inl t), h2.new h1 hM⟩
  · obtain ⟨h1, h2⟩ := h.hg u hu
    exact ⟨h1.fr hF (h2.sub fun i t => .inl t), h2.new h1 hM⟩
  · by_cases hl : i < w.heap.size
    · exact .inl (hM i hl hi)
    · exact .inr (by omega)
/-- An append onto what was sent. -/
theorem NT.grow_s (h : NT w B nb bb A c s As cs SS Ag cg GG) {As' : Option Addr} {cs' : Nat} {ns : List Let} (ho : OwnW 23 w' B 44 As' (SS ++ ns).length cs' (flat (SS ++ ns))) (hF : Fr (blk As) w w') (hA : ∀ i, blk As' i → blk As i ∨ w.heap.size ≤ i)
    (hn : ∀ u ∈ ns, u.inW w ∧ u.off (Mu nb bb A As Ag)) : NT w' B nb bb A c s As' cs' (SS ++ ns) Ag cg GG := by
  have hM : ∀ i, i < w.heap.size → Mu nb bb A As' Ag i → Mu nb bb A As Ag i := fun i hi h => by
    rcases h with h | h | h
    · exact .inl h
    · rcases hA i h with h | h
      · exact .inr (.inl h)
      · omega
    · exact .inr (.inr h)
  have hk : ∀ u : Let, u.inW w ∧ u.off (Mu nb bb A As Ag) → u.inW w' ∧ u.off (Mu nb bb A As' Ag) := fun u hu => ⟨hu.1.fr hF (hu.2.sub fun i t => .inr (.inl t)), hu.2.new hu.1 hM⟩
  refine ⟨h.n.fr hF h.d1 (fun u hu => (h.hu u hu).sub fun i t => .inr (.inl t)), ho, h.o2.fr hF (fun i hi t => h.d3 i t hi), fun i hi t => ?_, h.d2, fun i hi t => ?_, fun u hu => (h.hu u hu).new (h.n.u2 u hu).i hM, fun u hu => ?_, fun u hu => hk u (h.hg u hu)⟩
  · rcases hA i hi with hi | hi
    · exact h.d1 i hi t
    · have := (h.n.mut_lt t).2
      omega
  · rcases hA i hi with hi | hi
    · exact h.d3 i hi t
    · have := (h.o2.lt t).2
      omega
  · rcases List.mem_append.1 hu with hu | hu
    · exact hk u (h.hs u hu)
    · exact hk u (hn u hu)
/-- An append onto what was got. -/
theorem NT.grow_g (h : NT w B nb bb A c s As cs SS Ag cg GG) {Ag' : Option Addr} {cg' : Nat} {ns : List Let} (ho : OwnW 23 w' B 44 Ag' (GG ++ ns).length cg' (flat (GG ++ ns))) (hF : Fr (blk Ag) w w') (hA : ∀ i, blk Ag' i → blk Ag i ∨ w.heap.size ≤ i)
    (hn : ∀ u ∈ ns, u.inW w ∧ u.off (Mu nb bb A As Ag)) : NT w' B nb bb A c s As cs SS Ag' cg' (GG ++ ns) := by
  have hM : ∀ i, i < w.heap.size → Mu nb bb A As Ag' i → Mu nb bb A As Ag i := fun i hi h => by
    rcases h with h | h | h
    · exact .inl h
    · exact .inr (.inl h)
    · rcases hA i h with h | h
      · exact .inr (.inr h)
      · omega
  have hk : ∀ u : Let, u.inW w ∧ u.off (Mu nb bb A As Ag) → u.inW w' ∧ u.off (Mu nb bb A As Ag') := fun u hu => ⟨hu.1.fr hF (hu.2.sub fun i t => .inr (.inr t)), hu.2.new hu.1 hM⟩
  refine ⟨h.n.fr hF h.d2 (fun u hu => (h.hu u hu).sub fun i t => .inr (.inr t)), h.o1.fr hF (fun i hi t => h.d3 i hi t), ho, h.d1, fun i hi t => ?_, fun i hi t => ?_, fun u hu => (h.hu u hu).new (h.n.u2 u hu).i hM, fun u hu => hk u (h.hs u hu), fun u hu => ?_⟩
  · rcases hA i hi with hi | hi
    · exact h.d2 i hi t
    · have := (h.n.mut_lt t).2
      omega
  · rcases hA i t with t | t
    · exact h.d3 i hi t
    · have := (h.o1.lt hi).2
      omega
  · rcases List.mem_append.1 hu with hu | hu
    · exact hk u (h.hg u hu)
    · exact hk u (hn u hu)
end

/-- A letter that is kept. -/
theorem let_keep {S S' T : Nat → Prop} {w w' : World} {u : Let} (hi : u.inW w) (ho : u.off S) (hF : Fr T w w') (hT : ∀ i, T i → S i) (hM : ∀ i, S' i → S i ∨ w.heap.size ≤ i) : u.inW w' ∧ u.off S' :=
  ⟨hi.fr hF (ho.sub hT), ho.new hi fun i hl h => (hM i h).elim id fun h => by omega⟩
theorem Let.off.none (l : Let) : l.off (fun _ => False) := ⟨fun _ _ _ h => h, fun _ _ _ h => h, fun _ _ _ _ _ h => h, fun _ _ _ h => h, fun _ _ _ h => h, fun _ _ _ h => h⟩
theorem Let.inW.old {T : Nat → Prop} {w : World} {l : Let} (hi : l.inW w) (hT : ∀ i, T i → w.heap.size ≤ i) : l.off T :=
  (Let.off.none l).new hi fun i hl h => by have := hT i h; omega
theorem LetsIn.old {T : Nat → Prop} {w : World} {D : Option Addr} {ls : List Let} (h : LetsIn w D ls) (hT : ∀ i, T i → w.heap.size ≤ i) (hn : ls ≠ []) : Off T D := fun ad ha ht => by
  obtain ⟨b, f, l, hb, hl, hr, _⟩ := h.at_ (k := 0) (by cases ls with | nil => exact absurd rfl hn | cons x xs => simp)
  rw [hb] at ha
  injection ha with ha
  subst ha
  have h1 := hr 0 _ (List.getElem?_eq_getElem (by rw [arr_len]; omega))
  have := World.block_lt_of_cell? w _ h1
  have := hT _ ht
  simp only at *
  omega
theorem erase_perm {α : Type} {l : List α} {k : Nat} {x : α} (h : l[k]? = some x) : (x :: l.eraseIdx k).Perm l := by
  induction l generalizing k with
  | nil => simp at h
  | cons y l ih =>
    cases k with
    | zero =>
      simp at h
      subst h
      exact List.Perm.refl _
    | succ k =>
      simp only [List.eraseIdx_cons_succ]
      exact (List.Perm.swap y x _).trans ((ih (by simpa using h)).cons y)
/-- What was sent is what was got, is under way, and was lost. -/
structure NR (s : NetS) (SS GG LL : List Let) : Prop where
  p : ((GG ++ s.us ++ LL).map Let.cont).Perm (SS.map Let.cont)
  c1 : s.sent + s.twice = SS.length
  c2 : s.gone = GG.length
  c3 : s.lost = LL.length
  c4 : 0 ≤ s.sent
  c5 : 0 ≤ s.twice
section
variable {s : NetS} {SS GG LL : List Let}
theorem NR.len (h : NR s SS GG LL) : GG.length + s.us.length + LL.length = SS.length := by
  have := h.p.length_eq
  simp at this
  omega
theorem NR.sum (h : NR s SS GG LL) : (s.us.length : Int) + s.gone + s.lost = s.sent + s.twice := by
  have := h.len
  rw [h.c1, h.c2, h.c3]
  omega
theorem NR.fits (h : NR s SS GG LL) (hb : SS.length ≤ 4000) : s.fits := by
  have h1 := h.len
  have h2 := h.c1
  have h3 := h.c2
  have h4 := h.c3
  have h5 := h.c4
  have h6 := h.c5
  exact ⟨by omega, by omega, by omega, by omega, by omega⟩
theorem NR.zero : NR ⟨[], 0, 0, 0, 0, List.replicate 8 false⟩ [] [] [] := ⟨List.Perm.refl _, rfl, rfl, rfl, Int.le_refl _, Int.le_refl _⟩
theorem NR.take (h : NR s SS GG LL) {k : Nat} {u : Let} (hu : s.us[k]? = some u) : NR { s with us := s.us.eraseIdx k, gone := s.gone + 1 } SS (GG ++ [u]) LL := by
  refine ⟨(List.Perm.map _ ?_).trans h.p, h.c1, by simp [h.c2], h.c3, h.c4, h.c5⟩
  simp only [List.append_assoc, List.cons_append, List.nil_append]
  exact List.Perm.append_left _ (List.Perm.append_right LL (erase_perm hu))
theorem NR.lose (h : NR s SS GG LL) {k : Nat} {u : Let} (hu : s.us[k]? = some u) : NR { s with us := s.us.eraseIdx k, lost := s.lost + 1 } SS GG (LL ++ [u]) := by
  refine ⟨(List.Perm.map _ ?_).trans h.p, h.c1, h.c2, by simp [h.c3], h.c4, h.c5⟩
  simp only [List.append_assoc]
  refine List.Perm.append_left _ ?_
  refine (List.Perm.append_left _ List.perm_append_comm).trans ?_
  simp only [List.cons_append, List.nil_append]
  exact List.perm_middle.trans (List.Perm.append_right LL (erase_perm hu))
theorem NR.more (h : NR s SS GG LL) {ms ls : List Let} (hm : ms.map Let.cont = ls.map Let.cont) {a b : Int} (h1 : s.sent + s.twice + ls.length = a + b) (ha : 0 ≤ a) (hb : 0 ≤ b) : NR { s with us := s.us ++ ms, sent := a, twice := b } (SS ++ ls) GG LL := by
  refine ⟨?_, ?_, h.c2, h.c3, ha, hb⟩
  · have hp := h.p
    simp only [List.map_append, List.append_assoc] at hp ⊢
    rw [hm]
    refine List.Perm.trans ?_ (List.Perm.append_right _ hp)
    simp only [List.append_assoc]
    exact List.Perm.append_left _ (List.Perm.append_left _ List.perm_append_comm)
  · have := h.c1
    simp only [List.length_append]
    omega
theorem NR.cut (h : NR s SS GG LL) (off : List Bool) : NR { s with off := off } SS GG LL := ⟨h.p, h.c1, h.c2, h.c3, h.c4, h.c5⟩
end
end Go.Proofs.YtigljihohpdpeaaGreatDoor
namespace Go.Proofs.YtigljihohpdpeaaGreatDoor
section
variable {C : Type} [DecidableEq C]
def usedOf (c : C) : List Bool → List C → Nat
  | u :: us, x :: xs => (if u = true ∧ x = c then 1 else 0) + usedOf c us xs
  | _, _ => 0
theorem gr_free {c : C} : ∀ (us : List Bool) (b : List C), us.length = b.length → usedOf c us b < b.count c → ∃ k : Nat, us[k]? = some false ∧ b[k]? = some c
  | [], [], _, h => by simp at h
  | [], _ :: _, h, _ => by simp at h
  | _ :: _, [], h, _ => by simp at h
  | u :: us, x :: xs, hl, h => by
    by_cases hx : u = false ∧ x = c
    · exact ⟨0, by simp [hx.1], by simp [hx.2]⟩
    · obtain ⟨k, h1, h2⟩ := gr_free (c := c) us xs (by simpa using hl) (by
        simp only [usedOf, List.count_cons] at h
        by_cases hxc : x = c
        · have hu : u = true := by cases u with
            | true => rfl
            | false => exact absurd ⟨rfl, hxc⟩ hx
          simp [hu, hxc] at h
          omega
        · simp [hxc] at h
          exact h)
      exact ⟨k + 1, by simpa using h1, by simpa using h2⟩
theorem gr_used_set {c d : C} : ∀ (us : List Bool) (b : List C) (k : Nat), us[k]? = some false → b[k]? = some d → usedOf c (us.set k true) b = usedOf c us b + if d = c then 1 else 0
  | [], _, k, h, _ => by simp at h
  | _ :: _, [], k, _, h => by simp at h
  | u :: us, x :: xs, 0, h, h2 => by
    simp at h h2
    subst h h2
    simp only [List.set_cons_zero, usedOf]
    by_cases hc : x = c
    · simp [hc]; omega
    · simp [hc]
  | u :: us, x :: xs, k + 1, h, h2 => by
    simp only [List.set_cons_succ, usedOf]
    rw [gr_used_set us xs k (by simpa using h) (by simpa using h2)]
    omega
theorem gr_used_none (c : C) : ∀ (n : Nat) (b : List C), usedOf c (List.replicate n false) b = 0
  | 0, b => by cases b <;> rfl
  | n + 1, [] => by simp [List.replicate_succ, usedOf]
  | n + 1, x :: xs => by simp [List.replicate_succ, usedOf, gr_used_none c n xs]
/-- At each step of the greedy walk there is a free like one. -/
theorem gr_step {a b : List C} (h : ∀ c, a.count c ≤ b.count c) {i : Nat} {x : C} (hi : a[i]? = some x) {us : List Bool} (hl : us.length = b.length) (hu : ∀ c, usedOf c us b = (a.take i).count c) :
    ∃ k : Nat, us[k]? = some false ∧ b[k]? = some x := by
  refine gr_free us b hl ?_
  rw [hu x]
  have h1 := h x
  have h2 : (a.take (i + 1)).count x ≤ a.count x := List.Sublist.count_le x (List.take_sublist _ _)
  rw [List.take_add_one, hi] at h2
  simp at h2
  omega
theorem gr_step_set {a b : List C} {i : Nat} {x : C} (hi : a[i]? = some x) {us : List Bool} (hu : ∀ c, usedOf c us b = (a.take i).count c) {k : Nat} (h1 : us[k]? = some false) (h2 : b[k]? = some x) :
    ∀ c, usedOf c (us.set k true) b = (a.take (i + 1)).count c := by
  intro c
  rw [gr_used_set us b k h1 h2, hu c, List.take_add_one, hi]
  by_cases hc : x = c
  · simp [hc]
  · simp [hc]
end
theorem gr_counts {C : Type} [DecidableEq C] {a r b : List C} (h : (a ++ r).Perm b) : ∀ c, a.count c ≤ b.count c := fun c => by
  rw [← h.count_eq c, List.count_append]
  omega
end Go.Proofs.YtigljihohpdpeaaGreatDoor
