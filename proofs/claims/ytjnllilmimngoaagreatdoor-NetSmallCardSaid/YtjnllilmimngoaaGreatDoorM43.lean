/-
  apart, ApartLetters.
  NetDoes: both nets, anew.
  NetDoes.
  full: what the net holds (plain).
-/
import Derived.Test.YtjnllilmimngoaaGreatDoorM42
import Derived.Test.YtjnllilmimngoaaGreatDoorM37
import Derived.Test.YtjnllilmimngoaaGreatDoorM35
import Derived.Test.YtjnllilmimngoaaGreatDoorM19
import Derived.Test.YtjnllilmimngoaaGreatDoorM18
import Derived.Test.YtjnllilmimngoaaGreatDoorM20
namespace Go.Proofs.YtjnllilmimngoaaGreatDoor
open Go.RowKit

def zA (x : List Value) (k : Nat) : Option Addr := match x[k]? with
  | some (.slice A _ _) => A
  | _ => none
theorem ZS.rows {M : Nat} {x : List Value} (h : ZS M x) : x = (List.range M).map (rowU (zA x) (fun _ => 0) (fun _ => 0)) := by
  apply List.ext_getElem?
  intro k
  by_cases hk : k < M
  · have h1 : x[k]? = some (x[k]'(by rw [h.1]; exact hk)) := List.getElem?_eq_getElem (by rw [h.1]; exact hk)
    obtain ⟨A, hA⟩ := h.2 _ (List.mem_of_getElem? h1)
    rw [hA] at h1
    simp [hk, rowU, zA, h1]
  · rw [List.getElem?_eq_none (by rw [h.1]; omega), List.getElem?_eq_none (by simp; omega)]
theorem ZS.ls {M B c : Nat} {x : List Value} {w : World} {st : TypeId} {L : Option Addr} (h : ZS M x) (hO : Own w B st L c x) : LsW st w B L c M (zA x) (fun _ => 0) (fun _ => 0) := own_cong hO h.rows
set_option maxRecDepth 100000 in
set_option maxHeartbeats 2000000 in
theorem apart_bs {w0 w : World} {gb M c14 N B : Nat} {L14 : Option Addr} (A : Nat → Option Addr) (n c : Nat → Nat) (X : Nat → List Value) (h : BS w0 w gb L14 c14 ((List.range N).map (rowU A n c)) M) (hR : RowsL w0 B N A n c X) (hd : Dis N A) (hB : B ≤ w0.heap.size) (hM : M ≤ 50000) (hN : N ≤ 1000) (hn : ∀ j, j < N → n j ≤ 100000) :
    Calls Tryz.prog 39 #[.pointer (some ⟨gb, 0, none⟩)] w fun e w' => e = .returned (.bool true) ∧ Fr (RB N A) w w' := by
  obtain ⟨L0, L2, L5, L8, L9, c0, c2, c5, c8, c9, x0, x2, x5, x8, x9, h, z0, z2, z5, z8, z9⟩ := h
  have k0 := z0.1
  have k2 := z2.1
  have k5 := z5.1
  have k8 := z8.1
  have k9 := z9.1
  have HZ := Lib.hid (And.intro z0 (And.intro z2 (And.intro z5 (And.intro z8 z9))))
  have h14 : ((List.range N).map (rowU A n c)).length = N := by simp
  clear z0 z2 z5 z8 z9
  have hF := Ext.refl w
  have hB2 := h.s
  have b0 := cell_of_heap h.h 0
  simp [bagC, k0] at b0
  have HB := Lib.hid h
  have HE := Lib.hid hF
  clear h hF
  go_enter Tryz.func39, Tryz.ntmps39
  go_wp2_with fail
  refine (flatLimbs_0 _ _ _ M (zA x0) _ (HZ.out.1.ls HB.out.o0) hM).mono ?_
  rintro e w1 ⟨rfl, hE1⟩
  have HB1 := Lib.hid (HB.out.ext hE1)
  have HE1 := Lib.hid (HE.out.trans hE1)
  clear hE1 b0 HB HE
  have b1 := cell_of_heap HB1.out.h 1
  simp [bagC] at b1
  go_wp2_with fail
  refine (flatWords_nil _).mono ?_
  rintro e w2 ⟨rfl, hE2⟩
  have HB2 := Lib.hid (HB1.out.ext hE2)
  have HE2 := Lib.hid (HE1.out.trans hE2)
  clear hE2 b1 HB1 HE1
  have b2 := cell_of_heap HB2.out.h 2
  simp [bagC, k2] at b2
  go_wp2_with fail
  refine (flatInts_0 _ _ _ M (zA x2) _ (HZ.out.2.1.ls HB2.out.o2) hM).mono ?_
  rintro e w3 ⟨rfl, hE3⟩
  have HB3 := Lib.hid (HB2.out.ext hE3)
  have HE3 := Lib.hid (HE2.out.trans hE3)
  clear hE3 b2 HB2 HE2
  have b3 := cell_of_heap HB3.out.h 3
  simp [bagC] at b3
  go_wp2_with fail
  refine (flatLongs_nil _).mono ?_
  rintro e w4 ⟨rfl, hE4⟩
  have HB4 := Lib.hid (HB3.out.ext hE4)
  have HE4 := Lib.hid (HE3.out.trans hE4)
  clear hE4 b3 HB3 HE3
  have b4 := cell_of_heap HB4.out.h 4
  simp [bagC] at b4
  go_wp2_with fail
  refine (flatTexts_nil _).mono ?_
  rintro e w5 ⟨rfl, hE5⟩
  have HB5 := Lib.hid (HB4.out.ext hE5)
  have HE5 := Lib.hid (HE4.out.trans hE5)
  clear hE5 b4 HB4 HE4
  have b5 := cell_of_heap HB5.out.h 5
  simp [bagC, k5] at b5
  go_wp2_with fail
  refine (flatBytes_0 _ _ _ M (zA x5) _ (HZ.out.2.2.1.ls HB5.out.o5) hM).mono ?_
  rintro e w6 ⟨rfl, hE6⟩
  have HB6 := Lib.hid (HB5.out.ext hE6)
  have HE6 := Lib.hid (HE5.out.trans hE6)
  clear hE6 b5 HB5 HE5
  have b6 := cell_of_heap HB6.out.h 6
  simp [bagC] at b6
  go_wp2_with fail
  refine (flatTruths_nil _).mono ?_
  rintro e w7 ⟨rfl, hE7⟩
  have HB7 := Lib.hid (HB6.out.ext hE7)
  have HE7 := Lib.hid (HE6.out.trans hE7)
  clear hE7 b6 HB6 HE6
  have b7 := cell_of_heap HB7.out.h 7
  simp [bagC] at b7
  go_wp2_with fail
  refine (flatUnits_nil _).mono ?_
  rintro e w8 ⟨rfl, hE8⟩
  have HB8 := Lib.hid (HB7.out.ext hE8)
  have HE8 := Lib.hid (HE7.out.trans hE8)
  clear hE8 b7 HB7 HE7
  have b8 := cell_of_heap HB8.out.h 8
  simp [bagC, k8] at b8
  go_wp2_with fail
  refine (flatEntries_0 _ _ _ M (zA x8) _ (HZ.out.2.2.2.1.ls HB8.out.o8) hM).mono ?_
  rintro e w9 ⟨rfl, hE9⟩
  have HB9 := Lib.hid (HB8.out.ext hE9)
  have HE9 := Lib.hid (HE8.out.trans hE9)
  clear hE9 b8 HB8 HE8
  have b9 := cell_of_heap HB9.out.h 9
  simp [bagC, k9] at b9
  go_wp2_with fail
  refine (flatIdents_0 _ _ _ M (zA x9) _ (HZ.out.2.2.2.2.ls HB9.out.o9) hM).mono ?_
  rintro e w10 ⟨rfl, hE10⟩
  have HB10 := Lib.hid (HB9.out.ext hE10)
  have HE10 := Lib.hid (HE9.out.trans hE10)
  clear hE10 b9 HB9 HE9
  have b10 := cell_of_heap HB10.out.h 10
  simp [bagC] at b10
  go_wp2_with fail
  refine (flatMetas_nil _).mono ?_
  rintro e w11 ⟨rfl, hE11⟩
  have HB11 := Lib.hid (HB10.out.ext hE11)
  have HE11 := Lib.hid (HE10.out.trans hE11)
  clear hE11 b10 HB10 HE10
  have b11 := cell_of_heap HB11.out.h 11
  simp [bagC] at b11
  go_wp2_with fail
  refine (flatMarks_nil _).mono ?_
  rintro e w12 ⟨rfl, hE12⟩
  have HB12 := Lib.hid (HB11.out.ext hE12)
  have HE12 := Lib.hid (HE11.out.trans hE12)
  clear hE12 b11 HB11 HE11
  have b12 := cell_of_heap HB12.out.h 12
  simp [bagC] at b12
  go_wp2_with fail
  refine (flatSnaps_nil _).mono ?_
  rintro e w13 ⟨rfl, hE13⟩
  have HB13 := Lib.hid (HB12.out.ext hE13)
  have HE13 := Lib.hid (HE12.out.trans hE13)
  clear hE13 b12 HB12 HE12
  have b13 := cell_of_heap HB13.out.h 13
  simp [bagC] at b13
  go_wp2_with fail
  refine (flatShapes_nil _).mono ?_
  rintro e w14 ⟨rfl, hE14⟩
  have HB14 := Lib.hid (HB13.out.ext hE14)
  have HE14 := Lib.hid (HE13.out.trans hE14)
  clear hE14 b13 HB13 HE13
  have b14 := cell_of_heap HB14.out.h 14
  simp [bagC] at b14
  go_wp2_with fail
  refine (flatLetters_any B L14 c14 N A n c X _ (HB14.out.o14.lower (by omega)) (hR.ext HB14.out.e) hd hN hn (by have := HB14.out.e.sz; omega)).mono ?_
  rintro e w15 ⟨rfl, hF15⟩
  go_wp2_with fail
  go_ret
  exact ⟨rfl, (Fr.ofExt _ HE14.out).trans hF15 (fun _ _ h => h)⟩
theorem range_map_succ' (k : Nat) (f : Nat → Value) : (List.range (k + 1)).map f = (List.range k).map f ++ [f k] := by simp [List.range_succ]
def AlRel (w0 : World) (gb : Nat) (A : Nat → Option Addr) (n c : Nat → Nat) (N : Nat) (i : Value) (wr : World) : Prop := ∃ (k : Nat) (L14 : Option Addr) (c14 M : Nat), k ≤ N ∧ i = .int .i64 k ∧ BS w0 wr gb L14 c14 ((List.range k).map (rowU A n c)) M ∧ M ≤ k * 10000
set_option maxRecDepth 100000 in
set_option maxHeartbeats 2000000 in
theorem apartLetters_any {B : Nat} (D : Option Addr) (d N : Nat) (A : Nat → Option Addr) (c : Nat → Nat) (U : Nat → List Let) (w : World) (hD : Rd w D ((List.range N).map (rowU A (fun k => (U k).length) c))) (hR : ∀ k, k < N → OwnW 23 w B 35 (A k) (U k).length (c k) (flat (U k))) (hL : ∀ k, k < N → LetsIn w (A k) (U k)) (hl : ∀ k, k < N → ∀ l ∈ U k, l.light) (ht : ∀ k, k < N → ∀ l ∈ U k, l.tight) (hd : Dis N A) (hB : B ≤ w.heap.size) (hN : N ≤ 5) (hn : ∀ j, j < N → (U j).length ≤ 10000) :
    Calls Tryz.prog 14 #[.slice D N d] w fun e w' => e = .returned (.bool true) ∧ Fr (RB N A) w w' := by
  have HS0 := Lib.hid (BS.start w)
  have HD := Lib.hid hD
  have HL := Lib.hid hL
  have HLI := Lib.hid hl
  have HTI := Lib.hid ht
  have HR := Lib.hid hR
  have hE0 := (Ext.refl w).alloc (.cells (bagC (.slice none 0 0) (.slice none 0 0) (.slice none 0 0) (.slice none 0 0) (.slice none 0 0) (.slice none 0 0)) 96)
  have HE0 := Lib.hid hE0
  clear hD hL hl ht hR hE0
  go_enter Tryz.func14, Tryz.ntmps14
  go_wp2_with fail
  go_loopw [4] (fun i wr => AlRel w w.heap.size A (fun k => (U k).length) c N i wr) (fun i _ => N - (intOf i).toNat)
  case atStart => exact ⟨0, none, 0, 0, Nat.zero_le _, rfl, HS0.out, Nat.le_refl _⟩
  case round =>
    obtain ⟨k, L, c14, M, hk, rfl, hS, hM⟩ := hrel
    by_cases hlt : k < N
    · have hE : Ext w wr := by
        obtain ⟨_, _, _, _, _, _, _, _, _, _, _, _, _, _, _, hB9, _⟩ := hS
        exact hB9.e
      obtain ⟨ad, rfl, hc⟩ := (HD.out.ext hE).at_ (k := k) (by simpa using hlt)
      simp [rowU] at hc
      have hnk := hn k hlt
      have H1 := Lib.hid (putLetters_bs hS (A k) (c k) (U k) (HL.out k hlt) (HLI.out k hlt) (HTI.out k hlt) (by omega) (by simp; omega))
      clear hS hE
      go_wp2_with fail
      refine (H1.out).mono ?_
      rintro e w2 ⟨rfl, A3, c3, hS2⟩
      go_wp2_with fail
      have hS3 : BS w w2 w.heap.size A3 c3 ((List.range (k + 1)).map (rowU A (fun k => (U k).length) c)) (M + (U k).length) := by
        rw [range_map_succ']
        exact hS2
      exact ⟨⟨k + 1, A3, c3, _, by omega, by go_num, hS3, by omega⟩, by simp [intOf]; omega⟩
    · obtain rfl : k = N := by omega
      have hE : Ext w wr := by
        obtain ⟨_, _, _, _, _, _, _, _, _, _, _, _, _, _, _, hB9, _⟩ := hS
        exact hB9.e
      have H1 := Lib.hid (apart_bs A (fun k => (U k).length) c (fun k => flat (U k)) hS HR.out hd hB (by omega) (by omega) (fun j hj => Nat.le_trans (hn j hj) (by omega)))
      clear hS
      go_wp2_with fail
      refine (H1.out).mono ?_
      rintro e w2 ⟨rfl, hF2⟩
      go_wp2_with fail
      go_ret
      exact ⟨rfl, (Fr.ofExt _ hE).trans hF2 (fun _ _ h => h)⟩
end Go.Proofs.YtjnllilmimngoaaGreatDoor
namespace Go.Proofs.YtjnllilmimngoaaGreatDoor
open Go.RowKit

def RefS.zero : RefS := ⟨[], [], 0, 0, 0, 0⟩
theorem nets_start {w w1 w2 : World} (hN : NetAt w1 w.heap.size (w.heap.size + 1) w.heap.size none 0 NetS.zero) (h1 : Ext w w1) (hR : RefAt w2 w1.heap.size w1.heap.size none 0 none 0 RefS.zero) (h2 : Ext w1 w2) :
    JAt No w.heap.size (w.heap.size + 1) w.heap.size w1.heap.size NetS.zero RefS.zero w2 := by
  have hb := heap_lt hN.n1
  refine ⟨none, 0, none, 0, none, 0, hN.ext h2, ⟨hR.r1, OwnW.nil _ _ _ _, Own.nil _ _ _, hR.u2, h1.sz⟩, fun i hi t => ?_, fun i _ t => t, fun i _ t => t⟩
  rcases hi with hi | hi | hi
  · rcases t with t | t | t
    · omega
    · simp [blk] at t
    · simp [blk] at t
  · rcases t with t | t | t
    · omega
    · simp [blk] at t
    · simp [blk] at t
  · simp [blk] at hi
theorem sr_zero : SR NetS.zero RefS.zero :=
  ⟨rfl, fun u h => by simp [NetS.zero] at h, fun u h => by simp [NetS.zero] at h, fun u h => by simp [NetS.zero] at h, by decide, rfl, rfl, rfl, rfl, rfl, rfl⟩
theorem sb_zero : SB NetS.zero 0 := ⟨by simp [NetS.zero], by simp [NetS.zero], by simp [NetS.zero], by simp [NetS.zero], by simp [NetS.zero]⟩
/-- Both nets behind some deeds. -/
def NdSt (B nb bb rb : Nat) (m : Int) (w0 w : World) : Prop := ∃ s r, JAt No B nb bb rb s r w ∧ SR s r ∧ SB s m ∧ Ext w0 w
def NdRel (B nb bb rb : Nat) (ds : List Deed) (w0 : World) (i : Value) (wr : World) : Prop := ∃ k : Nat, k ≤ ds.length ∧ i = .int .i64 k ∧ NdSt B nb bb rb ((k : Int) + lens (ds.take k)) w0 wr
structure Deed.good (N : Nat) (d : Deed) : Prop where
  l : ∀ l ∈ d.ls, l.light
  b : ∀ i, blk d.lA i → i < N
theorem lens_take (ds : List Deed) (k : Nat) : lens (ds.take k) ≤ lens ds := by
  have h : lens ds = lens (ds.take k) + lens (ds.drop k) := by
    conv => lhs; rw [← List.take_append_drop k ds]
    unfold lens
    rw [List.map_append, List.sum_append]
  omega
theorem lens_at {ds : List Deed} {k : Nat} {d : Deed} (h : ds[k]? = some d) : lens (ds.take (k + 1)) = lens (ds.take k) + d.ls.length := by rw [take_snoc' h, lens_snoc]
theorem lens_mem {ds : List Deed} {d : Deed} (h : d ∈ ds) : d.ls.length ≤ lens ds := by
  induction ds with
  | nil => simp at h
  | cons x xs ih =>
    rcases List.mem_cons.1 h with rfl | h
    · simp [lens]
    · have := ih h
      simp [lens] at this ⊢
      omega
end Go.Proofs.YtjnllilmimngoaaGreatDoor
namespace Go.Proofs.YtjnllilmimngoaaGreatDoor
open Go.RowKit

theorem OwnW.lower' {sz : Nat} {w : World} {B B' n c : Nat} {e : TypeId} {A : Option Addr} {xs : List Value} (h : OwnW sz w B e A n c xs) (hB : B' ≤ B) : OwnW sz w B' e A n c xs := by
  rcases h.cases with ⟨rfl, rfl, rfl, rfl⟩ | ⟨g, cur, rfl, hb, hg, hh, h1, h2, h3, h4⟩
  · exact OwnW.nil sz w B' e
  · exact OwnW.mk (by omega) hh h1 h2 h3 h4
theorem infoDeedN : (Tryz.prog.info? 38).map (·.size) = some 4 := by kernel_rfl
def pair2 {α : Type} (a b : α) : Nat → α := fun k => if k = 0 then a else b
theorem pair_all {α : Type} {a b : α} {P : Nat → α → Prop} (h0 : P 0 a) (h1 : P 1 b) : ∀ k, k < 2 → P k (pair2 a b k) := fun k hk => by
  rcases (by omega : k = 0 ∨ k = 1) with rfl | rfl
  · exact h0
  · exact h1
theorem apart2 {w0 w1 w2 : World} {A1 A2 : Option Addr} {c1 c2 n : Nat} {ms1 ms2 : List Let} (h1 : NewLets w0.heap.size w1 A1 c1 ms1) (hE1 : Ext w0 w1) (h2 : NewLets w1.heap.size w2 A2 c2 ms2) (hE2 : Ext w1 w2) (n1 : ms1.length = n) (n2 : ms2.length = n) (l1 : ∀ l ∈ ms1, l.light) (l2 : ∀ l ∈ ms2, l.light) (hn : n ≤ 10000) :
    Calls Tryz.prog 14 #[.slice (some ⟨w2.heap.size, 0, none⟩) 2 2] (w2.alloc (.cells #[.slice A1 n c1, .slice A2 n c2] 22)) fun e w' => e = .returned (.bool true) ∧ Fr (fun i => w0.heap.size ≤ i) (w2.alloc (.cells #[.slice A1 n c1, .slice A2 n c2] 22)) w' := by
  have hE := (Ext.refl w2).alloc (.cells #[.slice A1 n c1, .slice A2 n c2] 22)
  have h1' := h1.ext (hE2.trans hE)
  have h2' := h2.ext hE
  have hs1 := hE1.sz
  have hs2 := hE2.sz
  refine (apartLetters_any (B := w0.heap.size) (some ⟨w2.heap.size, 0, none⟩) 2 2 (pair2 A1 A2) (pair2 c1 c2) (pair2 ms1 ms2) _ ?_ ?_ ?_ ?_ ?_ ?_ ?_ (by omega) ?_).mono ?_
  · have h := rd_new w2 #[.slice A1 n c1, .slice A2 n c2] 22
    have e : ((List.range 2).map (rowU (pair2 A1 A2) (fun k => (pair2 ms1 ms2 k).length) (pair2 c1 c2))) = [.slice A1 n c1, .slice A2 n c2] := by
      simp [List.range_succ, rowU, pair2, n1, n2]
    rw [e]
    exact h
  · intro k hk
    rcases (by omega : k = 0 ∨ k = 1) with rfl | rfl
    · exact h1'.o
    · exact OwnW.lower' h2'.o (by omega)
  · intro k hk
    rcases (by omega : k = 0 ∨ k = 1) with rfl | rfl
    · exact h1'.lets
    · exact h2'.lets
  · exact pair_all (P := fun _ (ls : List Let) => ∀ l ∈ ls, l.light) l1 l2
  · exact pair_all (P := fun _ (ls : List Let) => ∀ l ∈ ls, l.tight) h1.t h2.t
  · intro k j hk hj hne i hi hi'
    have q1 : ∀ i, blk A1 i → i < w1.heap.size := fun i hi => (h1.o.lt hi).2
    have q2 : ∀ i, blk A2 i → w1.heap.size ≤ i := fun i hi => (h2.o.lt hi).1
    rcases (by omega : (k = 0 ∧ j = 1) ∨ (k = 1 ∧ j = 0)) with ⟨rfl, rfl⟩ | ⟨rfl, rfl⟩
    · have := q1 i hi
      have := q2 i hi'
      omega
    · have := q1 i hi'
      have := q2 i hi
      omega
  · have := hE.sz
    omega
  · exact pair_all (P := fun _ (ls : List Let) => ls.length ≤ 10000) (by omega) (by omega)
  · rintro e w' ⟨rfl, hF⟩
    refine ⟨rfl, hF.mono fun i _ t => ?_⟩
    obtain ⟨k, hk, hi⟩ := t
    rcases (by omega : k = 0 ∨ k = 1) with rfl | rfl
    · exact (h1.o.lt hi).1
    · have := (h2.o.lt hi).1
      omega
set_option maxRecDepth 100000 in
set_option maxHeartbeats 4000000 in
theorem netDoes_any (A : Option Addr) (c : Nat) (ds : List Deed) (w : World) (hA : DeedsIn w A ds) (hg : ErrT w) (hl : ds.length ≤ 1000) (hd : ∀ d ∈ ds, d.good w.heap.size) :
    Calls Tryz.prog 5 #[.slice A ds.length c] w fun e w' => e = .returned (.bool true) ∧ Ext w w' := by
  have HGR := Lib.hid (great_any A c ds w hA (by omega))
  have hB : 0 < w.heap.size := World.block_lt_of_cell? w _ hg
  have HA := Lib.hid hA
  have HG := Lib.hid hg
  have HD := Lib.hid hd
  clear hA hg hd
  go_enter Tryz.func5, Tryz.ntmps5
  go_wp2_with fail
  refine (HGR.out).mono ?_
  rintro ev w1 ⟨b, rfl, hb, hE1⟩
  have HE1 := Lib.hid hE1
  have hs1 := hE1.sz
  cases b with
  | true =>
    clear hb hE1
    go_wp2_with fail
    refine (awake_any w1 (HG.out.ext HE1.out)).mono ?_
    rintro ev w2 ⟨rfl, hE2⟩
    go_wp2_with fail
    go_ret
    exact ⟨rfl, HE1.out.trans hE2⟩
  | false =>
    obtain ⟨h60, h15, -⟩ := hb rfl
    clear hb hE1
    go_wp2_with fail
    refine (new_any w1).mono ?_
    rintro ev w2 ⟨rfl, hN2, hE2⟩
    have HN2 := Lib.hid hN2
    have HE2 := Lib.hid hE2
    clear hN2 hE2
    go_wp2_with fail
    refine (new_ref w2).mono ?_
    rintro ev w3 ⟨rfl, hR3, hE3⟩
    have HJ3 := Lib.hid (nets_start HN2.out HE2.out hR3 hE3)
    have HE3 := Lib.hid (HE2.out.trans hE3)
    clear hR3 hE3
    generalize hrb : w2.heap.size = rb at *
    generalize hnb : w1.heap.size + 1 = nb at *
    go_wp2_with fail
    go_loopw [5] (fun i wr => NdRel w1.heap.size nb w1.heap.size rb ds w1 i wr) (fun i _ => ds.length - (intOf i).toNat)
    case atStart => exact ⟨0, Nat.zero_le _, rfl, NetS.zero, RefS.zero, HJ3.out, sr_zero, sb_zero.up (by simp [lens]), HE3.out⟩
    case round =>
      clear HJ3 HE3 HN2 HE2
      obtain ⟨k, hk, rfl, s, r, hJ, hs, hsb, hE⟩ := hrel
      have hlk := lens_take ds k
      by_cases hlt : k < ds.length
      · obtain ⟨b, f, d, rfl, he, hr, hin⟩ := (HA.out.ext (HE1.out.trans hE)).at_ hlt
        have hmem := List.mem_of_getElem? he
        have hgd := HD.out d hmem
        have hl1 := lens_at he
        have hl2 := lens_mem hmem
        have HE := Lib.hid hE
        have HDO := Lib.hid (does_any ((k : Int) + lens (ds.take k)) hJ hs hsb (by omega) (by omega) hE.sz (HG.out.ext (HE1.out.trans hE)) d.what d.i d.off d.lA d.lc d.ls hin.l1 hgd.l (by omega) (fun i hi => Nat.lt_of_lt_of_le (hgd.b i hi) hs1))
        have hr2 : World.rangeAt wr b (f + k * 4) [.int .i64 d.what, .int .i64 d.i, .bool d.off, .slice d.lA d.ls.length d.lc] := hr
        clear hr hin hgd hmem he hJ hs hsb hE
        go_wp2_with (refine wpList_load_mid rfl 38 _ rfl b (f + k * 4) (by simp [Act.eval, Act.put]) _ _ hr2 Tryz.underlying38 rfl infoDeedN ?_)
        refine (HDO.out).mono ?_
        rintro ev w4 ⟨rfl, ⟨s', r', hJ', hs', hb'⟩, hF4⟩
        have HE4 := Lib.hid (Fr.low HE.out hF4 (fun i hi => hi))
        have HJ := Lib.hid hJ'
        have HS := Lib.hid hs'
        have HSB := Lib.hid hb'
        have HSM := Lib.hid (same_any No w1.heap.size nb w1.heap.size rb s' r' w4 hJ' hs' (hb'.fits (by omega)))
        clear hF4 hJ' hs' hb' hr2
        go_wp2_with fail
        refine (HSM.out).mono ?_
        rintro ev w5 ⟨rfl, hE5⟩
        have HE5 := Lib.hid hE5
        clear hE5
        go_wp2_with fail
        exact ⟨⟨k + 1, by omega, by go_num, s', r', HJ.out.ext HE5.out, HS.out, HSB.out.up (by rw [hl1]; push_cast; omega), HE4.out.trans HE5.out⟩, by simp [intOf]; omega⟩
      · obtain rfl : k = ds.length := by omega
        rw [List.take_length] at hsb
        have hfit := hsb.fits (by omega)
        have HJ := Lib.hid hJ
        have HS := Lib.hid hs
        have HF := Lib.hid hfit
        have HE := Lib.hid hE
        obtain ⟨A', c', Ar, cr, Ac, cc, hN, -⟩ := hJ
        have HL1 := Lib.hid (look_any wr w1.heap.size nb w1.heap.size A' c' s hN hfit.f1)
        have HN := Lib.hid hN
        clear hs hsb hfit hE hN
        go_wp2_with fail
        refine (HL1.out).mono ?_
        rintro ev w4 ⟨A1, c1, ms1, rfl, hm1, hn1, hE4⟩
        have HM1 := Lib.hid (And.intro hm1 hn1)
        have HE4 := Lib.hid hE4
        clear hm1 hn1 hE4 HL1
        go_wp2_with fail
        refine (look_any w4 w1.heap.size nb w1.heap.size A' c' s (HN.out.ext HE4.out) HF.out.f1).mono ?_
        rintro ev w5 ⟨A2, c2, ms2, rfl, hm2, hn2, hE5⟩
        have HAP := Lib.hid (apart2 HM1.out.2 HE4.out hn2 hE5 (by simpa using congrArg List.length HM1.out.1) (by simpa using congrArg List.length hm2) (light_all HM1.out.1 HS.out.l) (light_all hm2 HS.out.l) HF.out.f1)
        have HE5 := Lib.hid (HE4.out.trans hE5)
        clear hm2 hn2 hE5
        go_wp2_with fail
        refine (HAP.out).mono ?_
        rintro ev w6 ⟨rfl, hF6⟩
        have hJ6 := ((HJ.out.grow (Y := fun i => wr.heap.size ≤ i) (HE5.out.alloc _) (fun i hi => .inr hi)).fr hF6 (fun i hi => hi) HS.out.l)
        have HSM := Lib.hid (same_any _ w1.heap.size nb w1.heap.size rb s r w6 hJ6 HS.out HF.out)
        have HE6 := Lib.hid (Fr.low (HE.out.trans (HE5.out.alloc _)) hF6 (fun i hi => Nat.le_trans HE.out.sz hi))
        clear hF6 hJ6 HAP
        go_wp2_with fail
        refine (HSM.out).mono ?_
        rintro ev w7 ⟨rfl, hE7⟩
        have HE7 := Lib.hid (HE6.out.trans hE7)
        clear hE7
        go_wp2_with fail
        refine (awake_any w7 (HG.out.ext (HE1.out.trans HE7.out))).mono ?_
        rintro ev w8 ⟨rfl, hE8⟩
        go_wp2_with fail
        go_ret
        exact ⟨rfl, (HE1.out.trans HE7.out).trans hE8⟩
end Go.Proofs.YtjnllilmimngoaaGreatDoor
namespace Go.Proofs.YtjnllilmimngoaaGreatDoor
open Go.RowKit

def vs (k : Nat) : List Let := (List.range k).map fun (j : Nat) => voteL 1 2 (j : Int)
def cv (j : Nat) : LetC := (voteL 1 2 (j : Int)).cont
theorem arr_len' (l : Let) : l.arr.size = 23 := by simp [Let.arr]
theorem vs_len (k : Nat) : (vs k).length = k := by simp [vs]
theorem vs_succ (k : Nat) : vs (k + 1) = vs k ++ [voteL 1 2 (k : Int)] := by simp [vs, List.range_succ]
theorem vs_light {k : Nat} : ∀ l ∈ vs k, l.light := fun l hl => by
  obtain ⟨j, _, rfl⟩ := List.mem_map.1 hl
  exact vote_light _ _ _
theorem vs_take {k n : Nat} (h : k ≤ n) : vs k = (vs n).take k := by
  unfold vs
  rw [← List.map_take, List.take_range, Nat.min_eq_left h]
theorem right_vote (m : Int) (h0 : 0 ≤ m) (h1 : m ≤ 1099511627776) : rightL (voteL 1 2 m) = true := by
  have e1 : (voteL 1 2 m).ok = inR m 0 1099511627776 := rfl
  have e2 : plainEq (voteL 1 2 m).own (voteL 1 2 m) = true := rfl
  unfold rightL
  rw [e1, e2, inR_iff.2 ⟨h0, h1⟩]
  rfl
theorem vs_right {k : Nat} (hk : k ≤ 100000) : (vs k).all rightL = true := by
  rw [List.all_eq_true]
  intro l hl
  obtain ⟨j, hj, rfl⟩ := List.mem_map.1 hl
  simp at hj
  exact right_vote _ (by omega) (by omega)
def Vc (k : Nat) : List LetC := (List.range k).map cv
theorem vs_cont (k : Nat) : (vs k).map Let.cont = Vc k := by simp [vs, Vc, cv]
theorem Vc_len (k : Nat) : (Vc k).length = k := by simp [Vc]
theorem LetsIn.take {w : World} {A : Option Addr} {ls : List Let} (h : LetsIn w A ls) (k : Nat) : LetsIn w A (ls.take k) := fun j l hl => by
  have h1 := (List.getElem?_eq_some_iff.1 hl).1
  rw [List.getElem?_take_of_lt (by simp at h1; omega)] at hl
  exact h j l hl
theorem map_erase {α β : Type} (f : α → β) (us : List α) (k : Nat) : (us.eraseIdx k).map f = (us.map f).eraseIdx k := by
  induction us generalizing k with
  | nil => simp
  | cons x xs ih => cases k <;> simp [ih]
/-- The net of full, at a time. -/
def FN (B nb : Nat) (K : List LetC) (sent gone twice : Int) (w : World) : Prop :=
  ∃ A c us, NetAt w B nb B A c ⟨us, sent, gone, 0, twice, List.replicate 8 false⟩ ∧ us.map Let.cont = K
def LeB (B : Nat) : World → World → Prop := Fr (fun i => B ≤ i)
/-- Small blocks of letters are kept, too. -/
def LeS (B : Nat) (w w' : World) : Prop := Fr (fun i => B ≤ i) w w' ∧ ∀ (i : Nat) (arr : Array Value), w.heap[i]? = some (.cells arr 35) → arr.size = 23 → w'.heap[i]? = some (.cells arr 35)
theorem LeS.ofExt {B : Nat} {w w' : World} (h : Ext w w') : LeS B w w' := ⟨Fr.ofExt _ h, fun _i _arr h1 _ => h.blk h1⟩
theorem LeS.trans {B : Nat} {w w1 w2 : World} (h : LeS B w w1) (k : LeS B w1 w2) : LeS B w w2 := ⟨h.1.trans k.1 (fun _ _ t => t), fun i arr h1 h2 => k.2 i arr (h.2 i arr h1 h2) h2⟩
section
variable {B nb : Nat} {K : List LetC} {sent gone twice : Int} {w w' : World}
theorem FN.ext (h : FN B nb K sent gone twice w) (he : Ext w w') : FN B nb K sent gone twice w' := by
  obtain ⟨A, c, us, h1, h2⟩ := h
  exact ⟨A, c, us, h1.ext he, h2⟩
theorem fn_fits {us : List Let} (hl : us.length ≤ 10000) (h1 : 0 ≤ sent ∧ sent ≤ 100000) (h2 : 0 ≤ gone ∧ gone ≤ 1000) (h3 : 0 ≤ twice ∧ twice ≤ 1000) : NetS.fits ⟨us, sent, gone, 0, twice, List.replicate 8 false⟩ :=
  ⟨hl, ⟨h1.1, by simp only; omega⟩, ⟨h2.1, by simp only; omega⟩, ⟨by simp, by simp⟩, ⟨h3.1, by simp only; omega⟩⟩
theorem fn_low {A : Option Addr} {c : Nat} {s : NetS} (h : NetAt w B nb B A c s) : ∀ i, mutN nb B A i → B ≤ i := fun _i hi => (h.mut_lt hi).1
theorem fn_off {A : Option Addr} {c : Nat} {s : NetS} (h : NetAt w B nb B A c s) (h2 : 2 ≤ s.us.length) {i : Nat} {arr : Array Value} (h1 : w.heap[i]? = some (.cells arr 35)) (h3 : arr.size = 23) : ¬ mutN nb B A i := by
  intro t
  rcases t with rfl | rfl | t
  · have h4 := h.n1.symm.trans h1
    injection h4 with h4
    injection h4 with _ h4
    exact absurd h4 (by decide)
  · have h4 := h.b1.symm.trans h1
    injection h4 with h4
    injection h4 with _ h4
    exact absurd h4 (by decide)
  · rcases h.u1.cases with ⟨rfl, _⟩ | ⟨g, cur, rfl, _, _, hh, hle, _, hsz, _⟩
    · simp [blk] at t
    · have e : g = i := by simpa [blk] using t
      subst e
      have h4 := hh.symm.trans h1
      injection h4 with h4
      injection h4 with h4
      subst h4
      omega
theorem fn_small {A : Option Addr} {c : Nat} {s : NetS} (h : NetAt w B nb B A c s) (h2 : 2 ≤ s.us.length) (hF : Fr (mutN nb B A) w w') : LeS B w w' :=
  ⟨hF.mono fun i _ t => fn_low h i t, fun _ _ h1 h3 => (hF.block _ (heap_lt h1) (fn_off h h2 h1 h3)).trans h1⟩
theorem fsend (h : FN B nb K sent gone twice w) (hK : K.length ≤ 10000) (h1 : 0 ≤ sent ∧ sent ≤ 100000) (h2 : 0 ≤ gone ∧ gone ≤ 1000) (h3 : 0 ≤ twice ∧ twice ≤ 1000) (hB : 0 < B) (hBw : B ≤ w.heap.size) (hg : ErrT w) (D : Option Addr) (d : Nat) (ls : List Let) (hL : LetsIn w D ls) (hl : ∀ l ∈ ls, l.light) (hr : ls.all rightL = true) (hn : ls.length ≤ 10000) (n : Nat) (hnn : n = ls.length)
    (hD : ∀ A c s, NetAt w B nb B A c s → s.us.length = K.length → ls ≠ [] → Off (mutN nb B A) D) :
    Calls Tryz.prog 16 #[.pointer (some ⟨nb, 0, none⟩), .slice D n d] w fun e w' => (K.length + n ≤ 10000 ∧ e = .returned (.int .i64 0) ∧ LeB B w w' ∧ FN B nb (K ++ ls.map Let.cont) (sent + n) gone twice w') ∨ (10000 < K.length + n ∧ e = .returned (.int .i64 3) ∧ Ext w w') := by
  subst hnn
  obtain ⟨A, c, us, hN, hu⟩ := h
  have hlen : us.length = K.length := by rw [← hu]; simp
  refine (send_any w B nb B A c _ hN (fn_fits (by omega) h1 h2 h3) hB hBw hg D d ls hL hn (hD A c _ hN hlen) (fun l hm => (hl l hm).held _ _)).mono ?_
  rintro ev w1 (⟨h, _⟩ | ⟨_, h, rfl, hE⟩ | ⟨_, h, rfl, ms, hms, _, A4, c4, hN4, hF4, hA4⟩)
  · rw [hr] at h
    cases h
  · exact .inr ⟨by have h9 : 10000 < us.length + ls.length := h; omega, rfl, hE⟩
  · exact .inl ⟨by have h9 : us.length + ls.length ≤ 10000 := h; omega, rfl, hF4.mono fun i _ t => fn_low hN i t, A4, c4, us ++ ms, hN4, by rw [List.map_append, hu, hms]⟩
theorem fcopy (h : FN B nb K sent gone twice w) (hK : K.length ≤ 10000) (h1 : 0 ≤ sent ∧ sent ≤ 100000) (h2 : 0 ≤ gone ∧ gone ≤ 1000) (h3 : 0 ≤ twice ∧ twice ≤ 900) (hB : 0 < B) (hBw : B ≤ w.heap.size) (hg : ErrT w) (i : Nat) (hi : i < K.length) (h22 : 2 ≤ K.length) :
    Calls Tryz.prog 17 #[.pointer (some ⟨nb, 0, none⟩), .int .i64 i] w fun e w' => (K.length < 10000 ∧ e = .returned (.int .i64 0) ∧ LeS B w w' ∧ FN B nb (K ++ [K[i]]) sent gone (twice + 1) w') ∨ (K.length = 10000 ∧ e = .returned (.int .i64 3) ∧ Ext w w') := by
  obtain ⟨A, c, us, hN, hu⟩ := h
  have hlen : us.length = K.length := by rw [← hu]; simp
  refine (copy_any w B nb B A c _ hN (fn_fits (by omega) h1 h2 ⟨h3.1, by omega⟩) hB hBw hg i).mono ?_
  rintro ev w1 (⟨h, _⟩ | ⟨h, rfl, hE⟩ | ⟨k, u, u', hlt, hu1, hk, huc, huo, rfl, A7, c7, hN7, hF7, hA7⟩)
  · have h9 : us = [] := h
    subst h9
    simp at hlen
    omega
  · exact .inr ⟨by have h9 : us.length = 10000 := h; omega, rfl, hE⟩
  · have hlt' : us.length < 10000 := hlt
    have hk' : ((i : Int) % (us.length : Int)) = (k : Int) := hk
    rw [Int.emod_eq_of_lt (by omega) (by omega)] at hk'
    obtain rfl : i = k := by omega
    refine .inl ⟨by omega, rfl, fn_small hN (by show 2 ≤ us.length; omega) hF7, A7, c7, us ++ [u'], hN7, ?_⟩
    have hu2 : us[i]? = some u := hu1
    have h9 : K[i]? = some u.cont := by rw [← hu, List.getElem?_map, hu2]; rfl
    rw [List.map_append, hu, List.map_singleton, huc]
    rw [List.getElem?_eq_getElem hi] at h9
    injection h9 with h9
    rw [h9]
theorem fcount (h : FN B nb K sent gone twice w) :
    Calls Tryz.prog 19 #[.pointer (some ⟨nb, 0, none⟩)] w fun e w' => e = .returned (.agg #[.int .i64 K.length, .int .i64 sent, .int .i64 gone, .int .i64 0, .int .i64 twice]) ∧ Ext w w' := by
  obtain ⟨A, c, us, hN, hu⟩ := h
  have hlen : us.length = K.length := by rw [← hu]; simp
  have h1 := count_any w B nb B A c _ hN
  simp only [hlen] at h1
  exact h1
theorem cut_none8 (i : Int) : cut (List.replicate 8 false) i = false := cut_none i
theorem ftake (h : FN B nb K sent gone twice w) (hK : K.length ≤ 10000) (h1 : 0 ≤ sent ∧ sent ≤ 100000) (h2 : 0 ≤ gone ∧ gone ≤ 1000) (h3 : 0 ≤ twice ∧ twice ≤ 1000) (hB : 0 < B) (hg : ErrT w) (i : Int) (k : Nat) (hk : k < K.length) (hi : i % (K.length : Int) = (k : Int)) :
    Calls Tryz.prog 18 #[.pointer (some ⟨nb, 0, none⟩), .int .i64 i] w fun e w' => ∃ u : Let, u.cont = K[k] ∧ e = .returned (.tuple #[u.v, .int .i64 0]) ∧ LeB B w w' ∧ FN B nb (K.eraseIdx k) sent (gone + 1) twice w' := by
  obtain ⟨A, c, us, hN, hu⟩ := h
  have hlen : us.length = K.length := by rw [← hu]; simp
  refine (take_any w B nb B A c _ hN (fn_fits (by omega) h1 h2 h3) hB hg i).mono ?_
  rintro ev w1 (⟨h, _⟩ | ⟨k2, u, hu1, hk2, (⟨hcut, _⟩ | ⟨_, rfl, A5, c5, hN5, hF5, hA5⟩)⟩)
  · have h9 : us = [] := h
    subst h9
    simp at hlen
    omega
  · rw [cut_none8, cut_none8] at hcut
    cases hcut
  · have hk' : (i % (us.length : Int)) = (k2 : Int) := hk2
    rw [hlen, hi] at hk'
    obtain rfl : k = k2 := by omega
    have hu2 : us[k]? = some u := hu1
    have h9 : K[k]? = some u.cont := by rw [← hu, List.getElem?_map, hu2]; rfl
    rw [List.getElem?_eq_getElem hk] at h9
    injection h9 with h9
    exact ⟨u, h9.symm, rfl, hF5.mono fun i _ t => fn_low hN i t, A5, c5, us.eraseIdx k, hN5, by rw [← hu, map_erase]⟩
end
/-- What the net of full holds. -/
def K2 : List LetC := Vc 5000 ++ Vc 4999
theorem K2_len : K2.length = 9999 := by unfold K2; rw [List.length_append, Vc_len, Vc_len]
theorem K2_nine (h : 9 < K2.length) : K2[9] = cv 9 := by
  have h1 : K2[9]? = some (cv 9) := by
    unfold K2
    rw [List.getElem?_append_left (by rw [Vc_len]; omega)]
    unfold Vc
    rw [List.getElem?_map, List.getElem?_range (by omega)]
    rfl
  rw [List.getElem?_eq_getElem h] at h1
  injection h1
def K3 : List LetC := K2 ++ [cv 9]
theorem K3_len : K3.length = 10000 := by unfold K3; rw [List.length_append, K2_len]; rfl
theorem K3_last (h : 9999 < K3.length) : K3[9999] = cv 9 := by
  have h1 : K3[9999]? = some (cv 9) := by
    unfold K3
    rw [List.getElem?_append_right (by rw [K2_len]; omega), K2_len]
    rfl
  rw [List.getElem?_eq_getElem h] at h1
  injection h1
def K4 : List LetC := K3.eraseIdx 9999
theorem K4_len : K4.length = 9999 := by unfold K4; rw [List.length_eraseIdx_of_lt (by rw [K3_len]; omega), K3_len]
theorem cv9_term {u : Let} (h : u.cont = cv 9) : u.term = 9 := by
  obtain ⟨h1, _⟩ := Let.cont_fields (l := voteL 1 2 ((9 : Nat) : Int)) h
  rw [h1]
  rfl
end Go.Proofs.YtjnllilmimngoaaGreatDoor
