/-
  ApartBytes: rows of bytes that lie apart are told to.
-/
import Derived.Test.YtcapapnhlkmeaaaGreatDoorM31
import Derived.Test.YtcapapnhlkmeaaaGreatDoorM4
namespace Go.Proofs.YtcapapnhlkmeaaaGreatDoor
open Go.RowKit

/-- A bag that holds rows of bytes alone. -/
def Bag (w : World) (gb : Nat) (L : Option Addr) (N cl : Nat) : Prop := w.heap[gb]? = some (.cells #[.slice none 0 0, .slice none 0 0, .slice none 0 0, .slice none 0 0, .slice none 0 0, .slice L N cl, .slice none 0 0, .slice none 0 0, .slice none 0 0, .slice none 0 0, .slice none 0 0, .slice none 0 0, .slice none 0 0, .slice none 0 0, .slice none 0 0] 104)
theorem Bag.ext {w w' : World} {gb N cl : Nat} {L : Option Addr} (h : Bag w gb L N cl) (he : Ext w w') : Bag w' gb L N cl :=
  (he.below.block gb (World.block_lt_of_cell? w _ (cell_of_heap h 0))).trans h
theorem Bag.fr {S : Nat → Prop} {w w' : World} {gb N cl : Nat} {L : Option Addr} (h : Bag w gb L N cl) (hf : Fr S w w') (hs : ¬ S gb) : Bag w' gb L N cl :=
  (hf.block gb (World.block_lt_of_cell? w _ (cell_of_heap h 0)) hs).trans h

set_option maxRecDepth 100000 in
set_option maxHeartbeats 2000000 in
theorem apart_any (gb B : Nat) (L : Option Addr) (cl N : Nat) (A : Nat → Option Addr) (n c : Nat → Nat) (X : Nat → List Int) (w : World) (hH : Bag w gb L N cl) (hL : LsOwn w B L cl N A n c) (hX : ∀ j, j < N → (X j).length = n j) (hR : Rows_ w B N A c X) (hd : Dis N A)
    (hN : N ≤ 100000) (hn : ∀ j, j < N → n j ≤ 1000000000) (hB : B ≤ w.heap.size) :
    Calls Tryz.prog 49 #[.pointer (some ⟨gb, 0, none⟩)] w fun e w' => e = .returned (.bool true) ∧ Fr (RB N A) w w' := by
  have hnb : ¬ RB N A gb := by
    rintro ⟨k, hk, hb⟩
    exact (hR k hk).ne_blk hH (by decide) hb
  have hF0 : Fr (RB N A) w w := Fr.refl _ w
  have b0 := cell_of_heap hH 0
  simp at b0
  go_enter Tryz.func49, Tryz.ntmps49
  go_wp2_with fail
  refine (flatLimbs_nil _).mono ?_
  rintro e w0 ⟨rfl, hE0⟩
  have hH0 := hH.ext hE0
  have hF0' := hF0.then hE0
  have hL0 := hL.ext hE0
  have hR0 := hR.ext hE0
  have b1 := cell_of_heap hH0 1
  simp at b1
  clear b0
  go_wp2_with fail
  refine (flatWords_nil _).mono ?_
  rintro e w1 ⟨rfl, hE1⟩
  have hH1 := hH0.ext hE1
  have hF1' := hF0'.then hE1
  have hL1 := hL0.ext hE1
  have hR1 := hR0.ext hE1
  have b2 := cell_of_heap hH1 2
  simp at b2
  clear b1
  go_wp2_with fail
  refine (flatInts_nil _).mono ?_
  rintro e w2 ⟨rfl, hE2⟩
  have hH2 := hH1.ext hE2
  have hF2' := hF1'.then hE2
  have hL2 := hL1.ext hE2
  have hR2 := hR1.ext hE2
  have b3 := cell_of_heap hH2 3
  simp at b3
  clear b2
  go_wp2_with fail
  refine (flatLongs_nil _).mono ?_
  rintro e w3 ⟨rfl, hE3⟩
  have hH3 := hH2.ext hE3
  have hF3' := hF2'.then hE3
  have hL3 := hL2.ext hE3
  have hR3 := hR2.ext hE3
  have b4 := cell_of_heap hH3 4
  simp at b4
  clear b3
  go_wp2_with fail
  refine (flatTexts_nil _).mono ?_
  rintro e w4 ⟨rfl, hE4⟩
  have hH4 := hH3.ext hE4
  have hF4' := hF3'.then hE4
  have hL4 := hL3.ext hE4
  have hR4 := hR3.ext hE4
  have b5 := cell_of_heap hH4 5
  simp at b5
  clear b4
  go_wp2_with fail
  refine (flatBytes_1 B L cl N A n c X _ hL4 hX hR4 hd hN hn (by have := hF4'.size; omega)).mono ?_
  rintro e w5 ⟨rfl, hG5⟩
  have hH5 := hH4.fr hG5 hnb
  have hF5' := hF4'.trans hG5 (fun _ _ h => h)
  have b6 := cell_of_heap hH5 6
  simp at b6
  clear b5
  go_wp2_with fail
  refine (flatTruths_nil _).mono ?_
  rintro e w6 ⟨rfl, hE6⟩
  have hH6 := hH5.ext hE6
  have hF6' := hF5'.then hE6
  have b7 := cell_of_heap hH6 7
  simp at b7
  clear b6
  go_wp2_with fail
  refine (flatUnits_nil _).mono ?_
  rintro e w7 ⟨rfl, hE7⟩
  have hH7 := hH6.ext hE7
  have hF7' := hF6'.then hE7
  have b8 := cell_of_heap hH7 8
  simp at b8
  clear b7
  go_wp2_with fail
  refine (flatEntries_nil _).mono ?_
  rintro e w8 ⟨rfl, hE8⟩
  have hH8 := hH7.ext hE8
  have hF8' := hF7'.then hE8
  have b9 := cell_of_heap hH8 9
  simp at b9
  clear b8
  go_wp2_with fail
  refine (flatIdents_nil _).mono ?_
  rintro e w9 ⟨rfl, hE9⟩
  have hH9 := hH8.ext hE9
  have hF9' := hF8'.then hE9
  have b10 := cell_of_heap hH9 10
  simp at b10
  clear b9
  go_wp2_with fail
  refine (flatMetas_nil _).mono ?_
  rintro e w10 ⟨rfl, hE10⟩
  have hH10 := hH9.ext hE10
  have hF10' := hF9'.then hE10
  have b11 := cell_of_heap hH10 11
  simp at b11
  clear b10
  go_wp2_with fail
  refine (flatMarks_nil _).mono ?_
  rintro e w11 ⟨rfl, hE11⟩
  have hH11 := hH10.ext hE11
  have hF11' := hF10'.then hE11
  have b12 := cell_of_heap hH11 12
  simp at b12
  clear b11
  go_wp2_with fail
  refine (flatSnaps_nil _).mono ?_
  rintro e w12 ⟨rfl, hE12⟩
  have hH12 := hH11.ext hE12
  have hF12' := hF11'.then hE12
  have b13 := cell_of_heap hH12 13
  simp at b13
  clear b12
  go_wp2_with fail
  refine (flatShapes_nil _).mono ?_
  rintro e w13 ⟨rfl, hE13⟩
  have hH13 := hH12.ext hE13
  have hF13' := hF12'.then hE13
  have b14 := cell_of_heap hH13 14
  simp at b14
  clear b13
  go_wp2_with fail
  refine (flatLetters_nil _).mono ?_
  rintro e w14 ⟨rfl, hE14⟩
  have hH14 := hH13.ext hE14
  have hF14' := hF13'.then hE14
  go_wp2_with fail
  go_ret
  exact ⟨rfl, hF14'⟩

theorem one_rows (l : List Nat) (A : Nat → Option Addr) (n c : Nat → Nat) : ∀ u ∈ l.map (rowU A n c), u.oneCell' = true := by
  intro u hu
  obtain ⟨k, _, rfl⟩ := List.mem_map.1 hu
  rfl
/-- What putBytes leaves. -/
def PutP (gb B : Nat) (L : Option Addr) (xs : List Value) (w : World) (e : Ending) (w' : World) : Prop :=
  ∃ L' cl', e = .returned (.tuple #[]) ∧ Bag w' gb L' xs.length cl' ∧ Own w' B 32 L' cl' xs ∧ Fr (touched gb L) w w' ∧ ∀ i, blk L' i → blk L i ∨ w.heap.size ≤ i
set_option maxHeartbeats 600000 in
theorem putBytes_any (gb B : Nat) (L : Option Addr) (cl : Nat) (xs : List Value) (D : Option Addr) (m d : Nat) (w : World) (hH : Bag w gb L xs.length cl) (hL : Own w B 32 L cl xs) (hl : xs.length ≤ 1000000) (hB : B ≤ w.heap.size) :
    Calls Tryz.prog 48 #[.pointer (some ⟨gb, 0, none⟩), .slice D m d] w (PutP gb B L (xs ++ [.slice D m d]) w) := by
  obtain ⟨i0, hi, hz0, hz1, hz2⟩ := info_parts Tryz.infoER
  have HI := Lib.hid hi
  have H0 := Lib.hid hz0
  have H1 := Lib.hid hz1
  have H2 := Lib.hid hz2
  clear hi hz0 hz1 hz2
  have b5 := cell_of_heap hH 5
  simp at b5
  have hlt := World.block_lt_of_cell? w _ b5
  simp at hlt
  have hHa := hH.ext ((Ext.refl w).alloc (.cells #[.slice D m d] 32))
  have b5a := cell_of_heap hHa 5
  simp only [List.getElem?_toArray] at b5a
  go_enter Tryz.func48, Tryz.ntmps48
  go_wp2_with (at_builtin; refine wpList_append_rd _ rfl _ _ 45 rfl 32 i0 _ 24 Tryz.underlying45 HI.out H0.out H1.out H2.out rfl B _ _ _ xs rfl rfl (hL.ext ((Ext.refl w).alloc _)) _ _ _ [.slice D m d] rfl rfl (rd_one _ _ _) (by intro u hu; simp at hu; subst hu; rfl) (by unfold maxLen; simp; omega) (by simp; omega) (by simp; omega) ?_; intro A3 c3 w3 hO3 hF3 hA3; have hn3 : ¬ blk L gb := (hL.ne_blk hH (by decide)); have hH3 := hHa.fr hF3 hn3; have b3 := cell_of_heap hH3 5; have f3 := frozen_of_heap hH3 5; simp at b3)
  go_end0
  have hg3 : ¬ blk A3 gb := hO3.ne_blk hH3 (by decide)
  refine ⟨A3, c3, rfl, ?_, ?_, ?_, fun i hi => (hA3 i hi).elim .inl (fun h => .inr (by simp at h; omega))⟩
  · unfold Bag at hH3 ⊢
    rw [heap_set hH3]
    simp
  · exact hO3.keep fun i hi _ => Below.heap_setCell _ _ _ i (by rintro rfl; exact hg3 hi)
  · refine Fr.set (p := ⟨gb, 5, none⟩) ?_ (.inl (.inl rfl)) _
    exact ((Fr.refl (touched gb L) w).alloc _).trans hF3 (fun i _ h => .inr h)

theorem range_map_succ (k : Nat) (f : Nat → Value) : (List.range (k + 1)).map f = (List.range k).map f ++ [f k] := by simp [List.range_succ]
def ApRel (gb : Nat) (N : Nat) (A : Nat → Option Addr) (n c : Nat → Nat) (w : World) (v : Value) (wr : World) : Prop :=
  ∃ (k : Nat) (L : Option Addr) (cl : Nat), k ≤ N ∧ v = .int .i64 k ∧ Bag wr gb L k cl ∧ Own wr w.heap.size 32 L cl ((List.range k).map (rowU A n c)) ∧ Ext w wr
set_option maxHeartbeats 600000 in
theorem apartBytes_any (B : Nat) (D : Option Addr) (d N : Nat) (A : Nat → Option Addr) (n c : Nat → Nat) (X : Nat → List Int) (w : World) (hD : Rd w D ((List.range N).map (rowU A n c))) (hX : ∀ j, j < N → (X j).length = n j) (hR : Rows_ w B N A c X) (hd : Dis N A)
    (hN : N ≤ 100000) (hn : ∀ j, j < N → n j ≤ 1000000000) (hB : B ≤ w.heap.size) :
    Calls Tryz.prog 13 #[.slice D N d] w fun e w' => e = .returned (.bool true) ∧ Fr (RB N A) w w' := by
  have hE0 := (Ext.refl w).alloc (.cells #[.slice none 0 0, .slice none 0 0, .slice none 0 0, .slice none 0 0, .slice none 0 0, .slice none 0 0, .slice none 0 0, .slice none 0 0, .slice none 0 0, .slice none 0 0, .slice none 0 0, .slice none 0 0, .slice none 0 0, .slice none 0 0, .slice none 0 0] 104)
  have hH0 : Bag (w.alloc (.cells #[.slice none 0 0, .slice none 0 0, .slice none 0 0, .slice none 0 0, .slice none 0 0, .slice none 0 0, .slice none 0 0, .slice none 0 0, .slice none 0 0, .slice none 0 0, .slice none 0 0, .slice none 0 0, .slice none 0 0, .slice none 0 0, .slice none 0 0] 104)) w.heap.size none 0 0 := heap_alloc_new w _
  go_enter Tryz.func13, Tryz.ntmps13
  go_wp2_with fail
  go_loopw [4] (fun v wr => ApRel w.heap.size N A n c w v wr) (fun v _ => N - (intOf v).toNat)
  case atStart => exact ⟨0, none, 0, Nat.zero_le _, rfl, hH0, Own.nil _ _ _, hE0⟩
  case round =>
    clear hE0 hH0
    obtain ⟨k, L, cl, hk, rfl, hH, hL, hE⟩ := hrel
    have hsz := hE.sz
    by_cases hlt : k < N
    · obtain ⟨ad, rfl, hc⟩ := (hD.ext hE).at_ (k := k) (by simpa using hlt)
      simp [rowU] at hc
      go_wp2_with fail
      refine (putBytes_any w.heap.size w.heap.size L cl ((List.range k).map (rowU A n c)) (A k) (n k) (c k) _ (by simpa using hH) hL (by simp; omega) (by omega)).mono ?_
      rintro e w2 ⟨L2, cl2, rfl, hH2, hL2, hF2, hA2⟩
      have hE2 : Ext w w2 := Below.trans hE (hF2.below hsz (by
        rintro i (rfl | hi)
        · exact Nat.le_refl _
        · exact (hL.lt hi).1))
      go_wp2_with fail
      refine ⟨⟨k + 1, L2, cl2, by omega, by go_num, by simpa using hH2, Own.cong hL2 ?_, hE2⟩, by simp [intOf]; omega⟩
      rw [range_map_succ]; rfl
    · obtain rfl : k = N := by omega
      go_wp2_with fail
      refine (apart_any w.heap.size B L cl k A n c X _ hH (hL.lower hB) hX (hR.ext hE) hd hN hn (by omega)).mono ?_
      rintro e w2 ⟨rfl, hF2⟩
      go_wp2_with fail
      go_ret
      exact ⟨rfl, (Fr.ofExt _ hE).trans hF2 (fun _ _ h => h)⟩
end Go.Proofs.YtcapapnhlkmeaaaGreatDoor
