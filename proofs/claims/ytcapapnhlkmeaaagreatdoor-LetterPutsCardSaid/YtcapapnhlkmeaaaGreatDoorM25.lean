/-
  awake: the chapter's example is put.
  awake.
  awake; LetterOf.
  LetterOf.
-/
import Derived.Test.YtcapapnhlkmeaaaGreatDoorM24
import Derived.Test.YtcapapnhlkmeaaaGreatDoorM11
namespace Go.Proofs.YtcapapnhlkmeaaaGreatDoor
open Go.RowKit

theorem Wr.new (tW : TypeId) (w : World) : Wr tW w.heap.size (w.alloc (.cells #[.slice none 0 0, .bool false] tW)) w.heap.size none 0 [] false :=
  ⟨heap_alloc_new w _, Nat.le_refl _, Own.nil _ _ _⟩

def yesI (b : Bool) : Int := if b = true then 1 else 0
set_option maxRecDepth 100000 in
set_option maxHeartbeats 600000 in
theorem yes_any (B wb : Nat) (A : Option Addr) (c : Nat) (bs : List Int) (b : Bool) (w : World) (hW : Wr 61 B w wb A c bs false) (hB : B ≤ w.heap.size) (hl : bs.length ≤ 1000000) :
    Calls Tryz.prog 68 #[.pointer (some ⟨wb, 0, none⟩), .bool b] w fun e w' => e = .returned (.tuple #[]) ∧ WStep 61 B wb A w (bs ++ [yesI b]) false w' := by
  have P0 := Lib.hid (WP.start hW)
  cases b with
  | false =>
    have hf : Hid (fieldS 1 bs false [0] = (bs ++ [0], false)) := Lib.hid (by rw [field1_1 (by omega) (by omega)]; rfl)
    go_enter Tryz.func68, Tryz.ntmps68
    go_wp2_with fail
    have P0a := P0.out.ext ((Ext.refl _).alloc (.cells #[.int .i64 0] 3))
    refine (field_any B wb A c bs false 1 _ 1 [0] _ P0a.1 (by simp; omega) (rd_one w (.int .i64 0) 3) (fun _ => off_new hW) (by simp; omega)).mono ?_
    rintro e w1 ⟨rfl, hS1⟩
    rw [hf.out] at hS1
    obtain ⟨A1, c1, P1⟩ := P0a.step hS1
    go_wp2_with fail
    go_end0
    exact ⟨rfl, P1.done⟩
  | true =>
    have hf : Hid (fieldS 1 bs false [1] = (bs ++ [1], false)) := Lib.hid (by rw [field1_1 (by omega) (by omega)]; rfl)
    go_enter Tryz.func68, Tryz.ntmps68
    go_wp2_with fail
    have P0a := P0.out.ext ((Ext.refl _).alloc (.cells #[.int .i64 1] 3))
    refine (field_any B wb A c bs false 1 _ 1 [1] _ P0a.1 (by simp; omega) (rd_one w (.int .i64 1) 3) (fun _ => off_new hW) (by simp; omega)).mono ?_
    rintro e w1 ⟨rfl, hS1⟩
    rw [hf.out] at hS1
    obtain ⟨A1, c1, P1⟩ := P0a.step hS1
    go_wp2_with fail
    go_end0
    exact ⟨rfl, P1.done⟩

def awL : Let := ⟨4, 2, 1, 3, 5, Id.zero, Id.zero, none, 0, [], 0, true, none, 0, [], Id.zero, none, 0, [], 0, none, 0, [], 0, none, 0, []⟩
def awA : List Int := [4, 2, 1]
def awB : List Int := [4, 2, 1, 3, 0, 0, 0, 0, 0]
def awC : List Int := [4, 2, 1, 3, 0, 0, 0, 0, 0, 5, 0, 0, 0, 0, 0]
def awD : List Int := [4, 2, 1, 3, 0, 0, 0, 0, 0, 5, 0, 0, 0, 0, 0, 1]
theorem awA_eq : fieldS 1 [] false [awL.kind, awL.frm, awL.too] = (awA, false) := by decide
theorem awB_eq : fieldS 6 awA false [awL.term] = (awB, false) := by decide
theorem awC_eq : fieldS 6 awB false [awL.index] = (awC, false) := by decide
theorem awD_eq : awC ++ [yesI awL.yes] = awD := by decide

set_option maxRecDepth 100000 in
set_option maxHeartbeats 1000000 in
theorem body_awake (B wb : Nat) (A : Option Addr) (c : Nat) (w : World) (hW : Wr 61 B w wb A c awB false) (hB : B ≤ w.heap.size) :
    Calls Tryz.prog 22 #[.pointer (some ⟨wb, 0, none⟩), awL.v] w fun e w' => e = .returned (.tuple #[]) ∧ WStep 61 B wb A w awD false w' := by
  have hV : awL.v = .agg awL.arr := rfl
  have k1 : (awL.kind == 1) = false := rfl
  have k4 : (awL.kind == 4) = true := rfl
  have hE0 := (Ext.refl w).alloc (.cells awL.arr 34)
  have hW0 := hW.ext hE0
  have hG0 := heap_alloc_new w (.cells awL.arr 34)
  have hnt : ¬ touched wb A w.heap.size := not_touched_new hW
  have P0 := Lib.hid (WP.start hW0)
  have hoff := off_new hW0
  have hr0 := rd_one (w.alloc (.cells awL.arr 34)) (.int .i64 awL.index) 3
  rw [World.size_alloc] at hoff hr0
  have HR0 := Lib.hid hr0
  have HW0 := Lib.hid hW0
  have HG0 := Lib.hid hG0
  have HOFF := Lib.hid hoff
  rw [hV]
  clear hV hE0 hW0 hG0 hoff hr0
  go_enter Tryz.func22, Tryz.ntmps22
  go_wp2_with fail
  have P0a := P0.out.ext ((Ext.refl _).alloc (.cells #[.int .i64 awL.index] 3))
  refine (field_any B wb A c awB false 6 (some ⟨w.heap.size + 1, 0, none⟩) 1 [awL.index] _ P0a.1 (by simp; omega) HR0.out (fun _ => HOFF.out) (by simp [awB])).mono ?_
  rintro e w1 ⟨rfl, hS1⟩
  rw [awC_eq] at hS1
  obtain ⟨A1, c1, P1⟩ := P0a.step hS1
  have z1 := P1.size
  rw [World.size_alloc] at z1
  have g1 := (P1.heap (i := w.heap.size) (by simp) hnt).trans HG0.out
  have r1 := cell_of_heap g1
  clear hS1 P0a g1
  have HP1 := Lib.hid P1
  clear P1
  go_wp2_with fail
  refine (yes_any B wb _ _ awC awL.yes _ HP1.out.1 (by omega) (by simp [awC])).mono ?_
  rintro e w2 ⟨rfl, hS2⟩
  rw [awD_eq] at hS2
  obtain ⟨A2, c2, P2⟩ := HP1.out.step hS2
  go_wp2_with fail
  first
    | (go_end0; exact ⟨rfl, WStep.ext ((Ext.refl w).alloc _) P2.done⟩)
    | (refine bodyPost_ret (results_none rfl _ _ _) rfl ?_; exact ⟨rfl, WStep.ext ((Ext.refl w).alloc _) P2.done⟩)
end Go.Proofs.YtcapapnhlkmeaaaGreatDoor
namespace Go.Proofs.YtcapapnhlkmeaaaGreatDoor
open Go.RowKit

theorem aw_right : rightL awL = true := by decide +kernel
def PutPost (w : World) (e : Ending) (w' : World) : Prop := ∃ A c, e = .returned (.tuple #[.slice A 16 c, .int .i64 0]) ∧ Rd w' A (awD.map (.int .u8)) ∧ Ext w w'
set_option maxRecDepth 100000 in
set_option maxHeartbeats 1000000 in
theorem put_awake (w : World) (hg : ErrT w) : Calls Tryz.prog 7 #[awL.v] w (PutPost w) := by
  have hin : awL.inW w := ⟨fun j p h => by simp [awL] at h, fun j p h => by simp [awL] at h, Rd.nil _ _, Rd.nil _ _, Rd.nil _ _, by simp [awL], by simp [awL], by simp [awL], by simp [awL], by simp [awL], by simp [awL]⟩
  have HC := Lib.hid (fun w' (h : Ext w w') => check_any awL w' (hin.ext h) (hg.ext h))
  have hV : awL.v = .agg awL.arr := rfl
  have HB := Lib.hid body_awake
  rw [hV]
  clear hin hg hV
  go_enter Tryz.func7, Tryz.ntmps7
  go_wp2_with (refine wpList_load_let rfl _ rfl w.heap.size awL rfl (heap0 w _ _) ?_)
  refine (HC.out _ (((Ext.refl w).alloc _).alloc _)).mono ?_
  rintro e w5 ⟨e5, rfl, hEr, hE5⟩
  rw [aw_right] at hEr
  obtain rfl : e5 = .nilIface := hEr
  have g0 := hE5.blk (heap0 w _ _)
  have hlt := heap_lt g0
  have r0 := cell_of_heap g0
  have HE5 := Lib.hid ((((Ext.refl w).alloc _).alloc _).trans hE5)
  have HG0 := Lib.hid g0
  clear g0 hE5
  go_wp2_with (go_at_call 19; refine (As_nil _ _).mono ?_; rintro e w' ⟨rfl, rfl⟩)
  have hW0 := Wr.new 61 w5
  have hr0 := rd_lit (w5.alloc (.cells #[.slice none 0 0, .bool false] 61)) [.int .i64 awL.kind, .int .i64 awL.frm, .int .i64 awL.too] 3
  have ho0 := off_new hW0
  rw [World.size_alloc] at hr0 ho0
  have P0a := (WP.start hW0).ext ((Ext.refl _).alloc (.cells #[.int .i64 awL.kind, .int .i64 awL.frm, .int .i64 awL.too] 3))
  refine (field_any w5.heap.size w5.heap.size none 0 [] false 1 (some ⟨w5.heap.size + 1, 0, none⟩) 3 [awL.kind, awL.frm, awL.too] _ P0a.1 (by simp; omega) hr0 (fun _ => ho0) (by simp)).mono ?_
  rintro e w6 ⟨rfl, hS1⟩
  rw [awA_eq] at hS1
  obtain ⟨A1, c1, P1⟩ := P0a.step hS1
  have g1 := (P1.heap (i := w.heap.size) (by simp; omega) (by rintro (h | h); · omega
                                                              · simp [blk] at h)).trans ((heap_alloc_old w5 _ hlt).trans HG0.out)
  have z1 := P1.size
  rw [World.size_alloc] at z1
  have hlt1 := heap_lt g1
  clear r0 hS1 P0a hr0 ho0
  have r0 := cell_of_heap g1
  have HG1 := Lib.hid g1
  have HP1 := Lib.hid P1
  clear g1 P1
  go_wp2_with fail
  refine (field_any w5.heap.size w5.heap.size _ _ awA false 6 _ 1 [awL.term] _ (HP1.out.ext ((Ext.refl _).alloc (.cells #[.int .i64 awL.term] 3))).1 (by simp; omega) (rd_one w6 (.int .i64 awL.term) 3) (fun _ => off_new HP1.out.1) (by simp [awA])).mono ?_
  rintro e w7 ⟨rfl, hS2⟩
  rw [awB_eq] at hS2
  obtain ⟨A2, c2, P2⟩ := (HP1.out.ext ((Ext.refl _).alloc (.cells #[.int .i64 awL.term] 3))).step hS2
  have g2 := (P2.heap (i := w.heap.size) (by simp; omega) (by rintro (h | h); · omega
                                                              · simp [blk] at h)).trans ((heap_alloc_old w5 _ hlt).trans HG0.out)
  have z2 := P2.size
  rw [World.size_alloc] at z2
  clear r0 hS2
  have HG2 := Lib.hid g2
  have HP2 := Lib.hid P2
  clear g2 P2
  go_wp2_with (refine wpList_load_let rfl _ rfl w.heap.size awL rfl HG2.out ?_)
  refine (HB.out w5.heap.size w5.heap.size _ _ _ HP2.out.1 (by omega)).mono ?_
  rintro e w8 ⟨rfl, hS3⟩
  obtain ⟨A3, c3, P3⟩ := HP2.out.step hS3
  have z3 := P3.size
  rw [World.size_alloc] at z3
  have HP3 := Lib.hid P3
  clear hS3 P3
  go_wp2_with fail
  refine (bytes_any w5.heap.size w5.heap.size _ _ awD false _ HP3.out.1 (by simp [awD])).mono ?_
  rintro e w9 ⟨A4, c4, rfl, hO4, hS4⟩
  obtain ⟨A5, c5, P5⟩ := HP3.out.step hS4
  have HE9 : Hid (Ext w w9) := Lib.hid (HE5.out.trans (Below.trans ((Ext.refl w5).alloc _) (P5.2.1.below (by simp) (by
    rintro i (rfl | hi)
    · exact Nat.le_refl _
    · simp [blk] at hi))))
  simp only [Bool.false_eq_true, if_false] at hO4
  clear hS4 P5
  go_wp2_with fail
  go_ret2
  exact ⟨_, _, rfl, hO4.rd, HE9.out⟩
end Go.Proofs.YtcapapnhlkmeaaaGreatDoor
namespace Go.Proofs.YtcapapnhlkmeaaaGreatDoor
open Go.RowKit

set_option maxRecDepth 100000 in
set_option maxHeartbeats 1000000 in
theorem awake_any (w : World) (hg : ErrT w) : Calls Tryz.prog 5 #[] w fun e w' => e = .returned (.bool true) ∧ Ext w w' := by
  have HP := Lib.hid (put_awake w hg)
  clear hg
  go_enter Tryz.func5, Tryz.ntmps5
  go_wp2_with fail
  refine (HP.out).mono ?_
  rintro e w1 ⟨A, c, rfl, hR, hE1⟩
  have HR := Lib.hid hR
  have HE1 := Lib.hid hE1
  clear hR hE1
  go_wp2_with fail
  have hE2 := (Ext.refl w1).alloc (.cells #[.int .u8 4, .int .u8 2, .int .u8 1, .int .u8 3, .int .u8 0, .int .u8 0, .int .u8 0, .int .u8 0, .int .u8 0, .int .u8 5, .int .u8 0, .int .u8 0, .int .u8 0, .int .u8 0, .int .u8 0, .int .u8 1] 5)
  refine (sameBytes_any _ _ _ _ awD awD _ (HR.out.ext hE2) (rd_lit w1 (awD.map (.int .u8)) _) (by simp [awD, maxLen]) (by simp [awD, maxLen])).mono ?_
  rintro e w2 ⟨rfl, hE3⟩
  simp only [decide_true]
  go_wp2_with fail
  go_ret
  exact ⟨rfl, (HE1.out.trans hE2).trans hE3⟩

def IntPost (w : World) (e : Ending) (w' : World) : Prop := ∃ n : Int, e = .returned (.int .i64 n) ∧ w = w'
def EoRel (n : Nat) (v i : Value) : Prop := ∃ (k : Nat) (z : Int), k ≤ n ∧ i = .int .i64 k ∧ v = .int .i64 z
set_option maxHeartbeats 600000 in
theorem entriesOf_any (A : Option Addr) (c : Nat) (es : List Ent) (m : Int) (w : World) (hA : EntsIn w A es) (hl : es.length ≤ maxLen) :
    Calls Tryz.prog 14 #[.slice A es.length c, .int .i64 m] w (IntPost w) := by
  unfold maxLen at hl
  go_enter Tryz.func14, Tryz.ntmps14
  go_wp2
  go_loop [5, 6] (fun v i => EoRel es.length v i) (fun _ i => es.length - (intOf i).toNat)
  case atStart => exact ⟨0, 0, Nat.zero_le _, rfl, rfl⟩
  case round =>
    obtain ⟨k, z, hk, rfl, rfl⟩ := hrel
    by_cases hlt : k < es.length
    · by_cases hz : z ≤ m
      · have dz : decide (z ≤ m) = true := by simpa using hz
        obtain ⟨b, f, e, rfl, he, c0, c1, c2, c3, hin⟩ := hA.at_ hlt
        clear he c0 c1 c2 hin
        go_wp2
        go_round
        case rel => exact ⟨k + 1, _, by omega, by go_num, rfl⟩
        case measure => simp [intOf]; omega
      · have dz : decide (z ≤ m) = false := by simpa using hz
        go_wp2
        go_ret
        exact ⟨_, rfl, rfl⟩
    · obtain rfl : k = es.length := by omega
      go_wp2
      go_ret
      exact ⟨_, rfl, rfl⟩
end Go.Proofs.YtcapapnhlkmeaaaGreatDoor
namespace Go.Proofs.YtcapapnhlkmeaaaGreatDoor
open Go.RowKit

def IntPostE (w : World) (e : Ending) (w' : World) : Prop := ∃ n : Int, e = .returned (.int .i64 n) ∧ Ext w w'
set_option maxRecDepth 100000 in
set_option maxHeartbeats 1000000 in
theorem letterOf_any (l : Let) (m : Int) (w : World) (hin : l.inW w) : Calls Tryz.prog 4 #[l.v, .int .i64 m] w (IntPostE w) := by
  have he2 := hin.e2
  have HEO := Lib.hid (fun w' (h : Ext w w') => entriesOf_any l.eA l.ec l.ents m w' (hin.e1.ext h) (by unfold maxLen; omega))
  have hV : l.v = .agg l.arr := rfl
  rw [hV]
  clear hin hV
  go_enter Tryz.func4, Tryz.ntmps4
  go_wp2_with fail
  have EB := Lib.hid (heap_alloc_new w (.cells l.arr 34))
  refine Stab.wp_region_lex Ext (Ext _) (fun _ => True) (by kernel_rfl) (by kernel_rfl) (fun _ _ h => h) (fun _ _ h k => Ext.trans h k) (fun _ _ _ _ => trivial) ((Ext.refl _).drew) trivial ?_
  simp only [Stab.zipL, Nat.reduceAdd]
  iterate 21 (refine Stab.wpX_val rfl rfl ?_; apply Exists.intro; refine ⟨fun wx hC _ => ?_, ?_⟩; (have r := cell_of_heap (hC.blk EB.out); go_simp; exact ⟨Ext.refl _, rfl⟩); simp only [Act.put, List.setIfInBounds_toArray, List.set_cons_zero, List.set_cons_succ])
  refine Stab.wpX_call (fun u _ => ∃ n : Int, u = .int .i64 n) (fun _ _ => True) rfl rfl (fun _ _ _ h _ => h) (fun _ _ _ _ _ => trivial) ?_ ?_
  · intro wx hC _ hF
    go_simp
    refine ⟨rfl, ?_⟩
    refine (HEO.out _ (((Ext.refl _).alloc _).trans hC)).mono ?_
    rintro ev w9 ⟨n, rfl, rfl⟩
    exact ⟨Ext.refl _, n, rfl⟩
  rintro ux ⟨_, _, ⟨n, rfl⟩, _⟩
  simp only [Act.put, List.setIfInBounds_toArray, List.set_cons_zero, List.set_cons_succ]
  iterate 2 (refine Stab.wpX_val rfl rfl ?_; apply Exists.intro; refine ⟨fun wx hC _ => ?_, ?_⟩; (have r := cell_of_heap (hC.blk EB.out); go_simp; exact ⟨Ext.refl _, rfl⟩); simp only [Act.put, List.setIfInBounds_toArray, List.set_cons_zero, List.set_cons_succ])
  refine Stab.wpX_end fun w8 hC8 _ hF8 => ?_
  go_wp2_with fail
  go_ret
  exact ⟨_, rfl, ((Ext.refl _).alloc _).trans hC8⟩
end Go.Proofs.YtcapapnhlkmeaaaGreatDoor
