/-
  How great letters are: LetterOf, LettersOf.
-/
import Derived.Test.YtigljihohpdpeaaGreatDoorM27
namespace Go.Proofs.YtigljihohpdpeaaGreatDoor
open Go.RowKit

/-- What is needed of a letter's lengths. -/
structure Let.small (l : Let) : Prop where
  s1 : l.want.length ≤ 1000000000
  s2 : l.ents.length ≤ 1000000000
  s3 : ∀ e ∈ l.ents, e.bs.length ≤ 1000000000
  s4 : l.mems.length ≤ 1000000000
  s5 : l.sums.length ≤ 1000000000
  s6 : l.bs.length ≤ 1000000000
def EoP (es : List Ent) (w : World) (e : Ending) (w' : World) : Prop := ∃ n : Int, e = .returned (.int .i64 n) ∧ 0 ≤ n ∧ n ≤ 140737488359400 ∧ (n ≤ 1500 → (es.length : Int) ≤ n ∧ ∀ x ∈ es, (x.bs.length : Int) ≤ n) ∧ w = w'
def EoRel2 (es : List Ent) (v i : Value) : Prop := ∃ (k : Nat) (z : Int), k ≤ es.length ∧ i = .int .i64 k ∧ v = .int .i64 z ∧ 0 ≤ z ∧ z ≤ 140737488359400 ∧ (k : Int) ≤ z ∧ ∀ x ∈ es.take k, (x.bs.length : Int) ≤ z
set_option maxHeartbeats 600000 in
theorem entriesOf_le (A : Option Addr) (c : Nat) (es : List Ent) (w : World) (hA : EntsIn w A es) (hl : es.length ≤ maxLen) (hb : ∀ x ∈ es, x.bs.length ≤ 140737488355328) :
    Calls Tryz.prog 53 #[.slice A es.length c, .int .i64 1500] w (EoP es w) := by
  unfold maxLen at hl
  go_enter Tryz.func53, Tryz.ntmps53
  go_wp2
  go_loop [5, 6] (fun v i => EoRel2 es v i) (fun _ i => es.length - (intOf i).toNat)
  case atStart => exact ⟨0, 0, Nat.zero_le _, rfl, rfl, by omega, by omega, by omega, fun x hx => by simp at hx⟩
  case round =>
    obtain ⟨k, z, hk, rfl, rfl, hz0, hz1, hkz, hr⟩ := hrel
    have HR := Lib.hid hr
    clear hr
    by_cases hlt : k < es.length
    · by_cases hz : z ≤ 1500
      · have dz : decide (z ≤ 1500) = true := by simpa using hz
        obtain ⟨b, f, e, rfl, he, c0, c1, c2, c3, hin⟩ := hA.at_ hlt
        have hbe := hb e (List.mem_of_getElem? he)
        have HT := Lib.hid (take_snoc' he)
        have w1 : IntKind.i64.wrap (z + 1) = z + 1 := IntWalk.i64_in _ (by omega)
        have w2 : IntKind.i64.wrap (z + 1 + (e.bs.length : Int)) = z + 1 + (e.bs.length : Int) := IntWalk.i64_in _ (by omega)
        clear he c0 c1 c2 hin
        go_wp2
        go_round
        case rel => exact ⟨k + 1, z + 1 + (e.bs.length : Int), by omega, by go_num, rfl, by omega, by omega, by omega, fun x hx => by
          rw [HT.out] at hx
          rcases List.mem_append.1 hx with hx | hx
          · have := HR.out x hx; omega
          · simp at hx; subst hx; omega⟩
        case measure => simp [intOf]; omega
      · have dz : decide (z ≤ 1500) = false := by simpa using hz
        go_wp2
        go_ret
        exact ⟨z, rfl, hz0, hz1, fun h => by omega, rfl⟩
    · obtain rfl : k = es.length := by omega
      have hr := HR.out
      rw [List.take_length] at hr
      go_wp2
      go_ret
      exact ⟨z, rfl, hz0, hz1, fun _ => ⟨hkz, hr⟩, rfl⟩
def LoP (l : Let) (w : World) (e : Ending) (w' : World) : Prop := ∃ n : Int, e = .returned (.int .i64 n) ∧ 1 ≤ n ∧ n ≤ 1000000000000000 ∧ (n ≤ 1500 → l.small) ∧ Ext w w'
set_option maxRecDepth 100000 in
set_option maxHeartbeats 1000000 in
theorem letterOf_le (l : Let) (w : World) (hin : l.inW w) (hb : ∀ x ∈ l.ents, x.bs.length ≤ 140737488355328) : Calls Tryz.prog 34 #[l.v, .int .i64 1500] w (LoP l w) := by
  have he2 := hin.e2
  have hw2 := hin.w2
  have hm2 := hin.m2
  have hu2 := hin.u2
  have hb2 := hin.b2
  have HEO := Lib.hid (fun w' (h : Ext w w') => entriesOf_le l.eA l.ec l.ents w' (hin.e1.ext h) (by unfold maxLen; omega) hb)
  have hV : l.v = .agg l.arr := rfl
  rw [hV]
  clear hin hV hb
  have x1 : IntKind.i64.wrap (1 + (l.want.length : Int)) = 1 + (l.want.length : Int) := IntWalk.i64_in _ (by omega)
  have x2 : IntKind.i64.wrap (1 + (l.want.length : Int) + (l.bs.length : Int)) = 1 + (l.want.length : Int) + (l.bs.length : Int) := IntWalk.i64_in _ (by omega)
  have x3 : IntKind.i64.wrap (1 + (l.want.length : Int) + (l.bs.length : Int) + (l.mems.length : Int)) = 1 + (l.want.length : Int) + (l.bs.length : Int) + (l.mems.length : Int) := IntWalk.i64_in _ (by omega)
  have x4 : IntKind.i64.wrap (1 + (l.want.length : Int) + (l.bs.length : Int) + (l.mems.length : Int) + (l.sums.length : Int)) = 1 + (l.want.length : Int) + (l.bs.length : Int) + (l.mems.length : Int) + (l.sums.length : Int) := IntWalk.i64_in _ (by omega)
  go_enter Tryz.func34, Tryz.ntmps34
  go_wp2_with fail
  have EB := Lib.hid (heap_alloc_new w (.cells l.arr 44))
  refine Stab.wp_region_lex Ext (Ext _) (fun _ => True) (by kernel_rfl) (by kernel_rfl) (fun _ _ h => h) (fun _ _ h k => Ext.trans h k) (fun _ _ _ _ => trivial) ((Ext.refl _).drew) trivial ?_
  simp only [Stab.zipL, Nat.reduceAdd]
  iterate 21 (refine Stab.wpX_val rfl rfl ?_; apply Exists.intro; refine ⟨fun wx hC _ => ?_, ?_⟩; (have r := cell_of_heap (hC.blk EB.out); go_simp; exact ⟨Ext.refl _, rfl⟩); simp only [Act.put, List.setIfInBounds_toArray, List.set_cons_zero, List.set_cons_succ])
  refine Stab.wpX_call (fun u _ => ∃ n : Int, u = .int .i64 n ∧ 0 ≤ n ∧ n ≤ 140737488359400 ∧ (n ≤ 1500 → (l.ents.length : Int) ≤ n ∧ ∀ x ∈ l.ents, (x.bs.length : Int) ≤ n)) (fun _ _ => True) rfl rfl (fun _ _ _ h _ => h) (fun _ _ _ _ _ => trivial) ?_ ?_
  · intro wx hC _ hF
    go_simp
    refine ⟨rfl, ?_⟩
    refine (HEO.out _ (((Ext.refl _).alloc _).trans hC)).mono ?_
    rintro ev w9 ⟨n, rfl, h0, h1, h2, rfl⟩
    exact ⟨Ext.refl _, n, rfl, h0, h1, h2⟩
  rintro ux ⟨_, _, ⟨n, rfl, hn0, hn1, hn2⟩, _⟩
  have x5 : IntKind.i64.wrap (1 + (l.want.length : Int) + (l.bs.length : Int) + (l.mems.length : Int) + (l.sums.length : Int) + n) = 1 + (l.want.length : Int) + (l.bs.length : Int) + (l.mems.length : Int) + (l.sums.length : Int) + n := IntWalk.i64_in _ (by omega)
  have HN := Lib.hid hn2
  clear hn2
  simp only [Act.put, List.setIfInBounds_toArray, List.set_cons_zero, List.set_cons_succ]
  iterate 2 (refine Stab.wpX_val rfl rfl ?_; apply Exists.intro; refine ⟨fun wx hC _ => ?_, ?_⟩; (have r := cell_of_heap (hC.blk EB.out); go_simp; exact ⟨Ext.refl _, rfl⟩); simp only [Act.put, List.setIfInBounds_toArray, List.set_cons_zero, List.set_cons_succ])
  refine Stab.wpX_end fun w8 hC8 _ hF8 => ?_
  go_wp2_with fail
  go_ret
  refine ⟨1 + (l.want.length : Int) + (l.bs.length : Int) + (l.mems.length : Int) + (l.sums.length : Int) + n, rfl, by omega, by omega, fun h => ?_, ((Ext.refl _).alloc _).trans hC8⟩
  obtain ⟨h3, h4⟩ := HN.out (by omega)
  exact ⟨by omega, by omega, fun x hx => by have := h4 x hx; omega, by omega, by omega, by omega⟩

def LsP (ls : List Let) (w : World) (e : Ending) (w' : World) : Prop := ∃ n : Int, e = .returned (.int .i64 n) ∧ 0 ≤ n ∧ n ≤ 2000000000000000 ∧ (n ≤ 1500 → (ls.length : Int) ≤ n ∧ ∀ l ∈ ls, l.small) ∧ Ext w w'
def LsRel (ls : List Let) (w : World) (v i : Value) (wr : World) : Prop := ∃ (k : Nat) (z : Int), k ≤ ls.length ∧ i = .int .i64 k ∧ v = .int .i64 z ∧ 0 ≤ z ∧ z ≤ 2000000000000000 ∧ (k : Int) ≤ z ∧ (z ≤ 1500 → ∀ l ∈ ls.take k, l.small) ∧ Ext w wr
set_option maxRecDepth 100000 in
set_option maxHeartbeats 1000000 in
theorem lettersOf_any (A : Option Addr) (c : Nat) (ls : List Let) (w : World) (hA : LetsIn w A ls) (hl : ls.length ≤ 140737488355328) (hb : ∀ l ∈ ls, ∀ x ∈ l.ents, x.bs.length ≤ 140737488355328) :
    Calls Tryz.prog 21 #[.slice A ls.length c, .int .i64 1500] w (LsP ls w) := by
  go_enter Tryz.func21, Tryz.ntmps21
  go_wp2
  go_loopw [5, 6] (fun v i wr => LsRel ls w v i wr) (fun _ i _ => ls.length - (intOf i).toNat)
  case atStart => exact ⟨0, 0, Nat.zero_le _, rfl, rfl, by omega, by omega, by omega, fun _ x hx => by simp at hx, Ext.refl _⟩
  case round =>
    obtain ⟨k, z, hk, rfl, rfl, hz0, hz1, hkz, hr, hE⟩ := hrel
    have HR := Lib.hid hr
    have HE := Lib.hid hE
    clear hr hE
    by_cases hlt : k < ls.length
    · by_cases hz : z ≤ 1500
      · have dz : decide (z ≤ 1500) = true := by simpa using hz
        obtain ⟨b, f, l, rfl, he, hr, hin⟩ := (hA.ext HE.out).at_ hlt
        have HT := Lib.hid (take_snoc' he)
        have HL := Lib.hid (fun wx (h : Ext wr wx) => letterOf_le l wx (hin.ext h) (hb l (List.mem_of_getElem? he)))
        clear he hin
        go_wp2_with (refine wpList_load_letAt rfl _ rfl b (f + k * 23) l (by simp [Act.eval, Act.put]) hr ?_)
        refine (HL.out _ (Ext.refl _)).mono ?_
        rintro ev w1 ⟨v, rfl, hv1, hv2, hv3, hE1⟩
        have x1 : IntKind.i64.wrap (z + v) = z + v := IntWalk.i64_in _ (by omega)
        have HV := Lib.hid hv3
        have HE1 := Lib.hid (HE.out.trans hE1)
        clear hv3 hE1
        go_wp2
        go_roundw
        case rel => exact ⟨k + 1, z + v, by omega, by go_num, rfl, by omega, by omega, by omega, fun h5 x hx => by
          rw [HT.out] at hx
          rcases List.mem_append.1 hx with hx | hx
          · exact HR.out (by omega) x hx
          · simp at hx; subst hx; exact HV.out (by omega), HE1.out⟩
        case measure => simp [intOf]; omega
      · have dz : decide (z ≤ 1500) = false := by simpa using hz
        go_wp2
        go_ret
        exact ⟨z, rfl, hz0, hz1, fun h => by omega, HE.out⟩
    · obtain rfl : k = ls.length := by omega
      have hr := HR.out
      rw [List.take_length] at hr
      go_wp2
      go_ret
      exact ⟨z, rfl, hz0, hz1, fun h => ⟨hkz, hr h⟩, HE.out⟩
end Go.Proofs.YtigljihohpdpeaaGreatDoor
