/-
  Pick, holds, among.
  below.
-/
import Derived.Test.YtigljihohpdpeaaGreatDoorM41
import Derived.Test.YtigljihohpdpeaaGreatDoorM39
namespace Go.Proofs.YtigljihohpdpeaaGreatDoor
open Go.RowKit

theorem pick_any (x n : Int) (w : World) (hn : 1 ≤ n) (hn2 : n ≤ 4611686018427387904) :
    Calls Tryz.prog 8 #[.int .i64 x, .int .i64 n] w fun e w' => e = .returned (.int .i64 (x % n)) ∧ w = w' := by
  have hne : (n == 0) = false := by simp; omega
  have h1 := Int.tmod_lt_of_pos x (show 0 < n by omega)
  have h2 := Int.lt_tmod_of_pos x (show 0 < n by omega)
  have h3 := tmod_neg x n hn
  have h4 := tmod_pos x n hn
  by_cases hlt : x.tmod n < 0
  · have h5 := Lib.hid (h3 hlt)
    clear h3 h4
    go_enter Tryz.func8, Tryz.ntmps8
    go_wp2
    go_ret
    exact ⟨by rw [← h5.out]; rfl, rfl⟩
  · have h5 := Lib.hid (h4 hlt)
    clear h3 h4
    go_enter Tryz.func8, Tryz.ntmps8
    go_wp2
    go_ret
    exact ⟨by rw [← h5.out]; rfl, rfl⟩

def HoRel (xs : List Int) (n : Int) (i : Value) : Prop := ∃ k : Nat, k ≤ xs.length ∧ i = .int .i64 k ∧ n ∉ xs.take k
set_option maxHeartbeats 400000 in
theorem holds_any (A : Option Addr) (c : Nat) (xs : List Int) (n : Int) (w : World) (B : Nat) (hO : Own w B 3 A c (xs.map (.int .i64))) (hl : xs.length ≤ 1000000000) :
    Calls Tryz.prog 12 #[.slice A xs.length c, .int .i64 n] w fun e w' => e = .returned (.bool (decide (n ∈ xs))) ∧ w = w' := by
  go_enter Tryz.func12, Tryz.ntmps12
  go_wp2
  go_loop [5] (fun i => HoRel xs n i) (fun i => xs.length - (intOf i).toNat)
  case atStart => exact ⟨0, Nat.zero_le _, rfl, by simp⟩
  case round =>
    obtain ⟨k, hk, rfl, hr⟩ := hrel
    have HR := Lib.hid hr
    clear hr
    by_cases hlt : k < xs.length
    · obtain ⟨x, hx⟩ : ∃ x, xs[k]? = some x := ⟨_, List.getElem?_eq_getElem hlt⟩
      obtain ⟨g, rfl⟩ := hO.some_ (by rw [List.length_map]; omega)
      have hc : w.cell? ⟨g, k, none⟩ = some (.int .i64 x) := hO.rd.at0 (by simp [hx])
      have HX := Lib.hid hx
      have HT := Lib.hid (take_snoc' hx)
      clear hx
      by_cases hn : x = n
      · subst hn
        have hv := Lib.hid (show decide (x ∈ xs) = true by simpa using List.mem_of_getElem? HX.out)
        have d1 : (x == x) = true := by simp
        go_wp2
        go_ret
        exact ⟨by rw [hv.out]; rfl, rfl⟩
      · have d1 : (x == n) = false := by simpa using hn
        go_wp2
        go_round
        case rel => exact ⟨k + 1, by omega, by go_num, by rw [HT.out]; simp [HR.out]; omega⟩
        case measure => simp [intOf]; omega
    · obtain rfl : k = xs.length := by omega
      have hr := HR.out
      rw [List.take_length] at hr
      have hv := Lib.hid (show decide (n ∈ xs) = false by simpa using hr)
      clear hr
      go_wp2
      go_ret
      exact ⟨by rw [hv.out]; rfl, rfl⟩

def AmRel (ls : List Let) (m : Let) (w : World) (i : Value) (wr : World) : Prop := ∃ k : Nat, k ≤ ls.length ∧ i = .int .i64 k ∧ (∀ l ∈ ls.take k, l.cont ≠ m.cont) ∧ Ext w wr
set_option maxRecDepth 100000 in
set_option maxHeartbeats 1000000 in
theorem among_any (A : Option Addr) (c : Nat) (ls : List Let) (m : Let) (w : World) (hA : LetsIn w A ls) (hm : m.inW w) (hl : ls.length ≤ 1000000000) (h : ∃ l ∈ ls, l.cont = m.cont) :
    Calls Tryz.prog 13 #[.slice A ls.length c, m.v] w fun e w' => e = .returned (.bool true) ∧ Ext w w' := by
  have HH := Lib.hid h
  clear h
  have hV : m.v = .agg m.arr := rfl
  rw [hV]
  go_enter Tryz.func13, Tryz.ntmps13
  go_wp2
  go_loopw [5] (fun i wr => AmRel ls m (w.alloc (.cells m.arr 44)) i wr) (fun i _ => ls.length - (intOf i).toNat)
  case atStart => exact ⟨0, Nat.zero_le _, rfl, fun l hl => by simp at hl, Ext.refl _⟩
  case round =>
    obtain ⟨k, hk, rfl, hr, hE⟩ := hrel
    have HR := Lib.hid hr
    have HE := Lib.hid (((Ext.refl w).alloc (.cells m.arr 44)).trans hE)
    have HG := Lib.hid (hE.blk (heap_alloc_new w (.cells m.arr 44)))
    have HE1 := Lib.hid hE
    clear hr hE
    by_cases hlt : k < ls.length
    · obtain ⟨b, f, l, rfl, hx, hr, hin⟩ := (hA.ext HE.out).at_ hlt
      have HX := Lib.hid hx
      have HT := Lib.hid (take_snoc' hx)
      have HS := Lib.hid (fun wx (h : Ext wr wx) => sameLet_any l m wx (hin.ext h) ((hm.ext HE.out).ext h))
      clear hx hin
      have VAL := Lib.hid hr
      clear hr
      cases hd : decide (l.cont = m.cont)
      · rw [hd] at HS
        go_wp2_with fail
        refine Stab.wp_region_lex Ext (Ext wr) (fun _ => True) (by kernel_rfl) (by kernel_rfl) (fun _ _ h => h) (fun _ _ h k => Ext.trans h k) (fun _ _ _ _ => trivial) ((Ext.refl _).drew) trivial ?_
        simp only [Stab.zipL, Nat.reduceAdd]
        iterate 3 (refine Stab.wpX_val rfl rfl ?_; apply Exists.intro; refine ⟨fun wx hC _ => ?_, ?_⟩; (go_simp; exact ⟨Ext.refl _, rfl⟩); simp only [Act.put, List.setIfInBounds_toArray, List.set_cons_zero, List.set_cons_succ])
        (refine Stab.wpX_val rfl rfl ?_; apply Exists.intro; refine ⟨fun wx hC _ => ?_, ?_⟩; (exact yieldsP_let _ rfl b (f + k * 23) l rfl (fun j v hv => hC.cell (VAL.out j v hv))); simp only [Act.put, List.setIfInBounds_toArray, List.set_cons_zero, List.set_cons_succ])
        (refine Stab.wpX_val rfl rfl ?_; apply Exists.intro; refine ⟨fun wx hC _ => ?_, ?_⟩; (exact yieldsP_let _ rfl w.heap.size 0 m rfl (range_heap (hC.blk HG.out))); simp only [Act.put, List.setIfInBounds_toArray, List.set_cons_zero, List.set_cons_succ])
        refine Stab.wpX_call1 rfl rfl (fun _ _ _ _ => trivial) ?_; apply Exists.intro; refine ⟨fun wx hC _ _ => ?_, ?_⟩; (go_simp; refine ⟨rfl, ?_⟩; refine (HS.out wx hC).mono ?_; rintro ev w9 ⟨rfl, hE9⟩; first | exact ⟨hE9, rfl⟩ | exact ⟨hE9, rfl, trivial⟩); simp only [Act.put, List.setIfInBounds_toArray, List.set_cons_zero, List.set_cons_succ]
        refine Stab.wpX_end fun w8 hC8 _ _ => ?_
        go_wp2_with fail
        go_roundw
        case rel => exact ⟨k + 1, by omega, by go_num, fun y hy => by
          rw [HT.out] at hy
          rcases List.mem_append.1 hy with hy | hy
          · exact HR.out y hy
          · simp at hy
            subst hy
            simpa using hd, HE1.out.trans hC8⟩
        case measure => simp [intOf]; omega
      · rw [hd] at HS
        go_wp2_with fail
        refine Stab.wp_region_lex Ext (Ext wr) (fun _ => True) (by kernel_rfl) (by kernel_rfl) (fun _ _ h => h) (fun _ _ h k => Ext.trans h k) (fun _ _ _ _ => trivial) ((Ext.refl _).drew) trivial ?_
        simp only [Stab.zipL, Nat.reduceAdd]
        iterate 3 (refine Stab.wpX_val rfl rfl ?_; apply Exists.intro; refine ⟨fun wx hC _ => ?_, ?_⟩; (go_simp; exact ⟨Ext.refl _, rfl⟩); simp only [Act.put, List.setIfInBounds_toArray, List.set_cons_zero, List.set_cons_succ])
        (refine Stab.wpX_val rfl rfl ?_; apply Exists.intro; refine ⟨fun wx hC _ => ?_, ?_⟩; (exact yieldsP_let _ rfl b (f + k * 23) l rfl (fun j v hv => hC.cell (VAL.out j v hv))); simp only [Act.put, List.setIfInBounds_toArray, List.set_cons_zero, List.set_cons_succ])
        (refine Stab.wpX_val rfl rfl ?_; apply Exists.intro; refine ⟨fun wx hC _ => ?_, ?_⟩; (exact yieldsP_let _ rfl w.heap.size 0 m rfl (range_heap (hC.blk HG.out))); simp only [Act.put, List.setIfInBounds_toArray, List.set_cons_zero, List.set_cons_succ])
        refine Stab.wpX_call1 rfl rfl (fun _ _ _ _ => trivial) ?_; apply Exists.intro; refine ⟨fun wx hC _ _ => ?_, ?_⟩; (go_simp; refine ⟨rfl, ?_⟩; refine (HS.out wx hC).mono ?_; rintro ev w9 ⟨rfl, hE9⟩; first | exact ⟨hE9, rfl⟩ | exact ⟨hE9, rfl, trivial⟩); simp only [Act.put, List.setIfInBounds_toArray, List.set_cons_zero, List.set_cons_succ]
        refine Stab.wpX_end fun w8 hC8 _ _ => ?_
        go_wp2_with fail
        go_ret
        exact ⟨rfl, HE.out.trans hC8⟩
    · exfalso
      obtain rfl : k = ls.length := by omega
      have hr := HR.out
      rw [List.take_length] at hr
      obtain ⟨l, h1, h2⟩ := HH.out
      exact hr l h1 h2
end Go.Proofs.YtigljihohpdpeaaGreatDoor
namespace Go.Proofs.YtigljihohpdpeaaGreatDoor
open Go.RowKit

theorem infoBools : (Tryz.prog.info? 4).map (fun i => (i.zero, i.size, i.bytes)) = some (some (.bool false), 1, 1) := by kernel_rfl
theorem mkBools (N : Nat) (hn : N ≤ 100000) (w : World) : (Instr.makeSlice 82 (.int .i64 (N : Int)) (.int .i64 (N : Int))).run Tryz.prog w = .ok (.slice (some ⟨w.heap.size, 0, none⟩) N N) (w.alloc (.cells (madeCells #[.bool false] N) 4)) := by
  obtain ⟨i0, hi, hz0, hz1, hz2⟩ := info_parts infoBools
  exact run_mk0 (P := Tryz.prog) 82 4 i0 _ Tryz.underlying82 hi hz0 hz1 N N (N : Int) rfl (Nat.le_refl _) (by omega) (by omega) w
theorem made_bools (N : Nat) : madeCells #[.bool false] N = ((List.replicate N false).map Value.bool).toArray := by
  apply Array.toList_inj.1
  rw [toList_madeCells_one]
  simp
/-- The row of what is used. -/
def UsedAt (w : World) (g : Nat) (us : List Bool) : Prop := w.heap[g]? = some (.cells (us.map Value.bool).toArray 4)
theorem UsedAt.cell {w : World} {g : Nat} {us : List Bool} (h : UsedAt w g us) {k : Nat} {b : Bool} (hk : us[k]? = some b) : w.cell? ⟨g, k, none⟩ = some (.bool b) := by
  rw [cell_of_heap h]
  simp [hk]
theorem UsedAt.set {w : World} {g : Nat} {us : List Bool} (h : UsedAt w g us) (k : Nat) : UsedAt (w.setCell ⟨g, k, none⟩ (.bool true)) g (us.set k true) := by
  unfold UsedAt
  rw [heap_set h]
  simp [List.map_set]
theorem UsedAt.ext {w w' : World} {g : Nat} {us : List Bool} (h : UsedAt w g us) (he : Ext w w') : UsedAt w' g us := he.blk h
def BeRel (xs bs : List Let) (w : World) (i : Value) (wr : World) : Prop :=
  ∃ (k : Nat) (us : List Bool), k ≤ xs.length ∧ i = .int .i64 k ∧ us.length = bs.length ∧ (∀ c, usedOf c us (bs.map Let.cont) = ((xs.map Let.cont).take k).count c) ∧ UsedAt wr w.heap.size us ∧ Ext w wr
def BiRel (a : Let) (us : List Bool) (bs : List Let) (w : World) (j : Value) (wr : World) : Prop :=
  ∃ (k : Nat), k ≤ bs.length ∧ j = .int .i64 k ∧ (∀ n, n < k → ¬ (us[n]? = some false ∧ (bs.map Let.cont)[n]? = some a.cont)) ∧ UsedAt wr w.heap.size us ∧ Ext w wr
set_option maxRecDepth 100000 in
set_option maxHeartbeats 4000000 in
theorem below_any (A D : Option Addr) (c d : Nat) (xs bs : List Let) (w : World) (hA : LetsIn w A xs) (hD : LetsIn w D bs) (hla : xs.length ≤ 100000) (hlb : bs.length ≤ 100000)
    (h : ∀ c, (xs.map Let.cont).count c ≤ (bs.map Let.cont).count c) :
    Calls Tryz.prog 19 #[.slice A xs.length c, .slice D bs.length d] w fun e w' => e = .returned (.bool true) ∧ Ext w w' := by
  have HH := Lib.hid h
  have HA := Lib.hid hA
  have HD := Lib.hid hD
  have hmk := mkBools bs.length hlb
  clear h hA hD
  go_enter Tryz.func19, Tryz.ntmps19
  go_wp2_with fail
  go_loopw [6] (fun i wr => BeRel xs bs w i wr) (fun i _ => xs.length - (intOf i).toNat)
  case atStart => exact ⟨0, List.replicate bs.length false, Nat.zero_le _, rfl, by simp, fun c => by rw [gr_used_none]; simp, by unfold UsedAt; rw [heap_alloc_new, made_bools], (Ext.refl w).alloc _⟩
  case round =>
    obtain ⟨k, us, hk, rfl, hul, hus, hu, hE⟩ := hrel
    have HUS := Lib.hid hus
    have HU := Lib.hid hu
    have HE := Lib.hid hE
    clear hus hu hE
    by_cases hlt : k < xs.length
    · obtain ⟨ba, fa, a, rfl, ha, hra, hia⟩ := HA.out.at_ hlt
      have HRA := Lib.hid (And.intro hra hia)
      have hak : (xs.map Let.cont)[k]? = some a.cont := by simp [ha]
      have HAK := Lib.hid hak
      have HST := Lib.hid (gr_step HH.out hak (by simpa using hul) HUS.out)
      clear hra hia ha hak
      go_wp2_with fail
      obtain ⟨wo, rfl⟩ : ∃ wo : World, wo = wr := ⟨_, rfl⟩
      go_loopw [7] (fun j wx => BiRel a us bs w j wx) (fun j _ => bs.length - (intOf j).toNat)
      case atStart => exact ⟨0, Nat.zero_le _, rfl, fun n hn => by omega, HU.out, HE.out⟩
      case round =>
        obtain ⟨j, hj, rfl, hno, hu2, hE2⟩ := hrel
        have HNO := Lib.hid hno
        have HU2 := Lib.hid hu2
        have HE2 := Lib.hid hE2
        clear hno hu2 hE2
        by_cases hltj : j < bs.length
        · obtain ⟨bd, fd, b, rfl, hb, hrb, hib⟩ := (HD.out.ext HE2.out).at_ hltj
          have hjb : ((j : Int) == (bs.length : Int)) = false := by simp; omega
          have HB := Lib.hid (show (bs.map Let.cont)[j]? = some b.cont by simp [hb])
          have VA := Lib.hid (fun i v hv => HE2.out.cell (HRA.out.1 i v hv))
          have VB := Lib.hid hrb
          have HS := Lib.hid (fun wx (h : Ext wr wx) => sameLet_any a b wx ((HRA.out.2.ext HE2.out).ext h) (hib.ext h))
          obtain ⟨v, hv⟩ : ∃ v, us[j]? = some v := ⟨_, List.getElem?_eq_getElem (by omega)⟩
          have hcell := HU2.out.cell hv
          have HV := Lib.hid hv
          clear hb hrb hib hv
          cases v with
          | true =>
            go_wp2_with fail
            refine Stab.wp_region_lex Ext (Ext wr) (fun _ => True) (by kernel_rfl) (by kernel_rfl) (fun _ _ h => h) (fun _ _ h k => Ext.trans h k) (fun _ _ _ _ => trivial) ((Ext.refl _).drew) trivial ?_
            simp only [Stab.zipL, Nat.reduceAdd]
            iterate 10 (refine Stab.wpX_val rfl rfl ?_; apply Exists.intro; refine ⟨fun wx hC _ => ?_, ?_⟩; (have r := hC.cell hcell; go_simp; exact ⟨Ext.refl _, rfl⟩); simp only [Act.put, List.setIfInBounds_toArray, List.set_cons_zero, List.set_cons_succ])
            iterate 10 (refine Stab.wpX_skip rfl ?_; simp only [Act.put, List.setIfInBounds_toArray, List.set_cons_zero, List.set_cons_succ])
            iterate 2 (refine Stab.wpX_val rfl rfl ?_; apply Exists.intro; refine ⟨fun wx hC _ => ?_, ?_⟩; (have r := hC.cell hcell; go_simp; exact ⟨Ext.refl _, rfl⟩); simp only [Act.put, List.setIfInBounds_toArray, List.set_cons_zero, List.set_cons_succ])
            refine Stab.wpX_end fun w8 hC8 _ _ => ?_
            go_wp2_with fail
            go_roundw
            case rel =>
              refine ⟨j + 1, by omega, by go_num, fun n hn => ?_, UsedAt.ext HU2.out hC8, HE2.out.trans hC8⟩
              by_cases hnj : n < j
              · exact HNO.out n hnj
              · obtain rfl : n = j := by omega
                rintro ⟨q1, q2⟩
                rw [HV.out] at q1
                cases q1
            case measure => simp [intOf]; omega
          | false =>
            cases hd : decide (a.cont = b.cont)
            · rw [hd] at HS
              have HDD := Lib.hid hd
              clear hd
              go_wp2_with fail
              refine Stab.wp_region_lex Ext (Ext wr) (fun _ => True) (by kernel_rfl) (by kernel_rfl) (fun _ _ h => h) (fun _ _ h k => Ext.trans h k) (fun _ _ _ _ => trivial) ((Ext.refl _).drew) trivial ?_
              simp only [Stab.zipL, Nat.reduceAdd]
              iterate 13 (refine Stab.wpX_val rfl rfl ?_; apply Exists.intro; refine ⟨fun wx hC _ => ?_, ?_⟩; (have r := hC.cell hcell; go_simp; exact ⟨Ext.refl _, rfl⟩); simp only [Act.put, List.setIfInBounds_toArray, List.set_cons_zero, List.set_cons_succ])
              (refine Stab.wpX_val rfl rfl ?_; apply Exists.intro; refine ⟨fun wx hC _ => ?_, ?_⟩; (exact yieldsP_let _ rfl ba (fa + k * 23) a rfl (fun j v hv => hC.cell (VA.out j v hv))); simp only [Act.put, List.setIfInBounds_toArray, List.set_cons_zero, List.set_cons_succ])
              iterate 3 (refine Stab.wpX_val rfl rfl ?_; apply Exists.intro; refine ⟨fun wx hC _ => ?_, ?_⟩; (have r := hC.cell hcell; go_simp; exact ⟨Ext.refl _, rfl⟩); simp only [Act.put, List.setIfInBounds_toArray, List.set_cons_zero, List.set_cons_succ])
              (refine Stab.wpX_val rfl rfl ?_; apply Exists.intro; refine ⟨fun wx hC _ => ?_, ?_⟩; (exact yieldsP_let _ rfl bd (fd + j * 23) b rfl (fun j v hv => hC.cell (VB.out j v hv))); simp only [Act.put, List.setIfInBounds_toArray, List.set_cons_zero, List.set_cons_succ])
              refine Stab.wpX_call1 rfl rfl (fun _ _ _ _ => trivial) ?_; apply Exists.intro; refine ⟨fun wx hC _ _ => ?_, ?_⟩; (go_simp; refine ⟨rfl, ?_⟩; refine (HS.out wx hC).mono ?_; rintro ev w9 ⟨rfl, hE9⟩; first | exact ⟨hE9, rfl⟩ | exact ⟨hE9, rfl, trivial⟩); simp only [Act.put, List.setIfInBounds_toArray, List.set_cons_zero, List.set_cons_succ]
              iterate 3 (refine Stab.wpX_val rfl rfl ?_; apply Exists.intro; refine ⟨fun wx hC _ => ?_, ?_⟩; (have r := hC.cell hcell; go_simp; exact ⟨Ext.refl _, rfl⟩); simp only [Act.put, List.setIfInBounds_toArray, List.set_cons_zero, List.set_cons_succ])
              refine Stab.wpX_end fun w8 hC8 _ _ => ?_
              go_wp2_with fail
              go_roundw
              case rel =>
                refine ⟨j + 1, by omega, by go_num, fun n hn => ?_, UsedAt.ext HU2.out hC8, HE2.out.trans hC8⟩
                by_cases hnj : n < j
                · exact HNO.out n hnj
                · obtain rfl : n = j := by omega
                  rintro ⟨q1, q2⟩
                  rw [HB.out] at q2
                  injection q2 with q2
                  exact of_decide_eq_false HDD.out q2.symm
              case measure => simp [intOf]; omega
            · rw [hd] at HS
              have HDD := Lib.hid hd
              clear hd
              go_wp2_with fail
              refine Stab.wp_region_lex Ext (Ext wr) (fun _ => True) (by kernel_rfl) (by kernel_rfl) (fun _ _ h => h) (fun _ _ h k => Ext.trans h k) (fun _ _ _ _ => trivial) ((Ext.refl _).drew) trivial ?_
              simp only [Stab.zipL, Nat.reduceAdd]
              iterate 13 (refine Stab.wpX_val rfl rfl ?_; apply Exists.intro; refine ⟨fun wx hC _ => ?_, ?_⟩; (have r := hC.cell hcell; go_simp; exact ⟨Ext.refl _, rfl⟩); simp only [Act.put, List.setIfInBounds_toArray, List.set_cons_zero, List.set_cons_succ])
              (refine Stab.wpX_val rfl rfl ?_; apply Exists.intro; refine ⟨fun wx hC _ => ?_, ?_⟩; (exact yieldsP_let _ rfl ba (fa + k * 23) a rfl (fun j v hv => hC.cell (VA.out j v hv))); simp only [Act.put, List.setIfInBounds_toArray, List.set_cons_zero, List.set_cons_succ])
              iterate 3 (refine Stab.wpX_val rfl rfl ?_; apply Exists.intro; refine ⟨fun wx hC _ => ?_, ?_⟩; (have r := hC.cell hcell; go_simp; exact ⟨Ext.refl _, rfl⟩); simp only [Act.put, List.setIfInBounds_toArray, List.set_cons_zero, List.set_cons_succ])
              (refine Stab.wpX_val rfl rfl ?_; apply Exists.intro; refine ⟨fun wx hC _ => ?_, ?_⟩; (exact yieldsP_let _ rfl bd (fd + j * 23) b rfl (fun j v hv => hC.cell (VB.out j v hv))); simp only [Act.put, List.setIfInBounds_toArray, List.set_cons_zero, List.set_cons_succ])
              refine Stab.wpX_call1 rfl rfl (fun _ _ _ _ => trivial) ?_; apply Exists.intro; refine ⟨fun wx hC _ _ => ?_, ?_⟩; (go_simp; refine ⟨rfl, ?_⟩; refine (HS.out wx hC).mono ?_; rintro ev w9 ⟨rfl, hE9⟩; first | exact ⟨hE9, rfl⟩ | exact ⟨hE9, rfl, trivial⟩); simp only [Act.put, List.setIfInBounds_toArray, List.set_cons_zero, List.set_cons_succ]
              iterate 3 (refine Stab.wpX_val rfl rfl ?_; apply Exists.intro; refine ⟨fun wx hC _ => ?_, ?_⟩; (have r := hC.cell hcell; go_simp; exact ⟨Ext.refl _, rfl⟩); simp only [Act.put, List.setIfInBounds_toArray, List.set_cons_zero, List.set_cons_succ])
              refine Stab.wpX_end fun w8 hC8 _ _ => ?_
              have fz := frozen_of_heap (hC8.blk HU2.out) j
              have hc8 := hC8.cell hcell
              have HC8 := Lib.hid hC8
              clear hC8
              go_wp2_with fail
              go_roundw
              case rel => exact ⟨k + 1, us.set j true, by omega, by go_num, by simp [hul], gr_step_set HAK.out HUS.out HV.out (by rw [HB.out, of_decide_eq_true HDD.out]), (UsedAt.ext HU2.out HC8.out).set j, ((Fr.ofExt (isB w.heap.size) (HE2.out.trans HC8.out)).set (p := ⟨w.heap.size, j, none⟩) (.inl rfl) _).toExt (fun i hi => by unfold isB at hi; omega)⟩
              case measure => simp [intOf]; omega
        · exfalso
          obtain ⟨n, h1, h2⟩ := HST.out
          have hn : n < (bs.map Let.cont).length := (List.getElem?_eq_some_iff.1 h2).1
          rw [List.length_map] at hn
          exact HNO.out n (by omega) ⟨h1, h2⟩
    · obtain rfl : k = xs.length := by omega
      go_wp2
      go_ret
      exact ⟨rfl, HE.out⟩
end Go.Proofs.YtigljihohpdpeaaGreatDoor
