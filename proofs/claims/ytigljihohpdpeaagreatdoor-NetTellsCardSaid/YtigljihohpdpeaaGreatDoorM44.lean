/-
  The law's loop: what holds at each round.
  NetTells: the walk.
-/
import Derived.Test.YtigljihohpdpeaaGreatDoorM30
import Derived.Test.YtigljihohpdpeaaGreatDoorM42
import Derived.Test.YtigljihohpdpeaaGreatDoorM43
import Derived.Test.YtigljihohpdpeaaGreatDoorM40
import Derived.Deep.LoopGhost
import Derived.Deep.CutBlock
namespace Go.Proofs.YtigljihohpdpeaaGreatDoor
open Go.RowKit

theorem infoDeed : (Tryz.prog.info? 29).map (·.size) = some 4 := by kernel_rfl
def Deed.arr (d : Deed) : Array Value := #[.int .i64 d.what, .int .i64 d.i, .bool d.off, .slice d.lA d.ls.length d.lc]
theorem deed_one (d : Deed) : ∀ v ∈ d.arr, v.oneCell' = true := by
  intro v hv
  simp only [Deed.arr, List.mem_toArray, List.mem_cons, List.not_mem_nil, or_false] at hv
  rcases hv with rfl | rfl | rfl | rfl <;> rfl
theorem not_cut {off : List Bool} {i : Int} (h : cut off i = false) : i ∉ offs off 8 := by
  intro hm
  unfold offs at hm
  obtain ⟨j, hj, rfl⟩ := List.mem_map.1 hm
  obtain ⟨_, hj2⟩ := List.mem_filter.1 hj
  unfold cut at h
  rw [Int.toNat_natCast, hj2] at h
  cases h
theorem lens_take {ds : List Deed} {k : Nat} {d : Deed} (h : ds[k]? = some d) : lens (ds.take (k + 1)) = lens (ds.take k) + d.ls.length := by rw [take_snoc' h, lens_snoc]
theorem lens_le (ds : List Deed) (k : Nat) : lens (ds.take k) ≤ lens ds := by
  have h : lens ds = lens (ds.take k) + lens (ds.drop k) := by
    unfold lens
    rw [← List.sum_append, ← List.map_append, List.take_append_drop]
  omega
/-- What holds ahead of round k. -/
def NlAt (ds : List Deed) (W : World) (k : Nat) (sv gv : Value) (wr : World) : Prop :=
  ∃ (A : Option Addr) (c : Nat) (s : NetS) (As : Option Addr) (cs : Nat) (SS : List Let) (Ag : Option Addr) (cg : Nat) (GG LL : List Let),
    sv = .slice As SS.length cs ∧ gv = .slice Ag GG.length cg ∧ NT wr W.heap.size (W.heap.size + 1) W.heap.size A c s As cs SS Ag cg GG ∧ NR s SS GG LL ∧ SS.length ≤ k + lens (ds.take k) ∧ Ext W wr
def NlRel (ds : List Deed) (W : World) (g : Nat) (sv gv i : Value) (wr : World) : Prop := ∃ k : Nat, k ≤ ds.length ∧ g = ds.length - k ∧ i = .int .i64 k ∧ NlAt ds W k sv gv wr
theorem NlRel.start {ds : List Deed} {W w : World} (hN : NetAt w W.heap.size (W.heap.size + 1) W.heap.size none 0 NetS.zero) (hE : Ext W w) : NlRel ds W ds.length (.slice none 0 0) (.slice none 0 0) (.int .i64 0) w :=
  ⟨0, Nat.zero_le _, by omega, rfl, none, 0, NetS.zero, none, 0, [], none, 0, [], [], rfl, rfl,
    ⟨hN, OwnW.nil _ _ _ _, OwnW.nil _ _ _ _, fun i h => by simp [blk] at h, fun i h => by simp [blk] at h, fun i h => by simp [blk] at h, fun u h => by simp [NetS.zero] at h, fun u h => by simp at h, fun u h => by simp at h⟩, NR.zero, by simp, hE⟩
theorem rd_let (w : World) (u : Let) : Rd (w.alloc (.cells u.arr 44)) (some ⟨w.heap.size, 0, none⟩) (flat [u]) := fun j v hj => ⟨_, rfl, by
  rw [add_lit', Nat.zero_add, cell_of_heap (heap_alloc_new w _)]
  simpa [flat] using hj⟩
theorem NewLets.fr {B : Nat} {w w' : World} {A : Option Addr} {c : Nat} {ms : List Let} {S : Nat → Prop} (h : NewLets B w A c ms) (hf : Fr S w w') (hS : ∀ i, S i → i < B) : NewLets B w' A c ms :=
  ⟨h.o.fr hf fun i hi t => by have := hS i t; have := (h.o.lt hi).1; omega, fun m hm => ⟨(h.h m hm).i.fr hf ((h.h m hm).o.sub fun i t => .inl (hS i t)), (h.h m hm).o, (h.h m hm).s⟩⟩
theorem some_cont {us ms : List Let} {u : Let} (h : ms.map Let.cont = us.map Let.cont) (hu : u ∈ us) : ∃ m ∈ ms, m.cont = u.cont := by
  have h1 : u.cont ∈ ms.map Let.cont := by rw [h]; exact List.mem_map_of_mem hu
  obtain ⟨m, hm, he⟩ := List.mem_map.1 h1
  exact ⟨m, hm, he⟩
theorem cont_len {us ms : List Let} (h : ms.map Let.cont = us.map Let.cont) : ms.length = us.length := by simpa using congrArg List.length h
theorem cont_at {us ms : List Let} {u m : Let} {k : Nat} (h : ms.map Let.cont = us.map Let.cont) (hu : us[k]? = some u) (hm : ms[k]? = some m) : m.cont = u.cont := by
  have h1 := congrArg (fun l => l[k]?) h
  simpa [hu, hm] using h1
end Go.Proofs.YtigljihohpdpeaaGreatDoor
namespace Go.Proofs.YtigljihohpdpeaaGreatDoor
open Go.RowKit

set_option maxRecDepth 100000 in
set_option maxHeartbeats 8000000 in
theorem netTells_any (A0 : Option Addr) (c0 : Nat) (ds : List Deed) (w : World) (hA : DeedsIn w A0 ds) (hl : ds.length ≤ 140737488355328) (hg : ErrT w) :
    Calls Tryz.prog 3 #[.slice A0 ds.length c0] w fun e w' => e = .returned (.bool true) ∧ Ext w w' := by
  have HDS := Lib.hid hA
  have HG := Lib.hid hg
  have hB : 0 < w.heap.size := World.block_lt_of_cell? w _ hg
  have HAW := Lib.hid (awake_any w hg)
  have HGR := Lib.hid (fun w' (h : Ext w w') => great_any A0 c0 ds w' (hA.ext h) hl)
  clear hA hg
  go_enter Tryz.func3, Tryz.ntmps3
  go_wp2_with fail
  refine (HAW.out).mono ?_
  rintro ev w1 ⟨rfl, hE1⟩
  have HE1 := Lib.hid hE1
  clear hE1
  go_wp2_with fail
  refine (HGR.out w1 HE1.out).mono ?_
  rintro ev w2 ⟨b, rfl, hb, hE2⟩
  cases b with
  | true =>
    go_wp2_with fail
    go_ret
    exact ⟨rfl, HE1.out.trans hE2⟩
  | false =>
    obtain ⟨hd1, hd2, hsm⟩ := hb rfl
    have HSM := Lib.hid hsm
    have HE2 := Lib.hid (HE1.out.trans hE2)
    have hB2 : 0 < w2.heap.size := Nat.lt_of_lt_of_le hB HE2.out.sz
    clear hb hsm hE2 HAW HGR
    go_wp2_with fail
    refine (new_any w2).mono ?_
    rintro ev w3 ⟨rfl, hN3, hE3⟩
    have HN3 := Lib.hid hN3
    have HE3 := Lib.hid hE3
    clear hN3 hE3
    go_wp2_with fail
    go_loopg [4, 5, 6] ds.length (fun g sv gv i wr => NlRel ds w2 g sv gv i wr)
    case atStart => exact NlRel.start HN3.out HE3.out
    case round =>
      obtain ⟨k, hk, rfl, rfl, A, c, s, As, cs, SS, Ag, cg, GG, LL, rfl, rfl, hNT, hNR, hbd, hEr⟩ := hrel
      have HNT := Lib.hid hNT
      have HNR := Lib.hid hNR
      have HEr := Lib.hid hEr
      have hlle := lens_le ds k
      have HF := Lib.hid (hNR.fits (by omega))
      clear hNT hNR hEr
      by_cases hlt : k < ds.length
      · obtain ⟨b, f, d, rfl, hd, hr, hin⟩ := (HDS.out.ext (HE2.out.trans HEr.out)).at_ hlt
        have hlens := lens_take hd
        have hlle2 := lens_le ds (k + 1)
        have HD := Lib.hid hd
        clear hd hin
        go_wp2_with (first | (refine wpList_load_mid rfl 29 _ rfl b (f + k * 4) (by simp [Act.eval, Act.put]) d.cells _ hr Tryz.underlying29 rfl infoDeed ?_) | (refine wpList_store_row rfl 29 _ _ rfl rfl wr.heap.size 4 _ d.arr rfl rfl (heap_alloc_new wr _) infoDeed (by simp) rfl (deed_one d) ?_; intro w5 hG5 hF5; have HG5 := Lib.hid hG5; have HF5 := Lib.hid hF5; clear hG5 hF5))
        have HE5 := Lib.hid (show Ext wr w5 from ((Fr.ofExt (isB wr.heap.size) ((Ext.refl wr).alloc _)).trans HF5.out (fun _ _ h => h)).toExt (fun i hi => by unfold isB at hi; omega))
        have HNT5 := Lib.hid (HNT.out.ext HE5.out)
        refine (look_any w5 _ _ _ A c s HNT5.out.n HF.out.f1).mono ?_
        rintro ev w6 ⟨Al, cl, ms, rfl, hmc, hNL, hE6⟩
        have HMC := Lib.hid hmc
        have HNL := Lib.hid hNL
        have HNT6 := Lib.hid (HNT5.out.ext hE6)
        have HX := Lib.hid (hE6.blk HG5.out)
        have HE26 := Lib.hid (HEr.out.trans (HE5.out.trans hE6))
        have hsz5 := HE5.out.sz
        have hsz6 := hE6.sz
        have hsz2 := HEr.out.sz
        have hBl : ∀ i, Mu (w2.heap.size + 1) w2.heap.size A As Ag i → i < w5.heap.size := fun i hi => (HNT5.out.lt hi).2
        have hBr : ∀ i, Mu (w2.heap.size + 1) w2.heap.size A As Ag i → i < wr.heap.size := fun i hi => (HNT.out.lt hi).2
        have hB0 : ∀ i, Mu (w2.heap.size + 1) w2.heap.size A As Ag i → w2.heap.size ≤ i := fun i hi => (HNT.out.lt hi).1
        have HBL := Lib.hid hBl
        have HBR := Lib.hid hBr
        have HB0 := Lib.hid hB0
        have x0 : w6.cell? ⟨wr.heap.size, 0, none⟩ = some (.int .i64 d.what) := by rw [cell_of_heap HX.out]; rfl
        have x1 : w6.cell? ⟨wr.heap.size, 1, none⟩ = some (.int .i64 d.i) := by rw [cell_of_heap HX.out]; rfl
        have x2 : w6.cell? ⟨wr.heap.size, 2, none⟩ = some (.bool d.off) := by rw [cell_of_heap HX.out]; rfl
        have x3 : w6.cell? ⟨wr.heap.size, 3, none⟩ = some (.slice d.lA d.ls.length d.lc) := by rw [cell_of_heap HX.out]; rfl
        have hdi : d.inW w := by
          obtain ⟨_, _, _, _, h⟩ := HDS.out k d HD.out
          exact h
        have HDI := Lib.hid (Deed.inW.ext hdi HE2.out)
        have HERR := Lib.hid (HG.out.ext (HE2.out.trans HE26.out))
        obtain ⟨r, hr6⟩ : ∃ r : Int, d.what % 6 = r := ⟨_, rfl⟩
        have hrc : r = 0 ∨ r = 1 ∨ r = 2 ∨ r = 3 ∨ r = 4 ∨ r = 5 := by omega
        have hP := pick_any d.what 6 w6 (by omega) (by omega)
        rw [hr6] at hP
        have HP := Lib.hid hP
        have HRC := Lib.hid hrc
        clear hmc hNL hBl hBr hB0 hdi hP hrc hr6 hr hE6
        go_upto_block 2 with (go_at_call 8; refine (HP.out).mono ?_; rintro ev wq ⟨rfl, rfl⟩)
        go_cut [4, 5] (fun sv gv wx => NlAt ds w2 (k + 1) sv gv wx)
        case first =>
          rcases HRC.out with rfl | rfl | rfl | rfl | rfl | rfl
          · go_wp2_with fail
            refine (send_any w6 _ _ _ A c s HNT6.out.n HF.out hB2 HE26.out.sz HERR.out d.lA d.lc d.ls (HDI.out.l1.ext HE26.out) (by omega) (fun hn => LetsIn.old HDI.out.l1 (fun i hi => (HNT6.out.n.mut_lt hi).1) hn) (fun l hl => ⟨(HDI.out.l1.all l hl).ext HE26.out, (HDI.out.l1.all l hl).old (fun i hi => (HNT6.out.n.mut_lt hi).1), HSM.out d (List.mem_of_getElem? HD.out) l hl⟩)).mono ?_
            rintro ev w7 (⟨h0, rfl, hE7⟩ | ⟨_, rfl, ns, hns, hno, hst⟩)
            · clear h0
              go_wp2_with fail
              go_meet
              exact ⟨A, c, s, As, cs, SS, Ag, cg, GG, LL, rfl, rfl, HNT6.out.ext hE7, HNR.out, by omega, HE26.out.trans hE7⟩
            · obtain ⟨A7, c7, hNT7, hF7, hM7⟩ := HNT6.out.step hst (fun x hx => (List.mem_append.1 hx).imp id (fun h => hno x h))
              have x3 : w7.cell? ⟨wr.heap.size, 3, none⟩ = some (.slice d.lA d.ls.length d.lc) := by
                rw [cell_of_heap ((hF7.block _ (heap_lt HX.out) (fun t => by have := HBR.out _ (.inl t); omega)).trans HX.out)]
                rfl
              have HE7 := Lib.hid (Fr.low HE26.out hF7 (fun i hi => HB0.out i (.inl hi)))
              have HNS := Lib.hid hns
              have hO7 := hNT7.o1
              have HNT7 := Lib.hid hNT7
              have hr7 := (HDI.out.l1.ext HE7.out).rd
              have hB7 := HE7.out.sz
              clear hns hno hst hNT7 hF7 hM7
              go_wp2_with (at_builtin; refine appendLets _ rfl _ _ rfl w2.heap.size As _ cs SS rfl rfl hO7 _ d.ls.length d.lc d.ls rfl rfl hr7 (by omega) hB7 ?_; intro A8 c8 w8 hO8 hF8 hA8)
              go_meet
              have hlow := HNT7.out
              exact ⟨A7, c7, _, A8, c8, SS ++ d.ls, Ag, cg, GG, LL, by rw [List.length_append], rfl, HNT7.out.grow_s hO8 hF8 hA8 (fun x hx => ⟨(HDI.out.l1.all x hx).ext HE7.out, (HDI.out.l1.all x hx).old (fun i hi => (hlow.lt hi).1)⟩), HNR.out.more HNS.out (a := s.sent + d.ls.length) (b := s.twice) (by omega) (by have := HF.out.f2; omega) HF.out.f5.1, by rw [List.length_append]; omega, Fr.low HE7.out hF8 (fun i hi => (HNT7.out.o1.lt hi).1)⟩
          · go_wp2_with fail
            refine (send_any w6 _ _ _ A c s HNT6.out.n HF.out hB2 HE26.out.sz HERR.out d.lA d.lc d.ls (HDI.out.l1.ext HE26.out) (by omega) (fun hn => LetsIn.old HDI.out.l1 (fun i hi => (HNT6.out.n.mut_lt hi).1) hn) (fun l hl => ⟨(HDI.out.l1.all l hl).ext HE26.out, (HDI.out.l1.all l hl).old (fun i hi => (HNT6.out.n.mut_lt hi).1), HSM.out d (List.mem_of_getElem? HD.out) l hl⟩)).mono ?_
            rintro ev w7 (⟨h0, rfl, hE7⟩ | ⟨_, rfl, ns, hns, hno, hst⟩)
            · clear h0
              go_wp2_with fail
              go_meet
              exact ⟨A, c, s, As, cs, SS, Ag, cg, GG, LL, rfl, rfl, HNT6.out.ext hE7, HNR.out, by omega, HE26.out.trans hE7⟩
            · obtain ⟨A7, c7, hNT7, hF7, hM7⟩ := HNT6.out.step hst (fun x hx => (List.mem_append.1 hx).imp id (fun h => hno x h))
              have x3 : w7.cell? ⟨wr.heap.size, 3, none⟩ = some (.slice d.lA d.ls.length d.lc) := by
                rw [cell_of_heap ((hF7.block _ (heap_lt HX.out) (fun t => by have := HBR.out _ (.inl t); omega)).trans HX.out)]
                rfl
              have HE7 := Lib.hid (Fr.low HE26.out hF7 (fun i hi => HB0.out i (.inl hi)))
              have HNS := Lib.hid hns
              have hO7 := hNT7.o1
              have HNT7 := Lib.hid hNT7
              have hr7 := (HDI.out.l1.ext HE7.out).rd
              have hB7 := HE7.out.sz
              clear hns hno hst hNT7 hF7 hM7
              go_wp2_with (at_builtin; refine appendLets _ rfl _ _ rfl w2.heap.size As _ cs SS rfl rfl hO7 _ d.ls.length d.lc d.ls rfl rfl hr7 (by omega) hB7 ?_; intro A8 c8 w8 hO8 hF8 hA8)
              go_meet
              have hlow := HNT7.out
              exact ⟨A7, c7, _, A8, c8, SS ++ d.ls, Ag, cg, GG, LL, by rw [List.length_append], rfl, HNT7.out.grow_s hO8 hF8 hA8 (fun x hx => ⟨(HDI.out.l1.all x hx).ext HE7.out, (HDI.out.l1.all x hx).old (fun i hi => (hlow.lt hi).1)⟩), HNR.out.more HNS.out (a := s.sent + d.ls.length) (b := s.twice) (by omega) (by have := HF.out.f2; omega) HF.out.f5.1, by rw [List.length_append]; omega, Fr.low HE7.out hF8 (fun i hi => (HNT7.out.o1.lt hi).1)⟩
          · go_wp2_with fail
            refine (take_any w6 _ _ _ A c s HNT6.out.n HF.out hB2 HERR.out d.i).mono ?_
            rintro ev w7 (⟨h0, rfl, hE7⟩ | ⟨kk, u, hu, hkk, (⟨hcut, rfl, hst⟩ | ⟨hcut, rfl, hst⟩)⟩)
            · clear h0
              have HE7 := Lib.hid hE7
              clear hE7
              go_wp2_with (refine wpList_store_all rfl _ _ rfl rfl w7.heap.size voteZ _ rfl rfl (heap_alloc_new w7 _) (by simp) ?_; intro w8 hG8 hF8; have HE8 := Lib.hid (show Ext w7 w8 from ((Fr.ofExt (isB w7.heap.size) ((Ext.refl w7).alloc _)).trans hF8 (fun _ _ h => h)).toExt (fun i hi => by unfold isB at hi; omega)); clear hG8 hF8)
              go_meet
              exact ⟨A, c, s, As, cs, SS, Ag, cg, GG, LL, rfl, rfl, HNT6.out.ext (HE7.out.trans HE8.out), HNR.out, by omega, HE26.out.trans (HE7.out.trans HE8.out)⟩
            · obtain ⟨A7, c7, hNT7, hF7, _⟩ := HNT6.out.step hst (fun x hx => .inl (List.mem_of_mem_eraseIdx hx))
              have HE7 := Lib.hid (Fr.low HE26.out hF7 (fun i hi => HB0.out i (.inl hi)))
              have HNT7 := Lib.hid hNT7
              have HU := Lib.hid hu
              clear hst hNT7 hF7 hu hkk hcut
              go_wp2_with (refine wpList_store_all rfl _ _ rfl rfl w7.heap.size voteZ _ rfl rfl (heap_alloc_new w7 _) (by simp) ?_; intro w8 hG8 hF8; have HE8 := Lib.hid (show Ext w7 w8 from ((Fr.ofExt (isB w7.heap.size) ((Ext.refl w7).alloc _)).trans hF8 (fun _ _ h => h)).toExt (fun i hi => by unfold isB at hi; omega)); clear hG8 hF8)
              go_meet
              exact ⟨A7, c7, _, As, cs, SS, Ag, cg, GG, LL ++ [u], rfl, rfl, HNT7.out.ext HE8.out, HNR.out.lose HU.out, by omega, HE7.out.trans HE8.out⟩
            · obtain ⟨A7, c7, hNT7, hF7, hM7⟩ := HNT6.out.step hst (fun x hx => .inl (List.mem_of_mem_eraseIdx hx))
              have hmem := List.mem_of_getElem? hu
              have HKU := Lib.hid (let_keep (HNT6.out.n.u2 u hmem).i (HNT6.out.hu u hmem) hF7 (fun i t => .inl t) hM7)
              have HE7 := Lib.hid (Fr.low HE26.out hF7 (fun i hi => HB0.out i (.inl hi)))
              have HNT7 := Lib.hid hNT7
              have HU := Lib.hid hu
              obtain ⟨hcf, hct⟩ := Bool.or_eq_false_iff.1 hcut
              have h63 : GG.length + [u].length ≤ 1000000 := by
                have := HNR.out.len
                simp only [List.length_cons, List.length_nil]
                omega
              have H63 := Lib.hid h63
              clear h63
              have hr1 : decide (u.frm ∈ offs s.off 8) = false := by simpa using not_cut hcf
              have hr2 : decide (u.too ∈ offs s.off 8) = false := by simpa using not_cut hct
              have HR1 := Lib.hid hr1
              have HR2 := Lib.hid hr2
              have HRR := Lib.hid (HNT6.out.n.u3 u hmem)
              have HNL7 := Lib.hid (HNL.out.fr hF7 (fun i hi => HBL.out i (.inl hi)))
              have HSC := Lib.hid (some_cont HMC.out hmem)
              have hO8len := HNT6.out.n.o1
              have hB7 := HE7.out.sz
              clear hst hNT7 hF7 hM7 hu hkk hcut hcf hct hr1 hr2 hmem
              go_wp2_with (first
                | (refine wpList_load_letAt rfl _ rfl w7.heap.size 0 u rfl (range_heap HG8.out) ?_)
                | (refine wpList_store_all rfl _ _ rfl rfl w7.heap.size u _ rfl rfl (heap_alloc_new w7 _) (by simp) ?_; intro w8 hG8 hF8; have HE8 := Lib.hid (show Ext w7 w8 from ((Fr.ofExt (isB w7.heap.size) ((Ext.refl w7).alloc _)).trans hF8 (fun _ _ h => h)).toExt (fun i hi => by unfold isB at hi; omega)); have HNT8 := Lib.hid (HNT7.out.ext (HE8.out.alloc (.cells u.arr 44))); have HG8 := Lib.hid hG8; have hOg := HNT8.out.o2; have hB8 := HE8.out.sz; clear hG8 hF8)
                | (refine wpList_buildL rfl _ u rfl rfl ?_)
                | (at_builtin; refine appendLets _ rfl _ _ rfl w2.heap.size Ag _ cg GG rfl rfl hOg _ 1 1 [u] rfl rfl (rd_let w8 u) H63.out (by rw [World.size_alloc]; omega) ?_; intro A9 c9 w9 hO9 hF9 hA9))
              have hGa := ((Ext.refl w8).alloc (.cells u.arr 44)).blk HG8.out
              have hnA : ¬ blk Ag w7.heap.size := fun t => by have := (HNT7.out.o2.lt t).2; omega
              have HG9 := Lib.hid ((hF9.block _ (heap_lt hGa) hnA).trans hGa)
              have HKU8 := Lib.hid (HKU.out.1.ext (HE8.out.alloc (.cells u.arr 44)))
              have HNT9 := Lib.hid (HNT8.out.grow_g hO9 hF9 hA9 (fun x hx => by
                simp at hx
                subst hx
                exact ⟨HKU8.out, HKU.out.2⟩))
              have HE9 := Lib.hid (Fr.low (HE7.out.trans (HE8.out.alloc (.cells u.arr 44))) hF9 (fun i hi => (HNT8.out.o2.lt hi).1))
              have HU9 := Lib.hid (HKU8.out.fr hF9 (HKU.out.2.sub fun i t => .inr (.inr t)))
              have HNL9 := Lib.hid ((HNL7.out.ext (HE8.out.alloc (.cells u.arr 44))).fr hF9 (fun i hi => HBL.out i (.inr (.inr hi))))
              clear hGa hnA hO9 hF9 hA9 hOg
              refine (off_any w9 _ _ s.off HNT9.out.n.n1 hO8len).mono ?_
              rintro ev w10 ⟨Ao, co, rfl, hOo, hE10⟩
              have HG10 := Lib.hid (hE10.blk HG9.out)
              have HOO := Lib.hid hOo
              have HE10 := Lib.hid hE10
              clear hOo hE10
              go_wp2_with (refine wpList_load_letAt rfl _ rfl w7.heap.size 0 u rfl (range_heap HG10.out) ?_)
              have hRT := Right_any u w10 (HU9.out.ext HE10.out) (HG.out.ext (HE2.out.trans (HE9.out.trans HE10.out)))
              rw [HRR.out] at hRT
              refine hRT.mono ?_
              rintro ev w11 ⟨rfl, hE11⟩
              have HE11 := Lib.hid hE11
              have HG11 := Lib.hid (hE11.blk HG10.out)
              have HH1 := Lib.hid (holds_any Ao co (offs s.off 8) u.frm w11 _ (HOO.out.ext hE11) (Nat.le_trans (offs_len _ _) (by omega)))
              have HH2 := Lib.hid (holds_any Ao co (offs s.off 8) u.too w11 _ (HOO.out.ext hE11) (Nat.le_trans (offs_len _ _) (by omega)))
              have HAM := Lib.hid (among_any Al cl ms u w11 (HNL9.out.lets.ext (HE10.out.trans hE11)) (HU9.out.ext (HE10.out.trans hE11)) (by rw [cont_len HMC.out]; have := HF.out.f1; omega) HSC.out)
              rw [HR1.out] at HH1
              rw [HR2.out] at HH2
              rw [cont_len HMC.out] at HAM
              have y1 : w11.cell? ⟨w7.heap.size, 1, none⟩ = some (.int .i64 u.frm) := by rw [cell_of_heap HG11.out]; rfl
              have y2 : w11.cell? ⟨w7.heap.size, 2, none⟩ = some (.int .i64 u.too) := by rw [cell_of_heap HG11.out]; rfl
              clear hRT hE11
              go_wp2_with fail
              refine (HH1.out).mono ?_
              rintro ev wq ⟨rfl, rfl⟩
              go_wp2_with fail
              refine (HH2.out).mono ?_
              rintro ev wq ⟨rfl, rfl⟩
              go_wp2_with (refine wpList_load_letAt rfl _ rfl w7.heap.size 0 u rfl (range_heap HG11.out) ?_)
              refine (HAM.out).mono ?_
              rintro ev w12 ⟨rfl, hE12⟩
              have HE12 := Lib.hid (HE10.out.trans (HE11.out.trans hE12))
              clear hE12 y1 y2
              go_wp2_with fail
              go_meet
              exact ⟨A7, c7, _, As, cs, SS, A9, c9, GG ++ [u], LL, rfl, by rw [List.length_append]; rfl, HNT9.out.ext HE12.out, HNR.out.take HU.out, by omega, HE9.out.trans HE12.out⟩
          · go_wp2_with fail
            refine (copy_any w6 _ _ _ A c s HNT6.out.n HF.out hB2 HE26.out.sz HERR.out d.i).mono ?_
            rintro ev w7 (⟨h0, rfl, hE7⟩ | ⟨kk, u, u', hu, hkk, huc, huo, rfl, hst⟩)
            · clear h0
              go_wp2_with fail
              go_meet
              exact ⟨A, c, s, As, cs, SS, Ag, cg, GG, LL, rfl, rfl, HNT6.out.ext hE7, HNR.out, by omega, HE26.out.trans hE7⟩
            · obtain ⟨A7, c7, hNT7, hF7, hM7⟩ := HNT6.out.step hst (fun x hx => (List.mem_append.1 hx).imp id (fun h => by
                simp at h
                subst h
                exact huo))
              have hkl := (List.getElem?_eq_some_iff.1 hu).1
              obtain ⟨m, hm⟩ : ∃ m, ms[kk]? = some m := ⟨_, List.getElem?_eq_getElem (by rw [cont_len HMC.out]; exact hkl)⟩
              have hmm := List.mem_of_getElem? hm
              have HKM := Lib.hid (let_keep (HNL.out.h m hmm).i (HNL.out.h m hmm).o hF7 (fun i t => .inl (HBL.out i (.inl t))) (fun i t => (hM7 i t).imp (fun t => .inl (HBL.out i t)) id))
              have HMU := Lib.hid ((cont_at HMC.out hu hm).trans huc.symm)
              have x1 : w7.cell? ⟨wr.heap.size, 1, none⟩ = some (.int .i64 d.i) := by
                rw [cell_of_heap ((hF7.block _ (heap_lt HX.out) (fun t => by have := HBR.out _ (.inl t); omega)).trans HX.out)]
                rfl
              have HE7 := Lib.hid (Fr.low HE26.out hF7 (fun i hi => HB0.out i (.inl hi)))
              have HNT7 := Lib.hid hNT7
              obtain ⟨ba, fa, m', rfl, hm', hrm, _⟩ := (HNL.out.fr hF7 (fun i hi => HBL.out i (.inl hi))).lets.at_ (k := kk) (by rw [cont_len HMC.out]; exact hkl)
              obtain rfl : m' = m := by
                rw [hm] at hm'
                exact (Option.some.inj hm').symm
              have hPk := pick_any d.i (s.us.length : Int) w7 (by omega) (by have := HF.out.f1; omega)
              rw [hkk] at hPk
              have HPK := Lib.hid hPk
              have HNT8 := Lib.hid (HNT7.out.ext ((Ext.refl w7).alloc (.cells m'.arr 44)))
              have hOs := HNT8.out.o1
              have hB7 := HE7.out.sz
              clear hst hNT7 hF7 hM7 hu hm hmm hm' hPk hkk huc huo
              go_wp2_with (first
                | (go_at_call 8; refine (HPK.out).mono ?_; rintro ev wq ⟨rfl, rfl⟩)
                | (refine wpList_load_letAt rfl _ rfl ba (fa + kk * 23) m' (by simp [Act.eval, Act.put]) hrm ?_)
                | (refine wpList_buildL rfl _ m' rfl rfl ?_)
                | (at_builtin; refine appendLets _ rfl _ _ rfl w2.heap.size As _ cs SS rfl rfl hOs _ 1 1 [m'] rfl rfl (rd_let w7 m') (by simp only [List.length_cons, List.length_nil]; omega) (by rw [World.size_alloc]; omega) ?_; intro A9 c9 w9 hO9 hF9 hA9))
              go_meet
              refine ⟨A7, c7, _, A9, c9, SS ++ [m'], Ag, cg, GG, LL, by rw [List.length_append]; rfl, rfl, HNT8.out.grow_s hO9 hF9 hA9 (fun x hx => ?_), HNR.out.more (ms := [u']) (ls := [m']) (by simp [HMU.out]) (a := s.sent) (b := s.twice + 1) (by simp; omega) HF.out.f2.1 (by have := HF.out.f5; omega), by rw [List.length_append]; simp; omega, Fr.low (HE7.out.alloc (.cells m'.arr 44)) hF9 (fun i hi => (HNT8.out.o1.lt hi).1)⟩
              simp at hx
              subst hx
              exact ⟨HKM.out.1.ext ((Ext.refl w7).alloc _), HKM.out.2⟩
          · go_wp2_with fail
            refine (drop_any w6 _ _ _ A c s HNT6.out.n HF.out hB2 HERR.out d.i).mono ?_
            rintro ev w7 (⟨h0, rfl, hE7⟩ | ⟨kk, u, hu, hkk, rfl, hst⟩)
            · clear h0
              go_wp2_with fail
              go_meet
              exact ⟨A, c, s, As, cs, SS, Ag, cg, GG, LL, rfl, rfl, HNT6.out.ext hE7, HNR.out, by omega, HE26.out.trans hE7⟩
            · obtain ⟨A7, c7, hNT7, hF7, _⟩ := HNT6.out.step hst (fun x hx => .inl (List.mem_of_mem_eraseIdx hx))
              have HE7 := Lib.hid (Fr.low HE26.out hF7 (fun i hi => HB0.out i (.inl hi)))
              have HNT7 := Lib.hid hNT7
              have HU := Lib.hid hu
              clear hst hNT7 hF7 hu hkk
              go_wp2_with fail
              go_meet
              exact ⟨A7, c7, _, As, cs, SS, Ag, cg, GG, LL ++ [u], rfl, rfl, HNT7.out, HNR.out.lose HU.out, by omega, HE7.out⟩
          · go_wp2_with fail
            refine (cut_any w6 _ _ _ A c s HNT6.out.n d.i d.off).mono ?_
            rintro ev w7 ⟨n, off, rfl, _, hst⟩
            obtain ⟨A7, c7, hNT7, hF7, _⟩ := HNT6.out.step hst (fun x hx => .inl hx)
            have HE7 := Lib.hid (Fr.low HE26.out hF7 (fun i hi => HB0.out i (.inl hi)))
            have HNT7 := Lib.hid hNT7
            clear hst hNT7 hF7
            go_wp2_with fail
            go_meet
            exact ⟨A7, c7, _, As, cs, SS, Ag, cg, GG, LL, rfl, rfl, HNT7.out, HNR.out.cut off, by omega, HE7.out⟩
        case rest =>
          clear x0 x1 x2 x3
          obtain ⟨A', c', s', As', cs', SS', Ag', cg', GG', LL', rfl, rfl, hNT', hNR', hbd', hE'⟩ := hcut
          have HNT' := Lib.hid hNT'
          have HNR' := Lib.hid hNR'
          have HE' := Lib.hid hE'
          have HF' := Lib.hid (hNR'.fits (by omega))
          clear hNT' hNR' hE'
          go_wp2_with fail
          refine (count_any wc _ _ _ A' c' s' HNT'.out.n).mono ?_
          rintro ev w8 ⟨rfl, hE8⟩
          have HE8 := Lib.hid hE8
          clear hE8
          go_upto_region 30 with (refine wpList_store_row rfl 56 _ _ rfl rfl w8.heap.size 5 _ (countA s'.us.length s'.sent s'.gone s'.lost s'.twice) rfl rfl (heap_alloc_new w8 _) infoCount (by simp) rfl (count_one _ _ _ _ _) ?_; intro w9 hG9 hF9; have HG9 := Lib.hid hG9; have HE9 := Lib.hid (show Ext w8 w9 from ((Fr.ofExt (isB w8.heap.size) ((Ext.refl w8).alloc _)).trans hF9 (fun _ _ h => h)).toExt (fun i hi => by unfold isB at hi; omega)); clear hG9 hF9)
          have y0 : w9.cell? ⟨w8.heap.size, 0, none⟩ = some (.int .i64 s'.us.length) := by rw [cell_of_heap HG9.out]; rfl
          have y1 : w9.cell? ⟨w8.heap.size, 1, none⟩ = some (.int .i64 s'.sent) := by rw [cell_of_heap HG9.out]; rfl
          have y2 : w9.cell? ⟨w8.heap.size, 2, none⟩ = some (.int .i64 s'.gone) := by rw [cell_of_heap HG9.out]; rfl
          have y3 : w9.cell? ⟨w8.heap.size, 3, none⟩ = some (.int .i64 s'.lost) := by rw [cell_of_heap HG9.out]; rfl
          have y4 : w9.cell? ⟨w8.heap.size, 4, none⟩ = some (.int .i64 s'.twice) := by rw [cell_of_heap HG9.out]; rfl
          have g1 := HF'.out.f1
          have g2 := HF'.out.f2
          have g3 := HF'.out.f3
          have g4 := HF'.out.f4
          have g5 := HF'.out.f5
          have hsum := HNR'.out.sum
          have hc1 := HNR'.out.c1
          have hc2 := HNR'.out.c2
          have e1 : IntKind.i64.wrap ((s'.us.length : Int) + s'.gone) = (s'.us.length : Int) + s'.gone := IntWalk.i64_in _ (by omega)
          have e2 : IntKind.i64.wrap ((s'.us.length : Int) + s'.gone + s'.lost) = (s'.us.length : Int) + s'.gone + s'.lost := IntWalk.i64_in _ (by omega)
          have e3 : IntKind.i64.wrap (s'.sent + s'.twice) = s'.sent + s'.twice := IntWalk.i64_in _ (by omega)
          have b1 : ((s'.us.length : Int) + s'.gone + s'.lost != s'.sent + s'.twice) = false := by simp; omega
          have b2 : (s'.sent + s'.twice != (SS'.length : Int)) = false := by simp; omega
          have b3 : (s'.gone != (GG'.length : Int)) = false := by simp; omega
          have HLK := Lib.hid (fun wx (h : Ext w9 wx) => look_any wx _ _ _ A' c' s' (HNT'.out.n.ext (HE8.out.trans (HE9.out.trans h))) g1)
          clear hsum hc1 hc2 g2 g3 g4 g5
          refine Stab.wp_region_lex Ext (Ext w9) (fun _ => True) (by kernel_rfl) (by kernel_rfl) (fun _ _ h => h) (fun _ _ h k => Ext.trans h k) (fun _ _ _ _ => trivial) ((Ext.refl _).drew) trivial ?_
          simp only [Stab.zipL, Nat.reduceAdd]
          iterate 35 (refine Stab.wpX_val rfl rfl ?_; apply Exists.intro; refine ⟨fun wx hC _ => ?_, ?_⟩; (have r0 := hC.cell y0; have r1 := hC.cell y1; have r2 := hC.cell y2; have r3 := hC.cell y3; have r4 := hC.cell y4; go_simp; exact ⟨Ext.refl _, rfl⟩); simp only [Act.put, List.setIfInBounds_toArray, List.set_cons_zero, List.set_cons_succ])
          refine Stab.wpX_call (fun u _ => ∃ A2 c2, u = .slice A2 s'.us.length c2) (fun _ _ => True) rfl rfl (fun _ _ _ h _ => h) (fun _ _ _ _ _ => trivial) ?_ ?_
          · intro wx hC _ hF
            go_simp
            refine ⟨rfl, ?_⟩
            refine (HLK.out _ hC).mono ?_
            rintro ev w11 ⟨A2, c2, ms2, rfl, _, _, hE11⟩
            exact ⟨hE11, A2, c2, rfl⟩
          rintro ux ⟨_, _, ⟨A2, c2, rfl⟩, _⟩
          simp only [Act.put, List.setIfInBounds_toArray, List.set_cons_zero, List.set_cons_succ]
          iterate 3 (refine Stab.wpX_val rfl rfl ?_; apply Exists.intro; refine ⟨fun wx hC _ => ?_, ?_⟩; (have r0 := hC.cell y0; have r1 := hC.cell y1; have r2 := hC.cell y2; have r3 := hC.cell y3; have r4 := hC.cell y4; go_simp; exact ⟨Ext.refl _, rfl⟩); simp only [Act.put, List.setIfInBounds_toArray, List.set_cons_zero, List.set_cons_succ])
          refine Stab.wpX_end fun w12 hC12 _ _ => ?_
          have HE12 := Lib.hid (HE8.out.trans (HE9.out.trans hC12))
          clear hC12 y0 y1 y2 y3 y4 e1 e2 e3 b1 b2 b3
          go_wp2_with fail
          go_roundg (ds.length - (k + 1))
          case measure => omega
          case rel =>
            have hrel2 : NlRel ds w2 (ds.length - (k + 1)) (.slice As' SS'.length cs') (.slice Ag' GG'.length cg') (.int .i64 ((k + 1 : Nat) : Int)) w12 := ⟨k + 1, by omega, rfl, rfl, A', c', s', As', cs', SS', Ag', cg', GG', LL', rfl, rfl, HNT'.out.ext HE12.out, HNR'.out, hbd', HE'.out.trans HE12.out⟩
            have hkk : (((k + 1 : Nat) : Int)) = (k : Int) + 1 := by omega
            rw [hkk] at hrel2
            first
              | exact hrel2
              | ((repeat apply Exists.intro); exact ⟨hrel2, rfl⟩)
      · obtain rfl : k = ds.length := by omega
        go_wp2_with fail
        refine (look_any wr _ _ _ A c s HNT.out.n HF.out.f1).mono ?_
        rintro ev w6 ⟨Al, cl, ms, rfl, hmc, hNL, hE6⟩
        have HMC := Lib.hid hmc
        have HNL := Lib.hid hNL
        have HNT6 := Lib.hid (HNT.out.ext hE6)
        have HE26 := Lib.hid (HEr.out.trans hE6)
        have hOg := HNT6.out.o2
        have hrl := HNL.out.o.rd
        have HMS := Lib.hid (cont_len hmc)
        have HB6 := Lib.hid HE26.out.sz
        have H63 := Lib.hid (show GG.length + ms.length ≤ 1000000 by
          have := HNR.out.len
          have := cont_len hmc
          omega)
        have HRL := Lib.hid hrl
        clear hmc hNL hE6 hrl
        go_wp2_with (at_builtin; refine appendLets _ rfl _ _ rfl w2.heap.size Ag _ cg GG rfl rfl hOg _ _ cl ms rfl HMS.out.symm HRL.out H63.out HB6.out ?_; intro A9 c9 w9 hO9 hF9 hA9)
        have hls : LetsIn w9 A9 (GG ++ ms) := LetsIn.own hO9 fun x hx => by
          rcases List.mem_append.1 hx with hx | hx
          · exact (HNT6.out.hg x hx).1.fr hF9 ((HNT6.out.hg x hx).2.sub fun i t => .inr (.inr t))
          · exact (HNL.out.h x hx).i.fr hF9 ((HNL.out.h x hx).o.sub fun i t => .inl (HNT.out.o2.lt t).2)
        have hss : LetsIn w9 As SS := LetsIn.own (HNT6.out.o1.fr hF9 (fun i hi t => HNT6.out.d3 i hi t)) fun x hx => (HNT6.out.hs x hx).1.fr hF9 ((HNT6.out.hs x hx).2.sub fun i t => .inr (.inr t))
        have hpm : ∀ c, ((GG ++ ms).map Let.cont).count c ≤ (SS.map Let.cont).count c := gr_counts (r := LL.map Let.cont) (by
          have hp := HNR.out.p
          simp only [List.map_append] at hp ⊢
          rw [HMC.out]
          exact hp)
        have hlen := HNR.out.len
        have hms := HMS.out
        have HBE := Lib.hid (below_any A9 As c9 cs (GG ++ ms) SS w9 hls hss (by rw [List.length_append]; omega) (by omega) hpm)
        have HE9 := Lib.hid (Fr.low HE26.out hF9 (fun i hi => (HNT6.out.o2.lt hi).1))
        rw [List.length_append] at HBE
        clear hls hss hpm hO9 hF9 hA9 hOg hlen hms
        go_wp2_with fail
        refine (HBE.out).mono ?_
        rintro ev w10 ⟨rfl, hE10⟩
        go_wp2_with fail
        go_ret
        exact ⟨rfl, HE2.out.trans (HE9.out.trans hE10)⟩
end Go.Proofs.YtigljihohpdpeaaGreatDoor
