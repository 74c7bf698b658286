/-
  The document's net: Send.
  The document's net: a letter is taken out.
  The document's net: out.
-/
import Derived.Test.YtjnllilmimngoaaGreatDoorM31
import Derived.Test.YtjnllilmimngoaaGreatDoorM27
import Derived.Test.YtjnllilmimngoaaGreatDoorM18
namespace Go.Proofs.YtjnllilmimngoaaGreatDoor
open Go.RowKit

def CpR (l : Let) (u : Value) (_ : World) : Prop := ∃ l' : Let, u = l'.v ∧ l'.cont = l.cont
def ApR (l : Let) (us : List Let) (B : Nat) (A : Option Addr) (N : Nat) (u : Value) (w : World) : Prop :=
  ∃ l' A2 c2, u = .slice A2 (us.length + 1) c2 ∧ l'.cont = l.cont ∧ OwnW 23 w B 35 A2 (us ++ [l']).length c2 (flat (us ++ [l'])) ∧ ∀ i, blk A2 i → blk A i ∨ N ≤ i
theorem ApR.up {l : Let} {us : List Let} {B : Nat} {A : Option Addr} {N : Nat} (u : Value) : Stab.Up Ext (ApR l us B A N u) := fun w w' h he => by
  obtain ⟨l', A2, c2, h1, h2, h3, h4⟩ := h
  exact ⟨l', A2, c2, h1, h2, h3.ext he, h4⟩
/-- A new row in the net. -/
theorem RefAt.row' {w w8 : World} {B rb c cc : Nat} {A Ac : Option Addr} {s : RefS} {A2 : Option Addr} {c2 : Nat} {us2 : List Let} (h : RefAt w B rb A c Ac cc s) (hF : Fr (blk A) w w8) (ho : OwnW 23 w8 B 35 A2 us2.length c2 (flat us2)) (hl : ∀ u ∈ us2, u.light) (n2 : Nat) (hn2 : n2 = us2.length) :
    RefAt (w8.setCell ⟨rb, 0, none⟩ (.slice A2 n2 c2)) B rb A2 c2 Ac cc { s with us := us2 } := by
  subst hn2
  have hr8 : w8.heap[rb]? = some (.cells (refA A s.us.length c Ac s.cuts.length cc s.sent s.gone s.lost s.twice) 70) := (hF.block rb (heap_lt h.r1) h.arb).trans h.r1
  have hk8 : Own w8 B 3 Ac cc (s.cuts.map (.int .i64)) := h.k1.fr hF (fun i hi t => h.ak t hi)
  have hset : Fr (isB rb) w8 (w8.setCell ⟨rb, 0, none⟩ (.slice A2 us2.length c2)) := (Fr.refl (isB rb) w8).set (p := ⟨rb, 0, none⟩) (.inl rfl) _
  refine ⟨?_, ?_, ?_, hl, h.B1⟩
  · rw [heap_set hr8]
    rfl
  · exact ho.fr hset (fun i hi t => ho.ne_blk hr8 (by decide) (by rw [← show i = rb from t]; exact hi))
  · exact hk8.fr hset (fun i hi t => OwnW.ne_blk (show OwnW 1 w8 B 3 Ac _ cc _ from hk8) hr8 (by decide) (by rw [← show i = rb from t]; exact hi))
theorem RefAt.row {w w8 : World} {B rb c cc : Nat} {A Ac : Option Addr} {s : RefS} {A2 : Option Addr} {c2 : Nat} {us2 : List Let} (h : RefAt w B rb A c Ac cc s) (hF : Fr (blk A) w w8) (ho : OwnW 23 w8 B 35 A2 us2.length c2 (flat us2)) (hA : ∀ i, blk A2 i → blk A i ∨ w.heap.size ≤ i) (hl : ∀ u ∈ us2, u.light) (n2 : Nat) (hn2 : n2 = us2.length) :
    RefStep w B rb A Ac { s with us := us2 } (w8.setCell ⟨rb, 0, none⟩ (.slice A2 n2 c2)) :=
  ⟨A2, c2, Ac, cc, h.row' hF ho hl n2 hn2, (hF.mono fun _i _ t => .inr (.inl t)).trans ((Fr.refl (isB rb) w8).set (p := ⟨rb, 0, none⟩) (.inl rfl) _) (fun _i _ t => .inl t), hA, fun _i hi => .inl hi⟩
theorem RefStep.next {w w1 w2 : World} {B rb : Nat} {A Ac A' Ac' : Option Addr} {s2 : RefS} (hF : Fr (mutR rb A Ac) w w1) (hA : ∀ i, blk A' i → blk A i ∨ w.heap.size ≤ i) (hAc : ∀ i, blk Ac' i → blk Ac i ∨ w.heap.size ≤ i) (h2 : RefStep w1 B rb A' Ac' s2 w2) : RefStep w B rb A Ac s2 w2 := by
  obtain ⟨A2, c2, Ac2, cc2, h3, h4, h5, h6⟩ := h2
  refine ⟨A2, c2, Ac2, cc2, h3, hF.trans h4 (fun i hi t => ?_), fun i hi => ?_, fun i hi => ?_⟩
  · rcases t with t | t | t
    · exact .inl t
    · rcases hA i t with t | t
      · exact .inr (.inl t)
      · omega
    · rcases hAc i t with t | t
      · exact .inr (.inr t)
      · omega
  · rcases h5 i hi with t | t
    · exact hA i t
    · exact .inr (Nat.le_trans hF.size t)
  · rcases h6 i hi with t | t
    · exact hAc i t
    · exact .inr (Nat.le_trans hF.size t)
def RSendP (w : World) (B rb : Nat) (A Ac : Option Addr) (s : RefS) (ls : List Let) (e : Ending) (w' : World) : Prop :=
  (ls.all rightL = false ∧ e = .returned (.int .i64 2) ∧ Ext w w') ∨
  (ls.all rightL = true ∧ 10000 < s.us.length + ls.length ∧ e = .returned (.int .i64 3) ∧ Ext w w') ∨
  (ls.all rightL = true ∧ s.us.length + ls.length ≤ 10000 ∧ e = .returned (.int .i64 0) ∧ ∃ ms : List Let, ms.map Let.cont = ls.map Let.cont ∧ RefStep w B rb A Ac { s with us := s.us ++ ms, sent := s.sent + ls.length } w')
def RsRel1 (ls : List Let) (w : World) (i : Value) (wr : World) : Prop := ∃ k : Nat, k ≤ ls.length ∧ i = .int .i64 k ∧ (ls.take k).all rightL = true ∧ Ext w wr
def RsRel2 (w : World) (B rb : Nat) (A Ac : Option Addr) (s : RefS) (ls : List Let) (i : Value) (wr : World) : Prop :=
  ∃ (k : Nat) (ms : List Let), k ≤ ls.length ∧ i = .int .i64 k ∧ ms.length = k ∧ ms.map Let.cont = (ls.take k).map Let.cont ∧ RefStep w B rb A Ac { s with us := s.us ++ ms } wr
set_option maxRecDepth 100000 in
set_option maxHeartbeats 4000000 in
theorem send_ref (w : World) (B rb : Nat) (A Ac : Option Addr) (c cc : Nat) (s : RefS) (hR : RefAt w B rb A c Ac cc s) (hf : s.fits) (hB : B ≤ w.heap.size) (D : Option Addr) (d : Nat) (ls : List Let) (hL : LetsIn w D ls) (hl : ∀ l ∈ ls, l.light) (hn : ls.length ≤ 10000) (hD : ls ≠ [] → Off (mutR rb A Ac) D) :
    Calls Tryz.prog 33 #[.pointer (some ⟨rb, 0, none⟩), .slice D ls.length d] w (RSendP w B rb A Ac s ls) := by
  have HR := Lib.hid hR
  have HL := Lib.hid hL
  have HLI := Lib.hid hl
  have HF := Lib.hid hf
  have HD := Lib.hid hD
  clear hR hL hl hf hD
  go_enter Tryz.func33, Tryz.ntmps33
  go_wp2_with fail
  go_loopw [5] (fun i wr => RsRel1 ls w i wr) (fun i _ => ls.length - (intOf i).toNat)
  case atStart => exact ⟨0, Nat.zero_le _, rfl, rfl, Ext.refl _⟩
  case round =>
    obtain ⟨k, hk, rfl, hall, hE⟩ := hrel
    have HALL := Lib.hid hall
    have HE := Lib.hid hE
    clear hall hE
    by_cases hlt : k < ls.length
    · obtain ⟨b, f, l, rfl, he, hr, hin⟩ := (HL.out.ext HE.out).at_ hlt
      have HT := Lib.hid (take_snoc' he)
      have HM := Lib.hid (List.mem_of_getElem? he)
      have HRR := Lib.hid (rrightL_any l wr hin)
      clear he hin
      cases hg : rightL l with
      | true =>
        rw [hg] at HRR
        have HG := Lib.hid hg
        clear hg
        go_wp2_with (refine wpList_load_letAt rfl _ rfl b (f + k * 23) l (by simp [Act.eval, Act.put]) hr ?_)
        refine (HRR.out).mono ?_
        rintro ev w1 ⟨rfl, hE1⟩
        go_wp2_with fail
        go_roundw
        case rel => exact ⟨k + 1, by omega, by go_num, by rw [HT.out, List.all_append, HALL.out]; simp [HG.out], HE.out.trans hE1⟩
        case measure => simp [intOf]; omega
      | false =>
        rw [hg] at HRR
        have HG := Lib.hid hg
        clear hg
        go_wp2_with (refine wpList_load_letAt rfl _ rfl b (f + k * 23) l (by simp [Act.eval, Act.put]) hr ?_)
        refine (HRR.out).mono ?_
        rintro ev w1 ⟨rfl, hE1⟩
        go_wp2_with fail
        go_ret
        refine .inl ⟨?_, rfl, HE.out.trans hE1⟩
        rw [Bool.eq_false_iff]
        intro h
        have := List.all_eq_true.1 h l HM.out
        rw [HG.out] at this
        cases this
    · obtain rfl : k = ls.length := by omega
      have hall := HALL.out
      rw [List.take_length] at hall
      have HALL2 := Lib.hid hall
      have HR1 := Lib.hid (HR.out.ext HE.out)
      have c0 := HR1.out.cells.1
      have hf1 := HF.out.f1
      have x1 : IntKind.i64.wrap (10000 - (s.us.length : Int)) = 10000 - (s.us.length : Int) := IntWalk.i64_in _ (by omega)
      clear hall
      by_cases hq : s.us.length + ls.length ≤ 10000
      · have e1 : decide (10000 - (s.us.length : Int) < (ls.length : Int)) = false := by simp; omega
        go_wp2_with fail
        obtain ⟨wo, rfl⟩ : ∃ wo : World, wo = wr := ⟨_, rfl⟩
        go_loopw [6] (fun i wx => RsRel2 wo B rb A Ac s ls i wx) (fun i _ => ls.length - (intOf i).toNat)
        case atStart => exact ⟨0, [], Nat.zero_le _, rfl, rfl, rfl, by rw [List.append_nil]; exact RefStep.same HR1.out (Ext.refl _)⟩
        case round =>
          clear c0
          obtain ⟨k, ms, hk, rfl, hml, hmc, A', c', Ac', cc', hN', hF2, hA2, hAc2⟩ := hrel
          have HN' := Lib.hid hN'
          have HF2 := Lib.hid hF2
          have HA2 := Lib.hid hA2
          have HAC2 := Lib.hid hAc2
          have HMC := Lib.hid hmc
          clear hN' hF2 hA2 hAc2 hmc
          by_cases hlt : k < ls.length
          · obtain ⟨bD, fD, l, rfl, hl, hr, _⟩ := (HL.out.ext HE.out).at_ hlt
            have hne : ls ≠ [] := by rintro rfl; simp at hlt
            have hnD : ¬ mutR rb A Ac bD := HD.out hne _ rfl
            have hbD : bD < wo.heap.size := World.block_lt_of_cell? _ _ (hr 0 _ (List.getElem?_eq_getElem (by rw [arr_len]; omega)))
            have hnA : ¬ blk A' bD := fun t => by
              rcases HA2.out bD t with t | t
              · exact hnD (.inr (.inl t))
              · omega
            have VR := Lib.hid (fun j v hv => HF2.out.cell hnD (hr j v hv))
            have HLT := Lib.hid (HLI.out l (List.mem_of_getElem? hl))
            have HT := Lib.hid (take_snoc' hl)
            have arb := HN'.out.arb
            have hul : (s.us ++ ms).length = s.us.length + k := by rw [List.length_append, hml]
            have cb5 := HN'.out.cells.1
            have hBs : B ≤ wr.heap.size := Nat.le_trans (Nat.le_trans hB HE.out.sz) HF2.out.size
            simp only at cb5
            clear hr hl hne hnD hbD
            go_wp2_with fail
            refine Stab.wp_region_lexTail 12 (Fr (blk A')) (Fr (blk A') wr) (fun w => OwnW 23 w B 35 A' (s.us ++ ms).length c' (flat (s.us ++ ms))) (by kernel_rfl) (by kernel_rfl) (fun _ _ h => Fr.ofExt _ h) (fun _ _ h k => Fr.trans h k (fun _ _ t => t)) (fun _ _ h k => OwnW.ext h k) ((Fr.refl _ _).drew) HN'.out.u1 ?_
            simp only [Stab.zipL, Nat.reduceAdd, List.take, List.drop]
            iterate 8 (refine Stab.wpX_val rfl rfl ?_; apply Exists.intro; refine ⟨fun wx hC _ => ?_, ?_⟩; (have r := hC.cell arb cb5; go_simp; exact ⟨Ext.refl _, rfl⟩); simp only [Act.put, List.setIfInBounds_toArray, List.set_cons_zero, List.set_cons_succ])
            (refine Stab.wpX_val rfl rfl ?_; apply Exists.intro; refine ⟨fun wx hC _ => ?_, ?_⟩; (exact yieldsA_let _ rfl bD (fD + k * 23) l rfl (fun j v hv => hC.cell hnA (VR.out j v hv))); simp only [Act.put, List.setIfInBounds_toArray, List.set_cons_zero, List.set_cons_succ])
            refine Stab.wpX_call (CpR l) (fun _ w => OwnW 23 w B 35 A' (s.us ++ ms).length c' (flat (s.us ++ ms))) rfl rfl (fun _ _ _ h _ => h) (fun _ _ _ h k => OwnW.ext h k) ?_ ?_
            · intro wx hC hT hF
              go_simp
              refine ⟨rfl, ?_⟩
              refine (copied_ref l wx HLT.out).mono ?_
              rintro ev w9 ⟨l', rfl, h1, h4⟩
              exact ⟨Fr.ofExt _ h4, ⟨l', rfl, h1⟩, by have h5 := hT.ext h4; rw [hul] at h5; exact h5⟩
            rintro ux ⟨_, _, ⟨l', rfl, hlc⟩, _⟩
            have HLC := Lib.hid hlc
            clear hlc
            simp only [Act.put, List.setIfInBounds_toArray, List.set_cons_zero, List.set_cons_succ]
            refine Stab.wpX_new (SlR l'.arr wr.heap.size) rfl rfl rfl (SlR.up (fun i hi => (HN'.out.u1.lt hi).2)) (fun _ _ h k => OwnW.ext h k) ?_ ?_
            · intro wx hC hF
              have hV : l'.v = .agg l'.arr := rfl
              rw [hV]
              go_simp
              exact ⟨(Ext.refl _).alloc _, wx.heap.size, rfl, by rw [heap_alloc_new]; exact congrArg (fun c => some (Obj.cells c 35 (0, 0))) (buildL l'), hC.size⟩
            rintro ux ⟨_, _, ⟨bs, rfl, _, _⟩, _⟩
            simp only [Act.put, List.setIfInBounds_toArray, List.set_cons_zero, List.set_cons_succ]
            refine Stab.wpX_call (fun _ _ => True) (ApR l (s.us ++ ms) B A' wr.heap.size) rfl rfl (fun _ _ _ _ _ => trivial) (ApR.up) ?_ ?_
            · intro wx hC hT hF
              obtain ⟨b7, h5, h6, h7⟩ := (hF 10 rfl).2 rfl
              injection h5 with h5 _ _
              injection h5 with h5
              injection h5 with h5 _ _
              subst h5
              have hr7 : Rd wx (some ⟨bs, 0, none⟩) (flat [l']) := fun j u hj => ⟨_, rfl, by
                rw [add_lit', Nat.zero_add, cell_of_heap h6]
                simpa [flat] using hj⟩
              obtain ⟨A2, c2, w2, g1, g2, g3, g4⟩ := run_append_L wx 22 B A' c' (s.us ++ ms) hT (some ⟨bs, 0, none⟩) 1 [l'] hr7 (by rw [hul]; simp; omega) (Nat.le_trans hBs hC.size)
              rw [hul] at g1
              refine yieldsA_append _ _ rfl _ _ rfl rfl _ _ g1 ⟨g3, trivial, l', A2, c2, by rw [hul]; rfl, HLC.out, g2, fun i hi => (g4 i hi).imp id (fun h => Nat.le_trans hC.size h)⟩
            rintro ux ⟨_, _, _, ⟨l9, A2, c2, rfl, _⟩, _⟩
            simp only [Act.put, List.setIfInBounds_toArray, List.set_cons_zero, List.set_cons_succ]
            refine Stab.wpX_end fun w8 hC8 hT8 _ => ?_
            obtain ⟨l2, A3, c3, hv, h2, h5, h6⟩ := hT8
            injection hv with hv1 _ hv2
            subst hv1 hv2
            have d0 := hC8.cell arb cb5
            have dz := frozen_of_heap ((hC8.block _ (heap_lt HN'.out.r1) arb).trans HN'.out.r1)
            have HC8 := Lib.hid hC8
            have HO8 := Lib.hid h5
            have HA8 := Lib.hid h6
            have H2 := Lib.hid h2
            clear hC8 h5 h6 h2
            go_wp2_with fail
            refine ⟨⟨k + 1, ms ++ [l2], by omega, rfl, by simp [hml], ?_, ?_⟩, by simp [intOf]; omega⟩
            · rw [HT.out, List.map_append, List.map_append, HMC.out]
              simp [H2.out]
            · have h8 := HN'.out.row HC8.out HO8.out HA8.out (fun u hu => by
                rcases List.mem_append.1 hu with hu | hu
                · exact HN'.out.u2 u hu
                · simp at hu
                  subst hu
                  exact light_cont H2.out HLT.out) (s.us.length + k + 1) (by simp [hml]; omega)
              have h9 := RefStep.next HF2.out HA2.out HAC2.out h8
              simp only [List.append_assoc] at h9 ⊢
              exact h9
          · obtain rfl : k = ls.length := by omega
            have d2 := HN'.out.cells.2.2.1
            have fz := frozen_of_heap HN'.out.r1
            have hf2 := HF.out.f2
            have x2 : IntKind.i64.wrap (s.sent + (ls.length : Int)) = s.sent + (ls.length : Int) := IntWalk.i64_in _ (by omega)
            have hset : Fr (isB rb) wr (wr.setCell ⟨rb, 2, none⟩ (.int .i64 (s.sent + (ls.length : Int)))) := (Fr.refl (isB rb) wr).set (p := ⟨rb, 2, none⟩) (.inl rfl) _
            have HS := Lib.hid hset
            have HST := Lib.hid (HN'.out.count (sent := s.sent + ls.length) (gone := s.gone) (lost := s.lost) (twice := s.twice) (by rw [heap_set HN'.out.r1]; rfl) hset)
            clear hset
            go_wp2_with fail
            go_ret
            exact .inr (.inr ⟨HALL2.out, hq, rfl, ms, by rw [HMC.out, List.take_length], RefStep.before HE.out ⟨A', c', Ac', cc', HST.out, HF2.out.trans HS.out (fun i _ t => .inl t), HA2.out, HAC2.out⟩⟩)
      · have e1 : decide (10000 - (s.us.length : Int) < (ls.length : Int)) = true := by simp; omega
        go_wp2_with fail
        go_ret
        exact .inr (.inl ⟨HALL2.out, by omega, rfl, HE.out⟩)
end Go.Proofs.YtjnllilmimngoaaGreatDoor
namespace Go.Proofs.YtjnllilmimngoaaGreatDoor
open Go.RowKit

/-- Blocks from N on may change, but not their sizes. -/
def LeN (N : Nat) (w w' : World) : Prop := Fr (fun i => N ≤ i) w w' ∧ ∀ (g : Nat) (cs : Array Value) (e : TypeId), w.heap[g]? = some (.cells cs e (0, 0)) → ∃ cs' : Array Value, w'.heap[g]? = some (.cells cs' e (0, 0)) ∧ cs'.size = cs.size
theorem LeN.ofExt {N : Nat} {w w' : World} (h : Ext w w') : LeN N w w' := ⟨Fr.ofExt _ h, fun _ cs _ hg => ⟨cs, h.blk hg, rfl⟩⟩
theorem LeN.trans {N : Nat} {a b c : World} (h : LeN N a b) (k : LeN N b c) : LeN N a c := ⟨h.1.trans k.1 (fun _ _ t => t), fun g cs e hg => by
  obtain ⟨cs1, h1, h2⟩ := h.2 g cs e hg
  obtain ⟨cs2, h3, h4⟩ := k.2 g cs1 e h1
  exact ⟨cs2, h3, h4.trans h2⟩⟩
theorem LeN.app {sz N : Nat} {w w' : World} {B B' : Nat} {e : TypeId} {A A' : Option Addr} {n n' c c' : Nat} {xs xs' : List Value} (h : OwnW sz w B e A n c xs) (h' : OwnW sz w' B' e A' n' c' xs') (hf : Fr (blk A) w w') (hg : (A' = A ∧ c' = c) ∨ Ext w w') (hN : ∀ i, blk A i → N ≤ i) : LeN N w w' := by
  rcases hg with ⟨rfl, rfl⟩ | hg
  · refine ⟨hf.mono fun i _ t => hN i t, fun g cs e2 hh => ?_⟩
    by_cases hb : blk A' g
    · rcases h.cases with ⟨rfl, _⟩ | ⟨g1, cur, rfl, _, _, h1, _, _, h2, _⟩
      · simp [blk] at hb
      · rcases h'.cases with ⟨h0, _⟩ | ⟨g2, cur2, he, _, _, h3, _, _, h4, _⟩
        · cases h0
        · injection he with he
          injection he with he
          simp [blk] at hb
          subst he hb
          rw [h1] at hh
          injection hh with hh
          injection hh with hh1 hh2 _
          subst hh1 hh2
          exact ⟨cur2, h3, by rw [h4, h2]⟩
    · exact ⟨cs, (hf.block g (heap_lt hh) hb).trans hh, rfl⟩
  · exact LeN.ofExt hg
/-- An empty row. -/
def SlE (N : Nat) (u : Value) (w : World) : Prop := ∃ b, u = .slice (some ⟨b, 0, none⟩) 0 0 ∧ w.heap[b]? = some (.cells #[] 35) ∧ N ≤ b
theorem SlE.up {N : Nat} (u : Value) : Stab.Up (LeN N) (SlE N u) := fun w w' h he => by
  obtain ⟨b, h1, h2, h3⟩ := h
  obtain ⟨cs, h4, h5⟩ := he.2 b _ _ h2
  have : cs = #[] := by simpa using h5
  subst this
  exact ⟨b, h1, h4, h3⟩
def RowT (N : Nat) (us : List Let) (u : Value) (w : World) : Prop := ∃ A c, u = .slice A us.length c ∧ OwnW 23 w N 35 A us.length c (flat us)
theorem RowT.up {N : Nat} {us : List Let} (u : Value) : Stab.Up Ext (RowT N us u) := fun w w' h he => by
  obtain ⟨A, c, h1, h2⟩ := h
  exact ⟨A, c, h1, h2.ext he⟩
theorem run_append_LN (w : World) (ty : TypeId) (N : Nat) (A : Option Addr) (c : Nat) (us : List Let) (hown : OwnW 23 w N 35 A us.length c (flat us))
    (D : Option Addr) (cc : Nat) (news : List Let) (hr : Rd w D (flat news)) (h63 : us.length + news.length ≤ 1000000) (hbase : N ≤ w.heap.size) :
    ∃ A' c' w', (Builtin.append_ #[22, 22] ty #[.slice A us.length c, .slice D news.length cc]).run Tryz.prog w = .ok (.slice A' (us ++ news).length c') w' ∧ OwnW 23 w' N 35 A' (us ++ news).length c' (flat (us ++ news)) ∧ LeN N w w' := by
  obtain ⟨i0, hi, hz⟩ := Option.map_eq_some_iff.1 infoLetP
  simp only [Prod.mk.injEq] at hz
  obtain ⟨hz0, hz1, hz2⟩ := hz
  obtain ⟨z, hz3, hz4⟩ := Option.map_eq_some_iff.1 hz0
  obtain ⟨v', w', h1, ⟨A', c', rfl, h2, h3, h4⟩, _, h5⟩ := run_append_W (P := Tryz.prog) w 22 ty 35 i0 z 23 264 Tryz.underlying22 hi hz3 hz1 (by omega) hz2 hz4 N A us.length c (flat us) hown D news.length cc (flat news) (flat_length news) hr (flat_one news) (by unfold maxLen; omega) (by omega) hbase
  have h6 : OwnW 23 w' N 35 A' (us ++ news).length c' (flat (us ++ news)) := by rw [List.length_append, flat_append]; exact h2
  refine ⟨A', c', w', by rw [List.length_append]; exact h1, h6, LeN.app hown h6 h3 (h5.imp (fun t => ⟨(Value.slice.inj t.2).1, (Value.slice.inj t.2).2.2⟩) (fun t => t.2)) (fun i hi => (hown.lt hi).1)⟩
theorem Rd.preL {w : World} {A : Option Addr} {xs ys : List Let} (h : Rd w A (flat (xs ++ ys))) : Rd w A (flat xs) := fun j u hj => h j u (by
  rw [flat_append, List.getElem?_append_left (List.getElem?_eq_some_iff.1 hj).1]; exact hj)
theorem Rd.dropL {w : World} {g : Nat} {us : List Let} (h : Rd w (some ⟨g, 0, none⟩) (flat us)) (k : Nat) : Rd w (some ⟨g, k * 23, none⟩) (flat (us.drop k)) := fun j u hj => by
  rw [flat_drop, List.getElem?_drop] at hj
  refine ⟨_, rfl, ?_⟩
  rw [add_lit']
  exact h.at0 hj
end Go.Proofs.YtjnllilmimngoaaGreatDoor
namespace Go.Proofs.YtjnllilmimngoaaGreatDoor
open Go.RowKit

def ROutP (w : World) (B rb : Nat) (A Ac : Option Addr) (s : RefS) (i : Int) (e : Ending) (w' : World) : Prop :=
  ∃ (k : Nat) (u : Let), s.us[k]? = some u ∧ i % (s.us.length : Int) = k ∧ e = .returned u.v ∧ RefStep w B rb A Ac { s with us := s.us.eraseIdx k } w'
set_option maxRecDepth 100000 in
set_option maxHeartbeats 4000000 in
theorem out_ref (w : World) (B rb : Nat) (A Ac : Option Addr) (c cc : Nat) (s : RefS) (hR : RefAt w B rb A c Ac cc s) (hf : s.us.length ≤ 10000) (h0 : ¬ s.us.length = 0) (i : Int) :
    Calls Tryz.prog 52 #[.pointer (some ⟨rb, 0, none⟩), .int .i64 i] w (ROutP w B rb A Ac s i) := by
  obtain ⟨k, hk⟩ : ∃ k : Nat, i % (s.us.length : Int) = (k : Int) := ⟨(i % (s.us.length : Int)).toNat, by have := Int.emod_nonneg i (show (s.us.length : Int) ≠ 0 by omega); omega⟩
  have hkl : k < s.us.length := by have := Int.emod_lt_of_pos i (show 0 < (s.us.length : Int) by omega); omega
  obtain ⟨g, rfl⟩ := hR.u1.some_ (by omega)
  have hcap := hR.u1.cap.1
  have hglt := (hR.u1.lt (i := g) rfl).2
  have hrlt := heap_lt hR.r1
  have hrg : ¬ rb = g := fun e => hR.arb (by rw [e]; rfl)
  have hE0 := (Ext.refl w).alloc (.cells voteZ.arr 35)
  have HRES := Lib.hid (heap_alloc_new w (.cells voteZ.arr 35))
  have hAT := at_ref _ B rb (some ⟨g, 0, none⟩) Ac c cc s (hR.ext hE0) hf h0 i
  rw [hk] at hAT
  have HAT := Lib.hid hAT
  obtain ⟨b0, f0, u, hb0, hu, hru, _⟩ := hR.lets.at_ hkl
  injection hb0 with hb0
  injection hb0 with hb0 hf0 _
  subst hb0 hf0
  rw [Nat.zero_add] at hru
  have HU := Lib.hid hu
  have HK := Lib.hid hk
  have HR0 := Lib.hid hR
  have HE0 := Lib.hid hE0
  have HRU := Lib.hid hru
  have HTK : Hid ((s.us.take k).length = k) := Lib.hid (by rw [List.length_take]; omega)
  have HDL : Hid ((s.us.drop (k + 1)).length = s.us.length - (k + 1)) := Lib.hid (by rw [List.length_drop])
  have HER : Hid (s.us.eraseIdx k = s.us.take k ++ s.us.drop (k + 1)) := Lib.hid (List.eraseIdx_eq_take_drop_succ _ _)
  clear hu hk hR hE0 hAT hru
  go_enter Tryz.func52, Tryz.ntmps52
  go_wp2_with fail
  refine (HAT.out).mono ?_
  rintro ev w1 ⟨rfl, hE1⟩
  have HR1 := Lib.hid (HR0.out.ext (HE0.out.trans hE1))
  have c1 := HR1.out.cells.1
  have HE1 := Lib.hid (HE0.out.trans hE1)
  have HRES1 := Lib.hid (hE1.blk HRES.out)
  have hs1 := HE1.out.sz
  have hs1' := heap_lt HRES1.out
  have VR := Lib.hid (fun j v hv => HE1.out.cell (HRU.out j v hv))
  clear hE1
  go_wp2_with (first | (refine wpList_load_letAt rfl _ rfl g (k * 23) u (by simp [Act.eval, Act.put]) VR.out ?_) | (refine wpList_store_all rfl _ _ rfl rfl w1.heap.size u _ rfl rfl (heap_alloc_new w1 _) (by simp) ?_; intro w5 hG5 hF5; have HG5 := Lib.hid hG5; have HF5 := Lib.hid hF5; clear hG5 hF5))
  have HE15 := Lib.hid (show Ext w1 w5 from ((Fr.ofExt (isB w1.heap.size) ((Ext.refl w1).alloc _)).trans HF5.out (fun _ _ h => h)).toExt (fun i hi => by unfold isB at hi; omega))
  have HR5 := Lib.hid (HR1.out.ext HE15.out)
  have HE5 := Lib.hid (HE1.out.trans HE15.out)
  have HRES5 := Lib.hid (HE15.out.blk HRES1.out)
  have c5 := HR5.out.cells.1
  have HRD := Lib.hid (HR5.out.u1.rd)
  have hs5 := HE15.out.sz
  obtain ⟨N, hN⟩ : ∃ N, N = w5.heap.size := ⟨_, rfl⟩
  have hrb : ¬ N ≤ rb := by omega
  have xk : IntKind.i64.wrap ((k : Int) + 1) = (k : Int) + 1 := IntWalk.i64_in _ (by omega)
  have hton : ((k : Int) + 1).toNat = k + 1 := by omega
  have hcnd : 0 ≤ (k : Int) + 1 ∧ (k : Int) + 1 ≤ (s.us.length : Int) := by omega
  clear c1
  by_cases hc : c = k + 1
  · subst hc
    have HDL : Hid ((s.us.drop (k + 1)).length = 0) := Lib.hid (by rw [List.length_drop]; omega)
    go_wp2_with fail
    refine Stab.wp_region_lexTail 17 (LeN N) (LeN N w5) (fun _ => True) (by kernel_rfl) (by kernel_rfl) (fun _ _ h => LeN.ofExt h) (fun _ _ h k => LeN.trans h k) (fun _ _ _ _ => trivial) (LeN.ofExt (Ext.refl _).drew) trivial ?_
    simp only [Stab.zipL, Nat.reduceAdd, List.take, List.drop]
    iterate 1 (refine Stab.wpX_val rfl rfl ?_; apply Exists.intro; refine ⟨fun wx hC _ => ?_, ?_⟩; (have r := hC.1.cell hrb c5; go_simp; (try (rw [if_neg (by omega)])); (try (rw [if_pos (by omega)])); (try go_simp); exact ⟨Ext.refl _, rfl⟩); simp only [Act.put, List.setIfInBounds_toArray, List.set_cons_zero, List.set_cons_succ])
    refine Stab.wpX_new (SlE N) rfl rfl rfl (SlE.up) (fun _ _ _ _ => trivial) ?_ ?_
    · intro wx hC hF
      go_simp
      exact ⟨(Ext.refl _).alloc _, wx.heap.size, rfl, by rw [heap_alloc_new], (hN ▸ hC.1.size)⟩
    rintro ux ⟨_, _, ⟨b1, rfl, _, _⟩, _⟩
    simp only [Act.put, List.setIfInBounds_toArray, List.set_cons_zero, List.set_cons_succ]
    iterate 6 (refine Stab.wpX_val rfl rfl ?_; apply Exists.intro; refine ⟨fun wx hC _ => ?_, ?_⟩; (have r := hC.1.cell hrb c5; go_simp; (try (rw [if_neg (by omega)])); (try (rw [if_pos (by omega)])); (try go_simp); exact ⟨Ext.refl _, rfl⟩); simp only [Act.put, List.setIfInBounds_toArray, List.set_cons_zero, List.set_cons_succ])
    refine Stab.wpX_call (fun u _ => ∃ A1 c1, u = .slice A1 k c1) (RowT N (s.us.take k)) rfl rfl (fun _ _ _ h _ => h) (RowT.up) ?_ ?_
    · intro wx hC _ hF
      obtain ⟨b2, hb, hh, hN2⟩ := (hF 1 rfl).2 rfl
      injection hb with hb _ _
      injection hb with hb
      injection hb with hb _ _
      subst hb
      have hrT : Rd wx (some ⟨g, 0, none⟩) (flat s.us) := fun j u hj => by
        obtain ⟨ad, ha, hc9⟩ := HRD.out j u hj
        exact ⟨ad, ha, hC.1.cell (by injection ha with ha; subst ha; rw [add_block]; simp only; omega) hc9⟩
      have hO : OwnW 23 wx N 35 (some ⟨b1, 0, none⟩) ([] : List Let).length 0 (flat []) := OwnW.mk hN2 hh (by simp) (by simp) (by simp) (by simp [flat])
      obtain ⟨A2, c2, w2, g1, g2, g3⟩ := run_append_LN wx 22 N _ 0 [] hO (some ⟨g, 0, none⟩) _ (s.us.take k) (Rd.preL (ys := s.us.drop k) (by rw [List.take_append_drop]; exact hrT)) (by rw [List.length_take]; simp; omega) (hN ▸ hC.1.size)
      rw [List.nil_append, HTK.out] at g1
      rw [List.nil_append] at g2
      exact yieldsA_append _ _ rfl _ _ rfl rfl _ _ g1 ⟨g3, ⟨A2, c2, rfl⟩, A2, c2, by rw [HTK.out], g2⟩
    rintro ux ⟨_, _, ⟨A1, c1, rfl⟩, _⟩
    simp only [Act.put, List.setIfInBounds_toArray, List.set_cons_zero, List.set_cons_succ]
    iterate 7 (refine Stab.wpX_val rfl rfl ?_; apply Exists.intro; refine ⟨fun wx hC _ => ?_, ?_⟩; (have r := hC.1.cell hrb c5; go_simp; (try (rw [if_neg (by omega)])); (try (rw [if_pos (by omega)])); (try go_simp); exact ⟨Ext.refl _, rfl⟩); simp only [Act.put, List.setIfInBounds_toArray, List.set_cons_zero, List.set_cons_succ])
    refine Stab.wpX_call (fun _ _ => True) (RowT N (s.us.eraseIdx k)) rfl rfl (fun _ _ _ _ _ => trivial) (RowT.up) ?_ ?_
    · intro wx hC hT hF
      obtain ⟨A3, c3, hv, hO⟩ := hT
      injection hv with hv1 _ hv2
      subst hv1 hv2
      have hrd : Rd wx (some ⟨g, 0, none⟩) (flat (s.us.drop (k + 1))) := fun j u hj => by
        have hl := (List.getElem?_eq_some_iff.1 hj).1
        rw [flat_length, HDL.out] at hl
        omega
      obtain ⟨A2, c2, w2, g1, g2, g3⟩ := run_append_LN wx 22 N A1 c1 (s.us.take k) hO (some ⟨g, 0, none⟩) 0 (s.us.drop (k + 1)) hrd (by rw [List.length_take, List.length_drop]; omega) (hN ▸ hC.1.size)
      rw [HTK.out, HDL.out] at g1
      rw [← HER.out] at g1 g2
      exact yieldsA_append _ _ rfl _ _ rfl rfl _ _ g1 ⟨g3, trivial, A2, c2, rfl, g2⟩
    rintro ux ⟨_, _, _, ⟨A2, c2, rfl, _⟩, _⟩
    simp only [Act.put, List.setIfInBounds_toArray, List.set_cons_zero, List.set_cons_succ]
    refine Stab.wpX_end fun w8 hC8 hT8 _ => ?_
    obtain ⟨A3, c3, hv, hO8⟩ := hT8
    injection hv with hv1 _ hv2
    subst hv1 hv2
    have d0 := hC8.1.cell hrb c5
    have hE58 : Ext w5 w8 := hC8.1.toExt (fun i hi => by omega)
    have dz := frozen_of_heap (hE58.blk HR5.out.r1)
    have HE58 := Lib.hid hE58
    have HO8 := Lib.hid hO8
    have HG8 := Lib.hid (hE58.blk HG5.out)
    have hres8 := hE58.blk HRES5.out
    clear hC8 hE58 hO8
    have HO8' := Lib.hid (HO8.out.raise (B' := B) (fun i hi => Nat.le_trans HR0.out.B1 (by have := (HO8.out.lt hi).1; omega)))
    have HST := Lib.hid (RefAt.row' HR5.out (Fr.ofExt _ HE58.out) HO8'.out (fun u hu => HR5.out.u2 u (List.mem_of_mem_eraseIdx hu)) (s.us.eraseIdx k).length rfl)
    have hset : Fr (isB rb) w8 (w8.setCell ⟨rb, 0, none⟩ (.slice A2 (s.us.eraseIdx k).length c2)) := (Fr.refl (isB rb) w8).set (p := ⟨rb, 0, none⟩) (.inl rfl) _
    have hlr := (hset.block w.heap.size (heap_lt hres8) (by unfold isB; omega)).trans hres8
    have hll := (hset.block w1.heap.size (heap_lt HG8.out) (by unfold isB; omega)).trans HG8.out
    have HS8 := Lib.hid hset
    have HLR := Lib.hid hlr
    have HLL := Lib.hid hll
    clear hset hlr hll hres8
    go_wp2_with (first | (refine wpList_load_letAt rfl _ rfl w1.heap.size 0 u rfl (range_heap HLL.out) ?_) | (refine wpList_store_all rfl _ _ rfl rfl w.heap.size u _ rfl rfl HLR.out (by simp [Let.arr]) ?_; intro w9 hG9 hF9; have HG9 := Lib.hid hG9; have HF9 := Lib.hid hF9; clear hG9 hF9))
    refine bodyPost_ret (v := u.v) (results_cell_row Tryz.results52 _ w9 w.heap.size 35 _ (0, 0) _ rfl HG9.out Tryz.underlying35 rfl (by rw [infoLet]; rfl)) rfl ⟨k, u, HU.out, HK.out, rfl, ?_⟩
    have hk1 := HR0.out.k1
    have hR9 := HST.out.fr HF9.out (fun i hi t => by
      have t2 : i = w.heap.size := t
      rcases hi with hi | hi | hi
      · omega
      · have := (HO8.out.lt hi).1
        omega
      · have := (hk1.lt hi).2
        omega)
    refine ⟨A2, c2, Ac, cc, hR9, (((Fr.ofExt _ (HE5.out.trans HE58.out)).trans HS8.out (fun i _ t => .inl t))).trans HF9.out (fun i hi t => by unfold isB at t; omega), fun i hi => .inr (by have := (HO8.out.lt hi).1; omega), fun i hi => .inl hi⟩
  · have hc1 : ¬ c = k + 1 := hc
    go_wp2_with fail
    refine Stab.wp_region_lexTail 17 (LeN N) (LeN N w5) (fun _ => True) (by kernel_rfl) (by kernel_rfl) (fun _ _ h => LeN.ofExt h) (fun _ _ h k => LeN.trans h k) (fun _ _ _ _ => trivial) (LeN.ofExt (Ext.refl _).drew) trivial ?_
    simp only [Stab.zipL, Nat.reduceAdd, List.take, List.drop]
    iterate 1 (refine Stab.wpX_val rfl rfl ?_; apply Exists.intro; refine ⟨fun wx hC _ => ?_, ?_⟩; (have r := hC.1.cell hrb c5; go_simp; (try (rw [if_neg (by omega)])); (try (rw [if_pos (by omega)])); (try go_simp); exact ⟨Ext.refl _, rfl⟩); simp only [Act.put, List.setIfInBounds_toArray, List.set_cons_zero, List.set_cons_succ])
    refine Stab.wpX_new (SlE N) rfl rfl rfl (SlE.up) (fun _ _ _ _ => trivial) ?_ ?_
    · intro wx hC hF
      go_simp
      exact ⟨(Ext.refl _).alloc _, wx.heap.size, rfl, by rw [heap_alloc_new], (hN ▸ hC.1.size)⟩
    rintro ux ⟨_, _, ⟨b1, rfl, _, _⟩, _⟩
    simp only [Act.put, List.setIfInBounds_toArray, List.set_cons_zero, List.set_cons_succ]
    iterate 6 (refine Stab.wpX_val rfl rfl ?_; apply Exists.intro; refine ⟨fun wx hC _ => ?_, ?_⟩; (have r := hC.1.cell hrb c5; go_simp; (try (rw [if_neg (by omega)])); (try (rw [if_pos (by omega)])); (try go_simp); exact ⟨Ext.refl _, rfl⟩); simp only [Act.put, List.setIfInBounds_toArray, List.set_cons_zero, List.set_cons_succ])
    refine Stab.wpX_call (fun u _ => ∃ A1 c1, u = .slice A1 k c1) (RowT N (s.us.take k)) rfl rfl (fun _ _ _ h _ => h) (RowT.up) ?_ ?_
    · intro wx hC _ hF
      obtain ⟨b2, hb, hh, hN2⟩ := (hF 1 rfl).2 rfl
      injection hb with hb _ _
      injection hb with hb
      injection hb with hb _ _
      subst hb
      have hrT : Rd wx (some ⟨g, 0, none⟩) (flat s.us) := fun j u hj => by
        obtain ⟨ad, ha, hc9⟩ := HRD.out j u hj
        exact ⟨ad, ha, hC.1.cell (by injection ha with ha; subst ha; rw [add_block]; simp only; omega) hc9⟩
      have hO : OwnW 23 wx N 35 (some ⟨b1, 0, none⟩) ([] : List Let).length 0 (flat []) := OwnW.mk hN2 hh (by simp) (by simp) (by simp) (by simp [flat])
      obtain ⟨A2, c2, w2, g1, g2, g3⟩ := run_append_LN wx 22 N _ 0 [] hO (some ⟨g, 0, none⟩) _ (s.us.take k) (Rd.preL (ys := s.us.drop k) (by rw [List.take_append_drop]; exact hrT)) (by rw [List.length_take]; simp; omega) (hN ▸ hC.1.size)
      rw [List.nil_append, HTK.out] at g1
      rw [List.nil_append] at g2
      exact yieldsA_append _ _ rfl _ _ rfl rfl _ _ g1 ⟨g3, ⟨A2, c2, rfl⟩, A2, c2, by rw [HTK.out], g2⟩
    rintro ux ⟨_, _, ⟨A1, c1, rfl⟩, _⟩
    simp only [Act.put, List.setIfInBounds_toArray, List.set_cons_zero, List.set_cons_succ]
    iterate 7 (refine Stab.wpX_val rfl rfl ?_; apply Exists.intro; refine ⟨fun wx hC _ => ?_, ?_⟩; (have r := hC.1.cell hrb c5; go_simp; (try (rw [if_neg (by omega)])); (try (rw [if_pos (by omega)])); (try go_simp); exact ⟨Ext.refl _, rfl⟩); simp only [Act.put, List.setIfInBounds_toArray, List.set_cons_zero, List.set_cons_succ])
    refine Stab.wpX_call (fun _ _ => True) (RowT N (s.us.eraseIdx k)) rfl rfl (fun _ _ _ _ _ => trivial) (RowT.up) ?_ ?_
    · intro wx hC hT hF
      obtain ⟨A3, c3, hv, hO⟩ := hT
      injection hv with hv1 _ hv2
      subst hv1 hv2
      have hrd : Rd wx (some ⟨g, (k + 1) * 23, none⟩) (flat (s.us.drop (k + 1))) := Rd.dropL (fun j u hj => by
        obtain ⟨ad, ha, hc⟩ := HRD.out j u hj
        exact ⟨ad, ha, hC.1.cell (by injection ha with ha; subst ha; rw [add_block]; simp only; omega) hc⟩) (k + 1)
      obtain ⟨A2, c2, w2, g1, g2, g3⟩ := run_append_LN wx 22 N A1 c1 (s.us.take k) hO (some ⟨g, (k + 1) * 23, none⟩) (c - (k + 1)) (s.us.drop (k + 1)) hrd (by rw [List.length_take, List.length_drop]; omega) (hN ▸ hC.1.size)
      rw [HTK.out, HDL.out] at g1
      rw [← HER.out] at g1 g2
      exact yieldsA_append _ _ rfl _ _ rfl rfl _ _ g1 ⟨g3, trivial, A2, c2, rfl, g2⟩
    rintro ux ⟨_, _, _, ⟨A2, c2, rfl, _⟩, _⟩
    simp only [Act.put, List.setIfInBounds_toArray, List.set_cons_zero, List.set_cons_succ]
    refine Stab.wpX_end fun w8 hC8 hT8 _ => ?_
    obtain ⟨A3, c3, hv, hO8⟩ := hT8
    injection hv with hv1 _ hv2
    subst hv1 hv2
    have d0 := hC8.1.cell hrb c5
    have hE58 : Ext w5 w8 := hC8.1.toExt (fun i hi => by omega)
    have dz := frozen_of_heap (hE58.blk HR5.out.r1)
    have HE58 := Lib.hid hE58
    have HO8 := Lib.hid hO8
    have HG8 := Lib.hid (hE58.blk HG5.out)
    have hres8 := hE58.blk HRES5.out
    clear hC8 hE58 hO8
    have HO8' := Lib.hid (HO8.out.raise (B' := B) (fun i hi => Nat.le_trans HR0.out.B1 (by have := (HO8.out.lt hi).1; omega)))
    have HST := Lib.hid (RefAt.row' HR5.out (Fr.ofExt _ HE58.out) HO8'.out (fun u hu => HR5.out.u2 u (List.mem_of_mem_eraseIdx hu)) (s.us.eraseIdx k).length rfl)
    have hset : Fr (isB rb) w8 (w8.setCell ⟨rb, 0, none⟩ (.slice A2 (s.us.eraseIdx k).length c2)) := (Fr.refl (isB rb) w8).set (p := ⟨rb, 0, none⟩) (.inl rfl) _
    have hlr := (hset.block w.heap.size (heap_lt hres8) (by unfold isB; omega)).trans hres8
    have hll := (hset.block w1.heap.size (heap_lt HG8.out) (by unfold isB; omega)).trans HG8.out
    have HS8 := Lib.hid hset
    have HLR := Lib.hid hlr
    have HLL := Lib.hid hll
    clear hset hlr hll hres8
    go_wp2_with (first | (refine wpList_load_letAt rfl _ rfl w1.heap.size 0 u rfl (range_heap HLL.out) ?_) | (refine wpList_store_all rfl _ _ rfl rfl w.heap.size u _ rfl rfl HLR.out (by simp [Let.arr]) ?_; intro w9 hG9 hF9; have HG9 := Lib.hid hG9; have HF9 := Lib.hid hF9; clear hG9 hF9))
    refine bodyPost_ret (v := u.v) (results_cell_row Tryz.results52 _ w9 w.heap.size 35 _ (0, 0) _ rfl HG9.out Tryz.underlying35 rfl (by rw [infoLet]; rfl)) rfl ⟨k, u, HU.out, HK.out, rfl, ?_⟩
    have hk1 := HR0.out.k1
    have hR9 := HST.out.fr HF9.out (fun i hi t => by
      have t2 : i = w.heap.size := t
      rcases hi with hi | hi | hi
      · omega
      · have := (HO8.out.lt hi).1
        omega
      · have := (hk1.lt hi).2
        omega)
    refine ⟨A2, c2, Ac, cc, hR9, (((Fr.ofExt _ (HE5.out.trans HE58.out)).trans HS8.out (fun i _ t => .inl t))).trans HF9.out (fun i hi t => by unfold isB at t; omega), fun i hi => .inr (by have := (HO8.out.lt hi).1; omega), fun i hi => .inl hi⟩
end Go.Proofs.YtjnllilmimngoaaGreatDoor
