/-
  Whether all letters are right.
  Send.
  Copy.
  Cut, Count.
  Off.
-/
import Derived.Test.YtjnllilmimngoaaGreatDoorM14
import Derived.Test.YtjnllilmimngoaaGreatDoorM13
import Derived.Test.YtjnllilmimngoaaGreatDoorM18
import Derived.Test.YtjnllilmimngoaaGreatDoorM16
namespace Go.Proofs.YtjnllilmimngoaaGreatDoor
open Go.RowKit

theorem notRight_any (l : Let) (w : World) (hin : l.inW w) (hg : ErrT w) : Calls Tryz.prog 43 #[l.v] w fun ev w' => ev = .returned (.bool (!(rightL l))) ∧ Ext w w' := by
  have HG := Lib.hid (fun w' (h : Ext w w') => Right_any l w' (hin.ext h) (hg.ext h))
  have hV : l.v = .agg l.arr := rfl
  have hr : World.rangeAt (w.alloc (.cells l.arr 35)) w.heap.size 0 l.arr.toList := fun j v hv => by
    rw [Nat.zero_add, cell_of_heap (heap_alloc_new w _)]
    simpa using hv
  rw [hV] at HG ⊢
  clear hin hg
  go_enter Tryz.func43, Tryz.ntmps43
  go_wp2_with (first | (refine wpList_load_letAt rfl _ rfl w.heap.size 0 l rfl hr ?_) | (go_at_call 44; refine (HG.out _ ((Ext.refl w).alloc _)).mono ?_; rintro ev w1 ⟨rfl, hE1⟩))
  go_ret
  exact ⟨rfl, ((Ext.refl w).alloc _).trans hE1⟩

def idxL : Nat → List Let → Int
  | _, [] => -1
  | j, e :: es => if rightL e = true then idxL (j + 1) es else j
theorem idxL_lt (j : Nat) (es : List Let) : decide (0 ≤ idxL j es) = !(es.all rightL) := by
  induction es generalizing j with
  | nil => rfl
  | cons e es ih =>
    unfold idxL
    by_cases h : rightL e = true
    · rw [if_pos h, ih]; simp [h]
    · rw [if_neg h]; simp [h]
def IdxLRel (es : List Let) (w0 : World) (i : Value) (wr : World) : Prop := ∃ k : Nat, k ≤ es.length ∧ i = .int .i64 k ∧ idxL k (es.drop k) = idxL 0 es ∧ Ext w0 wr
set_option maxRecDepth 100000 in
set_option maxHeartbeats 1000000 in
theorem indexL_any (A : Option Addr) (c : Nat) (es : List Let) (w : World) (hA : LetsIn w A es) (hg : ErrT w) (hl : es.length ≤ maxLen) :
    Calls Tryz.prog 89 #[.slice A es.length c, .func (.func 43) #[] #[]] w fun ev w' => ev = .returned (.int .i64 (idxL 0 es)) ∧ Ext w w' := by
  unfold maxLen at hl
  go_enter Tryz.func89, Tryz.ntmps89
  go_wp2
  go_loopw [8] (fun i wr => IdxLRel es w i wr) (fun i _ => es.length - (intOf i).toNat)
  case atStart => exact ⟨0, Nat.zero_le _, rfl, rfl, Ext.refl _⟩
  case round =>
    obtain ⟨k, hk, rfl, hr, hE⟩ := hrel
    have HR := Lib.hid hr
    clear hr
    by_cases hlt : k < es.length
    · obtain ⟨b, f, e, rfl, he, hr, hin⟩ := (hA.ext hE).at_ hlt
      have HE := Lib.hid hE
      have HN := Lib.hid (notRight_any e wr hin (hg.ext hE))
      have HD := Lib.hid (drop_at he)
      clear hE hin he hg
      cases hgg : rightL e with
      | true =>
        have hv : Hid (idxL k (es.drop k) = idxL (k + 1) (es.drop (k + 1))) := Lib.hid (by rw [HD.out, idxL, if_pos hgg])
        rw [hgg] at HN
        clear hgg
        go_wp2_with (first | (refine wpList_load_letAt rfl _ rfl b (f + k * 23) e (by simp [Act.eval, Act.put]) hr ?_) | (go_at_call 43; refine (HN.out).mono ?_; rintro ev w1 ⟨rfl, hE1⟩))
        go_roundw
        case rel => exact ⟨k + 1, by omega, by go_num, by rw [← hv.out]; exact HR.out, HE.out.trans hE1⟩
        case measure => simp [intOf]; omega
      | false =>
        have hv : Hid (idxL 0 es = k) := Lib.hid (by rw [← HR.out, HD.out, idxL, if_neg (by simp [hgg])])
        rw [hgg] at HN
        clear hgg
        go_wp2_with (first | (refine wpList_load_letAt rfl _ rfl b (f + k * 23) e (by simp [Act.eval, Act.put]) hr ?_) | (go_at_call 43; refine (HN.out).mono ?_; rintro ev w1 ⟨rfl, hE1⟩))
        go_ret
        exact ⟨by rw [hv.out]; rfl, HE.out.trans hE1⟩
    · obtain rfl : k = es.length := by omega
      have hv : Hid (idxL 0 es = -1) := Lib.hid (by rw [← HR.out, List.drop_length]; rfl)
      go_wp2
      go_ret
      exact ⟨by rw [hv.out]; rfl, hE⟩
set_option maxRecDepth 100000 in
theorem containsL_any (A : Option Addr) (c : Nat) (es : List Let) (w : World) (hA : LetsIn w A es) (hg : ErrT w) (hl : es.length ≤ maxLen) :
    Calls Tryz.prog 42 #[.slice A es.length c, .func (.func 43) #[] #[]] w fun ev w' => ev = .returned (.bool (!(es.all rightL))) ∧ Ext w w' := by
  have HI := Lib.hid (indexL_any A c es w hA hg hl)
  have hv := Lib.hid (idxL_lt 0 es)
  go_enter Tryz.func42, Tryz.ntmps42
  go_wp2_with (go_at_call 89; refine (HI.out).mono ?_; rintro ev w1 ⟨rfl, hE1⟩)
  go_ret
  exact ⟨by rw [← hv.out]; rfl, hE1⟩
end Go.Proofs.YtjnllilmimngoaaGreatDoor
namespace Go.Proofs.YtjnllilmimngoaaGreatDoor
open Go.RowKit

def SendP (w : World) (B nb bb : Nat) (A : Option Addr) (s : NetS) (ls : List Let) (e : Ending) (w' : World) : Prop :=
  (ls.all rightL = false ∧ e = .returned (.int .i64 2) ∧ Ext w w') ∨
  (ls.all rightL = true ∧ 10000 < s.us.length + ls.length ∧ e = .returned (.int .i64 3) ∧ Ext w w') ∨
  (ls.all rightL = true ∧ s.us.length + ls.length ≤ 10000 ∧ e = .returned (.int .i64 0) ∧ ∃ ms : List Let, ms.map Let.cont = ls.map Let.cont ∧ (∀ m ∈ ms, m.fresh w.heap.size) ∧ NetStep w B nb bb A { s with us := s.us ++ ms, sent := s.sent + ls.length } w')
set_option maxRecDepth 100000 in
set_option maxHeartbeats 4000000 in
theorem send_any (w : World) (B nb bb : Nat) (A : Option Addr) (c : Nat) (s : NetS) (hN : NetAt w B nb bb A c s) (hf : s.fits) (_hB : 0 < B) (hBw : B ≤ w.heap.size) (hg : ErrT w) (D : Option Addr) (d : Nat) (ls : List Let) (hL : LetsIn w D ls) (hn : ls.length ≤ 10000)
    (hD : ls ≠ [] → Off (mutN nb bb A) D) (hO : ∀ l ∈ ls, Held (mutN nb bb A) w l) :
    Calls Tryz.prog 16 #[.pointer (some ⟨nb, 0, none⟩), .slice D ls.length d] w (SendP w B nb bb A s ls) := by
  have HT := Lib.hid (there_any nb bb s.off w hN.n1)
  have HC := Lib.hid (containsL_any D d ls w hL hg (by unfold maxLen; omega))
  have c0 := net_c0 hN.n1
  have HN := Lib.hid hN
  have HG := Lib.hid hg
  have HF := Lib.hid hf
  have HP := Lib.hid (fun w' (h : Ext w w') (hR : ∀ l ∈ ls, rightL l = true) (hq : s.us.length + ls.length ≤ 10000) => put_any w' B nb bb A c s (hN.ext h) hf.f1 (Nat.le_trans hBw h.sz) D d ls (hL.ext h) hq hD (fun l hl => (hO l hl).ext h) hR)
  have HQ := Lib.hid (fun w' (h : Ext w w') (hq : 10000 < s.us.length + ls.length) => put_long w' bb s.us.length c A s.sent s.gone s.lost s.twice (h.blk hN.b1) hf.f1 D ls.length d hn hq)
  have HTD := Lib.hid (fun w' (h : Ext w w') => tolds_num 3 w' (hg.ext h))
  clear hN hg hf hL hD hO
  cases hall : ls.all rightL
  · rw [hall] at HC
    go_enter Tryz.func16, Tryz.ntmps16
    go_wp2_with fail
    refine (HT.out).mono ?_
    rintro ev w1 ⟨rfl, rfl⟩
    go_wp2_with fail
    refine (HC.out).mono ?_
    rintro ev w1 ⟨rfl, hE1⟩
    go_wp2_with fail
    go_ret
    exact .inl ⟨hall, rfl, hE1⟩
  · rw [hall] at HC
    by_cases hq : s.us.length + ls.length ≤ 10000
    rotate_left
    · have HQ2 := Lib.hid (fun w' (h : Ext w w') => HQ.out w' h (by omega))
      unfold numN at HQ2 HTD
      go_enter Tryz.func16, Tryz.ntmps16
      go_wp2_with fail
      refine (HT.out).mono ?_
      rintro ev w1 ⟨rfl, rfl⟩
      go_wp2_with fail
      refine (HC.out).mono ?_
      rintro ev w1 ⟨rfl, hE1⟩
      have HE1 := Lib.hid hE1
      have d0 := hE1.cell c0
      clear hE1
      go_wp2_with fail
      refine (HQ2.out w1 HE1.out).mono ?_
      rintro ev w2 ⟨rfl, hE2⟩
      have HE2 := Lib.hid (HE1.out.trans hE2)
      clear hE2
      go_wp2_with fail
      refine (HTD.out w2 HE2.out).mono ?_
      rintro ev w3 ⟨rfl, hE3⟩
      go_wp2_with fail
      go_ret
      exact .inr (.inl ⟨hall, by omega, rfl, HE2.out.trans hE3⟩)
    have HR := Lib.hid (fun l (hl : l ∈ ls) => List.all_eq_true.1 hall l hl)
    go_enter Tryz.func16, Tryz.ntmps16
    go_wp2_with fail
    refine (HT.out).mono ?_
    rintro ev w1 ⟨rfl, rfl⟩
    go_wp2_with fail
    refine (HC.out).mono ?_
    rintro ev w1 ⟨rfl, hE1⟩
    have HE1 := Lib.hid hE1
    have d0 := hE1.cell c0
    clear hE1
    go_wp2_with fail
    refine (HP.out w1 HE1.out HR.out hq).mono ?_
    rintro ev w2 ⟨rfl, ms, hms, hmo, A', c', hN2, hF2, hA2⟩
    have HMO := Lib.hid (fun m hm => (hmo m hm).le HE1.out.sz)
    clear hmo
    have HN2 := Lib.hid hN2
    have HF2 := Lib.hid hF2
    have d1 := net_c0 hN2.n1
    have d2 := bag_ck hN2.b1
    have fz := frozen_of_heap hN2.b1
    have hl := HF.out.f2
    have x1 : IntKind.i64.wrap (s.sent + (ls.length : Int)) = s.sent + (ls.length : Int) := IntWalk.i64_in _ (by omega)
    have hset : Fr (isB bb) w2 (w2.setCell ⟨bb, 2, none⟩ (.int .i64 (s.sent + (ls.length : Int)))) := (Fr.refl (isB bb) w2).set (p := ⟨bb, 2, none⟩) (.inl rfl) _
    have hst := Lib.hid (HN2.out.count (sent := s.sent + ls.length) (gone := s.gone) (lost := s.lost) (twice := s.twice) (by rw [heap_set HN2.out.b1]; rfl) hset)
    have HS := Lib.hid hset
    clear hN2 hF2 hset
    go_wp2_with fail
    refine (tolds_nil _).mono ?_
    rintro ev w6 ⟨rfl, hE6⟩
    go_wp2_with fail
    go_ret
    exact .inr (.inr ⟨hall, hq, rfl, ms, hms, HMO.out, A', c', hst.out.ext hE6, (((Fr.ofExt _ HE1.out).trans HF2.out (fun _ _ t => t)).trans HS.out (fun i _ t => .inr (.inl t))).then hE6, fun i hi => (hA2 i hi).imp id fun h => Nat.le_trans HE1.out.sz h⟩)
end Go.Proofs.YtjnllilmimngoaaGreatDoor
namespace Go.Proofs.YtjnllilmimngoaaGreatDoor
open Go.RowKit

theorem yieldsP_let {o : Oper} {a : Act} {w : World} (x : Operand) (ho : o.op = .load 35 x) (b f : Nat) (l : Let) (hx : a.eval x = .pointer (some ⟨b, f, none⟩)) (hg : World.rangeAt w b f l.arr.toList) :
    Stab.yields Tryz.prog o a w (fun u w' => Ext w w' ∧ u = l.v) := by
  simp only [Stab.yields, Stab.yieldsUpon, execOp, ho, hx, Instr.loadAt, Instr.sureAddr, Sem.run_bind, Sem.run_pure, Result.andThen_ok, run_loadVar_mid w b f 35 l.arr.toList _ hg Tryz.underlying35 rfl (by rw [infoLet, arr_len])]
  exact ⟨Ext.refl _, by simp [Let.v]⟩
theorem SlR.upE {arr : Array Value} {N : Nat} (u : Value) : Stab.Up Ext (SlR arr N u) := fun w w' h he => by
  obtain ⟨b, h1, h2, h3⟩ := h
  exact ⟨b, h1, he.blk h2, h3⟩
def CopyP (w : World) (B nb bb : Nat) (A : Option Addr) (s : NetS) (i : Int) (e : Ending) (w' : World) : Prop :=
  (s.us = [] ∧ e = .returned (.int .i64 7) ∧ Ext w w') ∨
  (s.us.length = 10000 ∧ e = .returned (.int .i64 3) ∧ Ext w w') ∨
  ∃ (k : Nat) (u u' : Let), s.us.length < 10000 ∧ s.us[k]? = some u ∧ (i % (s.us.length : Int)) = (k : Int) ∧ u'.cont = u.cont ∧ u'.fresh w.heap.size ∧ e = .returned (.int .i64 0) ∧ NetStep w B nb bb A { s with us := s.us ++ [u'], twice := s.twice + 1 } w'
set_option maxRecDepth 100000 in
set_option maxHeartbeats 4000000 in
theorem copy_any (w : World) (B nb bb : Nat) (A : Option Addr) (c : Nat) (s : NetS) (hN : NetAt w B nb bb A c s) (hf : s.fits) (_hB : 0 < B) (hBw : B ≤ w.heap.size) (hg : ErrT w) (i : Int) :
    Calls Tryz.prog 17 #[.pointer (some ⟨nb, 0, none⟩), .int .i64 i] w (CopyP w B nb bb A s i) := by
  have HT := Lib.hid (there_any nb bb s.off w hN.n1)
  have HP := Lib.hid (place_any i bb s.us.length c A s.sent s.gone s.lost s.twice w hN.b1 hf.f1)
  have c0 := net_c0 hN.n1
  have HN := Lib.hid hN
  have HG := Lib.hid hg
  have HF := Lib.hid hf
  unfold placeE at HP
  clear hN hg hf
  by_cases h0 : s.us.length = 0
  · have hu : s.us = [] := List.eq_nil_of_length_eq_zero h0
    rw [if_pos h0, if_pos h0] at HP
    have HTD := Lib.hid (fun w => tolds_num 7 w)
    unfold numN at HP HTD
    go_enter Tryz.func17, Tryz.ntmps17
    go_wp2_with fail
    refine (HT.out).mono ?_
    rintro ev w1 ⟨rfl, rfl⟩
    go_wp2_with fail
    refine (HP.out).mono ?_
    rintro ev w1 ⟨rfl, hE1⟩
    have HE1 := Lib.hid hE1
    clear hE1
    go_wp2_with fail
    refine (HTD.out _ (HG.out.ext HE1.out)).mono ?_
    rintro ev w2 ⟨rfl, hE2⟩
    go_wp2_with fail
    go_ret
    exact .inl ⟨hu, rfl, HE1.out.trans hE2⟩
  · obtain ⟨k, hk⟩ : ∃ k : Nat, i % (s.us.length : Int) = (k : Int) := ⟨(i % (s.us.length : Int)).toNat, by have := Int.emod_nonneg i (show (s.us.length : Int) ≠ 0 by omega); omega⟩
    have hkl : k < s.us.length := by have := Int.emod_lt_of_pos i (show 0 < (s.us.length : Int) by omega); omega
    rw [if_neg h0, if_neg h0, hk] at HP
    have HK := Lib.hid hk
    clear hk
    go_enter Tryz.func17, Tryz.ntmps17
    go_wp2_with fail
    refine (HT.out).mono ?_
    rintro ev w1 ⟨rfl, rfl⟩
    go_wp2_with fail
    refine (HP.out).mono ?_
    rintro ev w1 ⟨rfl, hE1⟩
    have HN1 := Lib.hid (HN.out.ext hE1)
    have HE1 := Lib.hid hE1
    have d0 := net_c0 HN1.out.n1
    have d1 := bag_c0 HN1.out.b1
    obtain ⟨g, f, u, rfl, hu, hr, _⟩ := HN1.out.lets.at_ hkl
    have HU := Lib.hid hu
    have hmem := List.mem_of_getElem? hu
    have HH := Lib.hid (HN1.out.u2 u hmem)
    have HR := Lib.hid (HN1.out.u3 u hmem)
    clear hE1 hu hmem
    go_wp2_with fail
    refine Stab.wp_region_lexTail 15 Ext (Ext w1) (fun _ => True) (by kernel_rfl) (by kernel_rfl) (fun _ _ h => h) (fun _ _ h k => Ext.trans h k) (fun _ _ _ _ => trivial) ((Ext.refl _).drew) trivial ?_
    simp only [Stab.zipL, Nat.reduceAdd, List.take, List.drop]
    iterate 13 (refine Stab.wpX_val rfl rfl ?_; apply Exists.intro; refine ⟨fun wx hC _ => ?_, ?_⟩; (have r := hC.cell d0; have r2 := hC.cell d1; go_simp; exact ⟨Ext.refl _, rfl⟩); simp only [Act.put, List.setIfInBounds_toArray, List.set_cons_zero, List.set_cons_succ])
    (refine Stab.wpX_val rfl rfl ?_; apply Exists.intro; refine ⟨fun wx hC _ => ?_, ?_⟩; (exact yieldsP_let _ rfl g (f + k * 23) u rfl (fun j v hv => hC.cell (hr j v hv))); simp only [Act.put, List.setIfInBounds_toArray, List.set_cons_zero, List.set_cons_succ])
    refine Stab.wpX_new (SlR u.arr w1.heap.size) rfl rfl rfl (SlR.upE) (fun _ _ _ _ => trivial) ?_ ?_
    · intro wx hC hF
      have hV : u.v = .agg u.arr := rfl
      rw [hV]
      go_simp
      exact ⟨(Ext.refl _).alloc _, wx.heap.size, rfl, by rw [heap_alloc_new]; exact congrArg (fun c => some (Obj.cells c 35 (0, 0))) (buildL u), hC.sz⟩
    rintro ux ⟨_, _, ⟨bs, rfl, _, _⟩, _⟩
    simp only [Act.put, List.setIfInBounds_toArray, List.set_cons_zero, List.set_cons_succ]
    refine Stab.wpX_end fun w2 hC2 _ hF2 => ?_
    obtain ⟨b7, h5, h6, h7⟩ := (hF2 14).2 rfl
    injection h5 with h5 _ _
    injection h5 with h5
    injection h5 with h5 _ _
    subst h5
    have HN2 := Lib.hid (HN1.out.ext hC2)
    have HE2 := Lib.hid (HE1.out.trans hC2)
    have HH2 := Lib.hid (HH.out.ext hC2)
    have hL : LetsIn w2 (some ⟨bs, 0, none⟩) [u] := LetsIn.of (fun j v hv => ⟨_, rfl, by
      rw [add_lit', Nat.zero_add, cell_of_heap h6]
      simpa [flat] using hv⟩) (fun l hl => by simp at hl; subst hl; exact HH2.out.i)
    by_cases hq : s.us.length < 10000
    rotate_left
    · have hlen : s.us.length = 10000 := by have := HF.out.f1; omega
      have HQ := Lib.hid (put_long w2 bb s.us.length c _ s.sent s.gone s.lost s.twice HN2.out.b1 HF.out.f1 (some ⟨bs, 0, none⟩) 1 1 (by omega) (by omega))
      have HTD := Lib.hid (fun w' (h : Ext w w') => tolds_num 3 w' (HG.out.ext h))
      unfold numN at HQ HTD
      have HLEN := Lib.hid hlen
      clear hC2 hF2 hL h6 hlen hq
      go_wp2_with fail
      refine (HQ.out).mono ?_
      rintro ev w3 ⟨rfl, hE3⟩
      have HE3 := Lib.hid (HE2.out.trans hE3)
      clear hE3
      go_wp2_with fail
      refine (HTD.out w3 HE3.out).mono ?_
      rintro ev w4 ⟨rfl, hE4⟩
      go_wp2_with fail
      go_ret
      exact .inr (.inl ⟨HLEN.out, rfl, HE3.out.trans hE4⟩)
    have HPU := Lib.hid (put_any w2 B nb bb _ c s HN2.out HF.out.f1 (Nat.le_trans hBw HE2.out.sz) (some ⟨bs, 0, none⟩) 1 [u] hL (by simp only [List.length_cons, List.length_nil]; omega) (fun _ ad ha hm => by
      injection ha with ha
      subst ha
      have := (HN1.out.mut_lt hm).2
      simp only at this
      omega) (fun l hl => by simp at hl; subst hl; exact HH2.out) (fun l hl => by simp at hl; subst hl; exact HR.out))
    clear hC2 hF2 hL h6
    go_wp2_with fail
    refine (HPU.out).mono ?_
    rintro ev w3 ⟨rfl, ms, hms, hmo, A', c', hN3, hF3, hA3⟩
    obtain ⟨u', rfl, huc⟩ : ∃ u', ms = [u'] ∧ u'.cont = u.cont := by
      have hl := congrArg List.length hms
      simp only [List.length_map, List.length_cons, List.length_nil] at hl
      obtain ⟨u', rfl⟩ := List.length_eq_one_iff.1 hl
      exact ⟨u', rfl, by simpa using hms⟩
    have HMO := Lib.hid ((hmo u' (List.mem_singleton.2 rfl)).le HE2.out.sz)
    clear hmo
    have HN3 := Lib.hid hN3
    have HF3 := Lib.hid hF3
    have d3 := net_c0 hN3.n1
    have d2 := bag_ck hN3.b1
    have fz := frozen_of_heap hN3.b1
    have hl := HF.out.f5
    have x1 : IntKind.i64.wrap (s.twice + 1) = s.twice + 1 := IntWalk.i64_in _ (by omega)
    have hset : Fr (isB bb) w3 (w3.setCell ⟨bb, 5, none⟩ (.int .i64 (s.twice + 1))) := (Fr.refl (isB bb) w3).set (p := ⟨bb, 5, none⟩) (.inl rfl) _
    have hst := Lib.hid (HN3.out.count (sent := s.sent) (gone := s.gone) (lost := s.lost) (twice := s.twice + 1) (by rw [heap_set HN3.out.b1]; rfl) hset)
    have HS := Lib.hid hset
    clear hN3 hF3 hset
    go_wp2_with fail
    refine (tolds_nil _).mono ?_
    rintro ev w6 ⟨rfl, hE6⟩
    go_wp2_with fail
    go_ret
    exact .inr (.inr ⟨k, u, u', hq, HU.out, HK.out, huc, HMO.out, rfl, A', c', hst.out.ext hE6, (((Fr.ofExt _ HE2.out).trans HF3.out (fun _ _ t => t)).trans HS.out (fun i _ t => .inr (.inl t))).then hE6, fun i hi => (hA3 i hi).imp id fun h => Nat.le_trans HE2.out.sz h⟩)
end Go.Proofs.YtjnllilmimngoaaGreatDoor
namespace Go.Proofs.YtjnllilmimngoaaGreatDoor
open Go.RowKit

def CutP (w : World) (B nb bb : Nat) (A : Option Addr) (s : NetS) (i : Int) (b : Bool) (e : Ending) (w' : World) : Prop := ∃ (n : Int) (off : List Bool), e = .returned (.int .i64 n) ∧ (1 ≤ i ∧ i ≤ 7 → n = 0 ∧ off = s.off.set i.toNat b) ∧ (¬ (1 ≤ i ∧ i ≤ 7) → n = 2 ∧ off = s.off) ∧ NetStep w B nb bb A { s with off := off } w'
theorem NetAt.cutoff {w : World} {B nb bb : Nat} {A : Option Addr} {c : Nat} {s : NetS} (h : NetAt w B nb bb A c s) {w' : World} {off : List Bool}
    (hb : w'.heap[nb]? = some (.cells (netA bb off) 62)) (hl : off.length = 8) (hf : Fr (isB nb) w w') : NetAt w' B nb bb A c { s with off := off } :=
  ⟨hb, (hf.block bb (heap_lt h.b1) (fun e => h.nbb e.symm)).trans h.b1, h.u1.fr hf (fun i hi t => h.anb (by cases t; exact hi)), fun u hu => ⟨(h.u2 u hu).i.fr hf ((h.u2 u hu).o.sub fun i t => .inl t), (h.u2 u hu).o, (h.u2 u hu).s⟩, h.u3, h.B1, h.B2, hl⟩
set_option maxRecDepth 100000 in
set_option maxHeartbeats 2000000 in
theorem cut_any (w : World) (B nb bb : Nat) (A : Option Addr) (c : Nat) (s : NetS) (hN : NetAt w B nb bb A c s) (i : Int) (b : Bool) :
    Calls Tryz.prog 21 #[.pointer (some ⟨nb, 0, none⟩), .int .i64 i, .bool b] w (CutP w B nb bb A s i b) := by
  have HT := Lib.hid (there_any nb bb s.off w hN.n1)
  have HN := Lib.hid hN
  clear hN
  by_cases h1 : 1 ≤ i
  · have d1 : decide (i < 1) = false := by simp; omega
    by_cases h7 : i ≤ 7
    · have d7 : decide (7 < i) = false := by simp; omega
      obtain ⟨p, rfl⟩ : ∃ p : Nat, i = p := ⟨i.toNat, by omega⟩
      have hp8 : (p : Int) < 8 := by omega
      have e1 := net_off (k := p) HN.out.n1 (by rw [HN.out.o1]; omega)
      have fz := frozen_of_heap HN.out.n1
      go_enter Tryz.func21, Tryz.ntmps21
      go_wp2_with fail
      refine (HT.out).mono ?_
      rintro ev w1 ⟨rfl, rfl⟩
      go_wp2_with fail
      go_ret
      have hset : Fr (isB nb) w (w.setCell ⟨nb, 1 + p, none⟩ (.bool b)) := (Fr.refl (isB nb) w).set (p := ⟨nb, 1 + p, none⟩) (.inl rfl) _
      refine ⟨0, s.off.set p b, rfl, fun _ => ⟨rfl, rfl⟩, fun h => absurd (show 1 ≤ (p : Int) ∧ (p : Int) ≤ 7 from ⟨h1, h7⟩) h, A, c, HN.out.cutoff ?_ (by rw [List.length_set]; exact HN.out.o1) hset, hset.mono (fun i _ t => .inl t), fun i hi => .inl hi⟩
      rw [heap_set HN.out.n1]
      simp [netA, Nat.add_comm 1 p, List.map_set]
    · have d7 : decide (7 < i) = true := by simp; omega
      go_enter Tryz.func21, Tryz.ntmps21
      go_wp2_with fail
      refine (HT.out).mono ?_
      rintro ev w1 ⟨rfl, rfl⟩
      go_wp2_with fail
      go_ret
      exact ⟨2, s.off, rfl, fun h => by omega, fun _ => ⟨rfl, rfl⟩, NetStep.rfl' HN.out (Ext.refl _)⟩
  · have d1 : decide (i < 1) = true := by simp; omega
    go_enter Tryz.func21, Tryz.ntmps21
    go_wp2_with fail
    refine (HT.out).mono ?_
    rintro ev w1 ⟨rfl, rfl⟩
    go_wp2_with fail
    go_ret
    exact ⟨2, s.off, rfl, fun h => by omega, fun _ => ⟨rfl, rfl⟩, NetStep.rfl' HN.out (Ext.refl _)⟩
def countA (n : Nat) (s g l t : Int) : Array Value := #[.int .i64 n, .int .i64 s, .int .i64 g, .int .i64 l, .int .i64 t]
theorem count_one (n : Nat) (s g l t : Int) : ∀ v ∈ countA n s g l t, v.oneCell' = true := by
  intro v hv
  simp only [countA, List.mem_toArray, List.mem_cons, List.not_mem_nil, or_false] at hv
  rcases hv with rfl | rfl | rfl | rfl | rfl <;> rfl
theorem infoCount : (Tryz.prog.info? 57).map (·.size) = some 5 := by kernel_rfl
set_option maxRecDepth 100000 in
set_option maxHeartbeats 2000000 in
theorem count_any (w : World) (B nb bb : Nat) (A : Option Addr) (c : Nat) (s : NetS) (hN : NetAt w B nb bb A c s) :
    Calls Tryz.prog 19 #[.pointer (some ⟨nb, 0, none⟩)] w fun e w' => e = .returned (.agg (countA s.us.length s.sent s.gone s.lost s.twice)) ∧ Ext w w' := by
  have HT := Lib.hid (there_any nb bb s.off _ (hN.ext ((Ext.refl w).alloc (.cells #[.int .i64 0, .int .i64 0, .int .i64 0, .int .i64 0, .int .i64 0] 57))).n1)
  have hE := fun o => (Ext.refl w).alloc o
  have c0 := fun o => (hE o).cell (net_c0 hN.n1)
  have b0 := fun o => (hE o).cell (bag_c0 hN.b1)
  have b2 := fun o => (hE o).cell (bag_ck hN.b1).1
  have b3 := fun o => (hE o).cell (bag_ck hN.b1).2.1
  have b4 := fun o => (hE o).cell (bag_ck hN.b1).2.2.1
  have b5 := fun o => (hE o).cell (bag_ck hN.b1).2.2.2
  have b1 : ∀ o, (w.alloc o).cell? ⟨bb, 1, none⟩ = some (.int .i64 0) := fun o => (hE o).cell (by rw [cell_of_heap hN.b1]; rfl)
  clear hN
  go_enter Tryz.func19, Tryz.ntmps19
  go_wp2_with fail
  refine (HT.out).mono ?_
  rintro ev w1 ⟨rfl, rfl⟩
  go_wp2_with fail
  refine bodyPost_ret (v := .agg (countA s.us.length s.sent s.gone s.lost s.twice)) (results_cell_row Tryz.results19 _ _ w.heap.size 57 _ (0, 0) _ rfl (heap_alloc_new w _) Tryz.underlying57 rfl (by rw [infoCount]; rfl)) rfl ⟨rfl, hE _⟩
end Go.Proofs.YtjnllilmimngoaaGreatDoor
namespace Go.Proofs.YtjnllilmimngoaaGreatDoor
open Go.RowKit

/-- Who is cut off, of the first k. -/
def offs (off : List Bool) (k : Nat) : List Int := ((List.range k).filter fun j => off.getD j false).map fun (j : Nat) => (j : Int)
theorem offs_yes {off : List Bool} {k : Nat} (h : off.getD k false = true) : offs off (k + 1) = offs off k ++ [(k : Int)] := by
  simp only [offs, List.range_succ, List.filter_append, List.map_append, List.filter_cons, h, List.filter_nil, if_true, List.map_cons, List.map_nil]
theorem offs_no {off : List Bool} {k : Nat} (h : off.getD k false = false) : offs off (k + 1) = offs off k := by
  simp only [offs, List.range_succ, List.filter_append, List.filter_cons, h, List.filter_nil, Bool.false_eq_true, if_false, List.append_nil]
theorem offs_len (off : List Bool) (k : Nat) : (offs off k).length ≤ k := by
  simp only [offs, List.length_map]
  exact Nat.le_trans (List.length_filter_le _ _) (by simp)
theorem wpList_index {ops : Array Oper} {rest : List Oper} {o : Oper} {a : Act} {w : World} {Q : Exit → Act → World → Prop} {T : TypeId} (hgd : o.guard = none) (x y : Operand) (ho : o.op = .index T x y) (vx vy v : Value) (hx : a.eval x = vx) (hy : a.eval y = vy)
    (hr : (Instr.index T vx vy).run Tryz.prog w = .ok v w) (h : wpList Tryz.prog ops Q rest (a.put o.dst v) w) : wpList Tryz.prog ops Q (o :: rest) a w := by
  refine wpList_plain hgd fun K hK => ?_
  unfold Oper.wp execOp
  simp only [ho, hx, hy, Sem.run_bind, Sem.run_pure, Result.andThen_ok, hr]
  exact hK _ _ h
theorem idx0 (b0 b1 b2 b3 b4 b5 b6 b7 : Bool) (w : World) : (Instr.index 60 (.agg #[.bool b0, .bool b1, .bool b2, .bool b3, .bool b4, .bool b5, .bool b6, .bool b7]) (.int .i64 0)).run Tryz.prog w = .ok (.bool b0) w := by kernel_rfl
theorem idx1 (b0 b1 b2 b3 b4 b5 b6 b7 : Bool) (w : World) : (Instr.index 60 (.agg #[.bool b0, .bool b1, .bool b2, .bool b3, .bool b4, .bool b5, .bool b6, .bool b7]) (.int .i64 1)).run Tryz.prog w = .ok (.bool b1) w := by kernel_rfl
theorem idx2 (b0 b1 b2 b3 b4 b5 b6 b7 : Bool) (w : World) : (Instr.index 60 (.agg #[.bool b0, .bool b1, .bool b2, .bool b3, .bool b4, .bool b5, .bool b6, .bool b7]) (.int .i64 2)).run Tryz.prog w = .ok (.bool b2) w := by kernel_rfl
theorem idx3 (b0 b1 b2 b3 b4 b5 b6 b7 : Bool) (w : World) : (Instr.index 60 (.agg #[.bool b0, .bool b1, .bool b2, .bool b3, .bool b4, .bool b5, .bool b6, .bool b7]) (.int .i64 3)).run Tryz.prog w = .ok (.bool b3) w := by kernel_rfl
theorem idx4 (b0 b1 b2 b3 b4 b5 b6 b7 : Bool) (w : World) : (Instr.index 60 (.agg #[.bool b0, .bool b1, .bool b2, .bool b3, .bool b4, .bool b5, .bool b6, .bool b7]) (.int .i64 4)).run Tryz.prog w = .ok (.bool b4) w := by kernel_rfl
theorem idx5 (b0 b1 b2 b3 b4 b5 b6 b7 : Bool) (w : World) : (Instr.index 60 (.agg #[.bool b0, .bool b1, .bool b2, .bool b3, .bool b4, .bool b5, .bool b6, .bool b7]) (.int .i64 5)).run Tryz.prog w = .ok (.bool b5) w := by kernel_rfl
theorem idx6 (b0 b1 b2 b3 b4 b5 b6 b7 : Bool) (w : World) : (Instr.index 60 (.agg #[.bool b0, .bool b1, .bool b2, .bool b3, .bool b4, .bool b5, .bool b6, .bool b7]) (.int .i64 6)).run Tryz.prog w = .ok (.bool b6) w := by kernel_rfl
theorem idx7 (b0 b1 b2 b3 b4 b5 b6 b7 : Bool) (w : World) : (Instr.index 60 (.agg #[.bool b0, .bool b1, .bool b2, .bool b3, .bool b4, .bool b5, .bool b6, .bool b7]) (.int .i64 7)).run Tryz.prog w = .ok (.bool b7) w := by kernel_rfl
def OffRel (off : List Bool) (w : World) (v i : Value) (wr : World) : Prop :=
  ∃ (k : Nat) (A : Option Addr) (c : Nat), k ≤ 8 ∧ i = .int .i64 k ∧ v = .slice A (offs off k).length c ∧ Own wr w.heap.size 3 A c ((offs off k).map (.int .i64)) ∧ Ext w wr
def OffP (off : List Bool) (w : World) (e : Ending) (w' : World) : Prop := ∃ A c, e = .returned (.slice A (offs off 8).length c) ∧ Own w' w.heap.size 3 A c ((offs off 8).map (.int .i64)) ∧ Ext w w'
set_option maxRecDepth 100000 in
set_option maxHeartbeats 4000000 in
theorem off_any (w : World) (nb bb : Nat) (off : List Bool) (h : w.heap[nb]? = some (.cells (netA bb off) 62)) (hl : off.length = 8) :
    Calls Tryz.prog 22 #[.pointer (some ⟨nb, 0, none⟩)] w (OffP off w) := by
  have HT := Lib.hid (there_any nb bb off w h)
  obtain ⟨b0, b1, b2, b3, b4, b5, b6, b7, rfl⟩ : ∃ b0 b1 b2 b3 b4 b5 b6 b7, off = [b0, b1, b2, b3, b4, b5, b6, b7] := by
    match off, hl with
    | [b0, b1, b2, b3, b4, b5, b6, b7], _ => exact ⟨b0, b1, b2, b3, b4, b5, b6, b7, rfl⟩
  have e0 : w.cell? ⟨nb, 1, none⟩ = some (.bool b0) := by rw [cell_of_heap h]; rfl
  have e1 : w.cell? ⟨nb, 2, none⟩ = some (.bool b1) := by rw [cell_of_heap h]; rfl
  have e2 : w.cell? ⟨nb, 3, none⟩ = some (.bool b2) := by rw [cell_of_heap h]; rfl
  have e3 : w.cell? ⟨nb, 4, none⟩ = some (.bool b3) := by rw [cell_of_heap h]; rfl
  have e4 : w.cell? ⟨nb, 5, none⟩ = some (.bool b4) := by rw [cell_of_heap h]; rfl
  have e5 : w.cell? ⟨nb, 6, none⟩ = some (.bool b5) := by rw [cell_of_heap h]; rfl
  have e6 : w.cell? ⟨nb, 7, none⟩ = some (.bool b6) := by rw [cell_of_heap h]; rfl
  have e7 : w.cell? ⟨nb, 8, none⟩ = some (.bool b7) := by rw [cell_of_heap h]; rfl
  clear h hl
  go_enter Tryz.func22, Tryz.ntmps22
  go_wp2_with fail
  refine (HT.out).mono ?_
  rintro ev w1 ⟨rfl, rfl⟩
  go_wp2_with fail
  go_loopw [2, 12] (fun v i wr => OffRel [b0, b1, b2, b3, b4, b5, b6, b7] w v i wr) (fun _ i _ => 8 - (intOf i).toNat)
  case atStart => exact ⟨0, none, 0, by omega, rfl, rfl, Own.nil _ _ _, Ext.refl _⟩
  case round =>
    obtain ⟨k, A, c, hk, rfl, rfl, hO, hE⟩ := hrel
    have hlen := offs_len [b0, b1, b2, b3, b4, b5, b6, b7] k
    have HE := Lib.hid hE
    clear hE
    rcases (by omega : k = 0 ∨ k = 1 ∨ k = 2 ∨ k = 3 ∨ k = 4 ∨ k = 5 ∨ k = 6 ∨ k = 7 ∨ k = 8) with rfl | rfl | rfl | rfl | rfl | rfl | rfl | rfl | rfl
    · try simp only [Int.cast_ofNat_Int]
      cases b0
      · go_wp2_with (refine wpList_index rfl _ _ rfl _ _ (.bool false) rfl rfl (idx0 false b1 b2 b3 b4 b5 b6 b7 _) ?_)
        go_roundw
        case rel => exact ⟨1, A, c, by omega, rfl, by rw [offs_no (k := 0) rfl], by rw [offs_no (k := 0) rfl]; exact hO, HE.out⟩
        case measure => simp [intOf]
      · have hO2 := hO.ext ((Ext.refl wr).alloc (.cells #[.int .i64 0] 3))
        have HR := Lib.hid (rd_one wr (.int .i64 0) 3)
        have hE2 := HE.out.alloc (.cells #[.int .i64 0] 3)
        have HE2 := Lib.hid hE2
        have hbs := hE2.sz
        clear hE2
        go_wp2_with (first | (refine wpList_index rfl _ _ rfl _ _ (.bool true) rfl rfl (idx0 true b1 b2 b3 b4 b5 b6 b7 _) ?_) | (at_builtin; refine appendInts _ rfl _ _ rfl w.heap.size _ _ _ (offs [true, b1, b2, b3, b4, b5, b6, b7] 0) rfl rfl hO2 _ _ _ [0] rfl rfl HR.out (by simp only [List.length_cons, List.length_nil]; omega) hbs ?_; intro A3 c3 m3 w3 hm3 hO3 hF3 hA3; obtain rfl := hm3))
        go_roundw
        case rel => exact ⟨1, A3, c3, by omega, rfl, by rw [offs_yes (k := 0) rfl]; simp, by rw [offs_yes (k := 0) rfl]; exact hO3, own_fresh hO2 HE2.out hF3⟩
        case measure => simp [intOf]
    · try simp only [Int.cast_ofNat_Int]
      cases b1
      · go_wp2_with (refine wpList_index rfl _ _ rfl _ _ (.bool false) rfl rfl (idx1 b0 false b2 b3 b4 b5 b6 b7 _) ?_)
        go_roundw
        case rel => exact ⟨2, A, c, by omega, rfl, by rw [offs_no (k := 1) rfl], by rw [offs_no (k := 1) rfl]; exact hO, HE.out⟩
        case measure => simp [intOf]
      · have hO2 := hO.ext ((Ext.refl wr).alloc (.cells #[.int .i64 1] 3))
        have HR := Lib.hid (rd_one wr (.int .i64 1) 3)
        have hE2 := HE.out.alloc (.cells #[.int .i64 1] 3)
        have HE2 := Lib.hid hE2
        have hbs := hE2.sz
        clear hE2
        go_wp2_with (first | (refine wpList_index rfl _ _ rfl _ _ (.bool true) rfl rfl (idx1 b0 true b2 b3 b4 b5 b6 b7 _) ?_) | (at_builtin; refine appendInts _ rfl _ _ rfl w.heap.size _ _ _ (offs [b0, true, b2, b3, b4, b5, b6, b7] 1) rfl rfl hO2 _ _ _ [1] rfl rfl HR.out (by simp only [List.length_cons, List.length_nil]; omega) hbs ?_; intro A3 c3 m3 w3 hm3 hO3 hF3 hA3; obtain rfl := hm3))
        go_roundw
        case rel => exact ⟨2, A3, c3, by omega, rfl, by rw [offs_yes (k := 1) rfl]; simp, by rw [offs_yes (k := 1) rfl]; exact hO3, own_fresh hO2 HE2.out hF3⟩
        case measure => simp [intOf]
    · try simp only [Int.cast_ofNat_Int]
      cases b2
      · go_wp2_with (refine wpList_index rfl _ _ rfl _ _ (.bool false) rfl rfl (idx2 b0 b1 false b3 b4 b5 b6 b7 _) ?_)
        go_roundw
        case rel => exact ⟨3, A, c, by omega, rfl, by rw [offs_no (k := 2) rfl], by rw [offs_no (k := 2) rfl]; exact hO, HE.out⟩
        case measure => simp [intOf]
      · have hO2 := hO.ext ((Ext.refl wr).alloc (.cells #[.int .i64 2] 3))
        have HR := Lib.hid (rd_one wr (.int .i64 2) 3)
        have hE2 := HE.out.alloc (.cells #[.int .i64 2] 3)
        have HE2 := Lib.hid hE2
        have hbs := hE2.sz
        clear hE2
        go_wp2_with (first | (refine wpList_index rfl _ _ rfl _ _ (.bool true) rfl rfl (idx2 b0 b1 true b3 b4 b5 b6 b7 _) ?_) | (at_builtin; refine appendInts _ rfl _ _ rfl w.heap.size _ _ _ (offs [b0, b1, true, b3, b4, b5, b6, b7] 2) rfl rfl hO2 _ _ _ [2] rfl rfl HR.out (by simp only [List.length_cons, List.length_nil]; omega) hbs ?_; intro A3 c3 m3 w3 hm3 hO3 hF3 hA3; obtain rfl := hm3))
        go_roundw
        case rel => exact ⟨3, A3, c3, by omega, rfl, by rw [offs_yes (k := 2) rfl]; simp, by rw [offs_yes (k := 2) rfl]; exact hO3, own_fresh hO2 HE2.out hF3⟩
        case measure => simp [intOf]
    · try simp only [Int.cast_ofNat_Int]
      cases b3
      · go_wp2_with (refine wpList_index rfl _ _ rfl _ _ (.bool false) rfl rfl (idx3 b0 b1 b2 false b4 b5 b6 b7 _) ?_)
        go_roundw
        case rel => exact ⟨4, A, c, by omega, rfl, by rw [offs_no (k := 3) rfl], by rw [offs_no (k := 3) rfl]; exact hO, HE.out⟩
        case measure => simp [intOf]
      · have hO2 := hO.ext ((Ext.refl wr).alloc (.cells #[.int .i64 3] 3))
        have HR := Lib.hid (rd_one wr (.int .i64 3) 3)
        have hE2 := HE.out.alloc (.cells #[.int .i64 3] 3)
        have HE2 := Lib.hid hE2
        have hbs := hE2.sz
        clear hE2
        go_wp2_with (first | (refine wpList_index rfl _ _ rfl _ _ (.bool true) rfl rfl (idx3 b0 b1 b2 true b4 b5 b6 b7 _) ?_) | (at_builtin; refine appendInts _ rfl _ _ rfl w.heap.size _ _ _ (offs [b0, b1, b2, true, b4, b5, b6, b7] 3) rfl rfl hO2 _ _ _ [3] rfl rfl HR.out (by simp only [List.length_cons, List.length_nil]; omega) hbs ?_; intro A3 c3 m3 w3 hm3 hO3 hF3 hA3; obtain rfl := hm3))
        go_roundw
        case rel => exact ⟨4, A3, c3, by omega, rfl, by rw [offs_yes (k := 3) rfl]; simp, by rw [offs_yes (k := 3) rfl]; exact hO3, own_fresh hO2 HE2.out hF3⟩
        case measure => simp [intOf]
    · try simp only [Int.cast_ofNat_Int]
      cases b4
      · go_wp2_with (refine wpList_index rfl _ _ rfl _ _ (.bool false) rfl rfl (idx4 b0 b1 b2 b3 false b5 b6 b7 _) ?_)
        go_roundw
        case rel => exact ⟨5, A, c, by omega, rfl, by rw [offs_no (k := 4) rfl], by rw [offs_no (k := 4) rfl]; exact hO, HE.out⟩
        case measure => simp [intOf]
      · have hO2 := hO.ext ((Ext.refl wr).alloc (.cells #[.int .i64 4] 3))
        have HR := Lib.hid (rd_one wr (.int .i64 4) 3)
        have hE2 := HE.out.alloc (.cells #[.int .i64 4] 3)
        have HE2 := Lib.hid hE2
        have hbs := hE2.sz
        clear hE2
        go_wp2_with (first | (refine wpList_index rfl _ _ rfl _ _ (.bool true) rfl rfl (idx4 b0 b1 b2 b3 true b5 b6 b7 _) ?_) | (at_builtin; refine appendInts _ rfl _ _ rfl w.heap.size _ _ _ (offs [b0, b1, b2, b3, true, b5, b6, b7] 4) rfl rfl hO2 _ _ _ [4] rfl rfl HR.out (by simp only [List.length_cons, List.length_nil]; omega) hbs ?_; intro A3 c3 m3 w3 hm3 hO3 hF3 hA3; obtain rfl := hm3))
        go_roundw
        case rel => exact ⟨5, A3, c3, by omega, rfl, by rw [offs_yes (k := 4) rfl]; simp, by rw [offs_yes (k := 4) rfl]; exact hO3, own_fresh hO2 HE2.out hF3⟩
        case measure => simp [intOf]
    · try simp only [Int.cast_ofNat_Int]
      cases b5
      · go_wp2_with (refine wpList_index rfl _ _ rfl _ _ (.bool false) rfl rfl (idx5 b0 b1 b2 b3 b4 false b6 b7 _) ?_)
        go_roundw
        case rel => exact ⟨6, A, c, by omega, rfl, by rw [offs_no (k := 5) rfl], by rw [offs_no (k := 5) rfl]; exact hO, HE.out⟩
        case measure => simp [intOf]
      · have hO2 := hO.ext ((Ext.refl wr).alloc (.cells #[.int .i64 5] 3))
        have HR := Lib.hid (rd_one wr (.int .i64 5) 3)
        have hE2 := HE.out.alloc (.cells #[.int .i64 5] 3)
        have HE2 := Lib.hid hE2
        have hbs := hE2.sz
        clear hE2
        go_wp2_with (first | (refine wpList_index rfl _ _ rfl _ _ (.bool true) rfl rfl (idx5 b0 b1 b2 b3 b4 true b6 b7 _) ?_) | (at_builtin; refine appendInts _ rfl _ _ rfl w.heap.size _ _ _ (offs [b0, b1, b2, b3, b4, true, b6, b7] 5) rfl rfl hO2 _ _ _ [5] rfl rfl HR.out (by simp only [List.length_cons, List.length_nil]; omega) hbs ?_; intro A3 c3 m3 w3 hm3 hO3 hF3 hA3; obtain rfl := hm3))
        go_roundw
        case rel => exact ⟨6, A3, c3, by omega, rfl, by rw [offs_yes (k := 5) rfl]; simp, by rw [offs_yes (k := 5) rfl]; exact hO3, own_fresh hO2 HE2.out hF3⟩
        case measure => simp [intOf]
    · try simp only [Int.cast_ofNat_Int]
      cases b6
      · go_wp2_with (refine wpList_index rfl _ _ rfl _ _ (.bool false) rfl rfl (idx6 b0 b1 b2 b3 b4 b5 false b7 _) ?_)
        go_roundw
        case rel => exact ⟨7, A, c, by omega, rfl, by rw [offs_no (k := 6) rfl], by rw [offs_no (k := 6) rfl]; exact hO, HE.out⟩
        case measure => simp [intOf]
      · have hO2 := hO.ext ((Ext.refl wr).alloc (.cells #[.int .i64 6] 3))
        have HR := Lib.hid (rd_one wr (.int .i64 6) 3)
        have hE2 := HE.out.alloc (.cells #[.int .i64 6] 3)
        have HE2 := Lib.hid hE2
        have hbs := hE2.sz
        clear hE2
        go_wp2_with (first | (refine wpList_index rfl _ _ rfl _ _ (.bool true) rfl rfl (idx6 b0 b1 b2 b3 b4 b5 true b7 _) ?_) | (at_builtin; refine appendInts _ rfl _ _ rfl w.heap.size _ _ _ (offs [b0, b1, b2, b3, b4, b5, true, b7] 6) rfl rfl hO2 _ _ _ [6] rfl rfl HR.out (by simp only [List.length_cons, List.length_nil]; omega) hbs ?_; intro A3 c3 m3 w3 hm3 hO3 hF3 hA3; obtain rfl := hm3))
        go_roundw
        case rel => exact ⟨7, A3, c3, by omega, rfl, by rw [offs_yes (k := 6) rfl]; simp, by rw [offs_yes (k := 6) rfl]; exact hO3, own_fresh hO2 HE2.out hF3⟩
        case measure => simp [intOf]
    · try simp only [Int.cast_ofNat_Int]
      cases b7
      · go_wp2_with (refine wpList_index rfl _ _ rfl _ _ (.bool false) rfl rfl (idx7 b0 b1 b2 b3 b4 b5 b6 false _) ?_)
        go_roundw
        case rel => exact ⟨8, A, c, by omega, rfl, by rw [offs_no (k := 7) rfl], by rw [offs_no (k := 7) rfl]; exact hO, HE.out⟩
        case measure => simp [intOf]
      · have hO2 := hO.ext ((Ext.refl wr).alloc (.cells #[.int .i64 7] 3))
        have HR := Lib.hid (rd_one wr (.int .i64 7) 3)
        have hE2 := HE.out.alloc (.cells #[.int .i64 7] 3)
        have HE2 := Lib.hid hE2
        have hbs := hE2.sz
        clear hE2
        go_wp2_with (first | (refine wpList_index rfl _ _ rfl _ _ (.bool true) rfl rfl (idx7 b0 b1 b2 b3 b4 b5 b6 true _) ?_) | (at_builtin; refine appendInts _ rfl _ _ rfl w.heap.size _ _ _ (offs [b0, b1, b2, b3, b4, b5, b6, true] 7) rfl rfl hO2 _ _ _ [7] rfl rfl HR.out (by simp only [List.length_cons, List.length_nil]; omega) hbs ?_; intro A3 c3 m3 w3 hm3 hO3 hF3 hA3; obtain rfl := hm3))
        go_roundw
        case rel => exact ⟨8, A3, c3, by omega, rfl, by rw [offs_yes (k := 7) rfl]; simp, by rw [offs_yes (k := 7) rfl]; exact hO3, own_fresh hO2 HE2.out hF3⟩
        case measure => simp [intOf]
    · go_wp2
      go_ret
      exact ⟨A, c, rfl, hO, HE.out⟩
end Go.Proofs.YtjnllilmimngoaaGreatDoor
