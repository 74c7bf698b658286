/-
  A letter that is lent and not written is told to be kept; it puts as the letter puts.
  How great a letter is: LetterOf bounds all that it holds.
-/
import Derived.Test.YtcapapnhlkmeaaaGreatDoorM50
import Derived.Test.YtcapapnhlkmeaaaGreatDoorM44
import Derived.Test.YtcapapnhlkmeaaaGreatDoorM25
namespace Go.Proofs.YtcapapnhlkmeaaaGreatDoor
open Go.RowKit

theorem wpList_load_arr {ops : Array Oper} {rest : List Oper} {o : Oper} {a : Act} {w : World} {Q : Exit → Act → World → Prop} (hgd : o.guard = none) (x : Operand) (ho : o.op = .load 34 x)
    (b : Nat) (arr : Array Value) (hs : arr.size = 23) (hx : a.eval x = .pointer (some ⟨b, 0, none⟩)) (hg : w.heap[b]? = some (.cells arr 34))
    (h : wpList Tryz.prog ops Q rest (a.put o.dst (.agg arr)) w) : wpList Tryz.prog ops Q (o :: rest) a w :=
  wpList_plain hgd fun K hK => wp_load_row 34 x ho b hx 34 arr (0, 0) _ hg Tryz.underlying34 rfl (by rw [infoLet, hs]) (hK _ _ h)
set_option maxRecDepth 100000 in
set_option maxHeartbeats 4000000 in
theorem keptLet_true (l l' : Let) (w : World) (hin : l.inW w) (hs : l.small) (hL : LetLent l l' w) :
    Calls Tryz.prog 12 #[l'.v, l.v] w fun e w' => e = .returned (.bool true) ∧ Ext w w' := by
  have H0 := Lib.hid (fun w' (h : Ext w w') => sameLet_true l l' w' (hin.ext h) hs (hL.ext h))
  obtain ⟨wA, wc, eA, ec, es', mA, mc, uA, uc, bA, bc, rfl⟩ := hL.eq
  obtain ⟨gw, hgw, hIw⟩ := hL.w1
  obtain ⟨ge, hge, hIe⟩ := hL.n1
  obtain ⟨B, hLO⟩ := hL.n2
  obtain ⟨gm, hgm, hRm⟩ := hL.m1
  obtain ⟨gu, hgu, hRu⟩ := hL.u1
  obtain ⟨gb, hgb, hRb⟩ := hL.b1
  have c1 := hL.w2.2
  have c2 := hL.n3
  have c3 := hL.m2.2
  have c4 := hL.u2.2
  have c5 := hL.b2.2
  simp only at hgw hge hLO hgm hgu hgb hIe c1 c2 c3 c4 c5
  subst hgw hge hgm hgu hgb
  have H1 := Lib.hid (fun w' (h : Ext w w') => keptIds_true gw l.wA wc l.wc l.want w' (hIw.ext h) (hin.w1.ext h) hs.s1 c1)
  have H2 := Lib.hid (fun w' (h : Ext w w') => keptEnts_true B ge l.eA ec l.ec l.ents es' w' (hIe.ext h) (hin.e1.ext h) (hLO.ext h) hs.s2 hs.s3 c2)
  have H3 := Lib.hid (fun w' (h : Ext w w') => keptSnap_true l gm gu mc uc l.mA l.uA l.mc l.uc w' (hRm.ext h) (hin.m1.ext h) (hRu.ext h) (hin.u1.ext h) hs.s4 hs.s5 c3 c4)
  have H4 := Lib.hid (fun w' (h : Ext w w') => keptBytes_any gb l.bA bc l.bc l.bs w' (hRb.ext h) (hin.b1.ext h) hs.s6 c5)
  have hel : es'.length = l.ents.length := hLO.1
  have hV : Let.v { l with wA := some ⟨gw, 0, none⟩, wc := wc, eA := some ⟨ge, 0, none⟩, ec := ec, ents := es', mA := some ⟨gm, 0, none⟩, mc := mc, uA := some ⟨gu, 0, none⟩, uc := uc, bA := some ⟨gb, 0, none⟩, bc := bc } = .agg (lentArr l gw wc ge ec gm mc gu uc gb bc) := by simp [Let.v, Let.arr, lentArr, hel]
  have hV2 : l.v = .agg l.arr := rfl
  rw [hV, hV2]
  rw [hV, hV2] at H0
  clear hL hIw hIe hLO hRm hRu hRb hin hs hV hV2 c1 c2 c3 c4 c5
  have HB0 := Lib.hid (heap0 w (.cells (lentArr l gw wc ge ec gm mc gu uc gb bc) 34) (.cells l.arr 34))
  have HB1 := Lib.hid (heap1 w (.cells (lentArr l gw wc ge ec gm mc gu uc gb bc) 34) (.cells l.arr 34))
  have HE0 := Lib.hid (((Ext.refl w).alloc (.cells (lentArr l gw wc ge ec gm mc gu uc gb bc) 34)).alloc (.cells l.arr 34))
  unfold snV at H3
  have k11 : (lentArr l gw wc ge ec gm mc gu uc gb bc)[11]? = some (.slice (some ⟨gw, 0, none⟩) l.want.length wc) := rfl
  have k14 : (lentArr l gw wc ge ec gm mc gu uc gb bc)[14]? = some (.slice (some ⟨ge, 0, none⟩) l.ents.length ec) := rfl
  have k15 : (lentArr l gw wc ge ec gm mc gu uc gb bc)[15]? = some (.int .i64 l.slast.i) := rfl
  have k16 : (lentArr l gw wc ge ec gm mc gu uc gb bc)[16]? = some (.int .i64 l.slast.t) := rfl
  have k17 : (lentArr l gw wc ge ec gm mc gu uc gb bc)[17]? = some (.int .i64 l.slast.k) := rfl
  have k18 : (lentArr l gw wc ge ec gm mc gu uc gb bc)[18]? = some (.slice (some ⟨gm, 0, none⟩) l.mems.length mc) := rfl
  have k19 : (lentArr l gw wc ge ec gm mc gu uc gb bc)[19]? = some (.int .i64 l.size) := rfl
  have k20 : (lentArr l gw wc ge ec gm mc gu uc gb bc)[20]? = some (.slice (some ⟨gu, 0, none⟩) l.sums.length uc) := rfl
  have k22 : (lentArr l gw wc ge ec gm mc gu uc gb bc)[22]? = some (.slice (some ⟨gb, 0, none⟩) l.bs.length bc) := rfl
  have hsz23 := Lib.hid (show (lentArr l gw wc ge ec gm mc gu uc gb bc).size = 23 from rfl)
  generalize hLA : lentArr l gw wc ge ec gm mc gu uc gb bc = LA at *
  clear hLA
  go_enter Tryz.func12, Tryz.ntmps12
  go_wp2_with (first | (refine wpList_load_arr rfl (.tmp 2) rfl w.heap.size _ hsz23.out rfl HB0.out ?_) | (refine wpList_load_arr rfl (.tmp 3) rfl (w.heap.size + 1) _ rfl rfl HB1.out ?_))
  refine (H0.out _ HE0.out).mono ?_
  rintro ev w0 ⟨rfl, hE1⟩
  have g0 := hE1.blk HB0.out
  have a11 := cell_of_heap g0 11
  have r1 := cell_of_heap (hE1.blk HB1.out)
  have HE1 := Lib.hid (HE0.out.trans hE1)
  have HG0 := Lib.hid g0
  have HG1 := Lib.hid (hE1.blk HB1.out)
  clear g0 hE1
  go_wp2_with fail
  refine (H1.out _ HE1.out).mono ?_
  rintro ev w1 ⟨rfl, hE2⟩
  clear a11 r1
  have g0 := hE2.blk HG0.out
  have a14 := cell_of_heap g0 14
  have r1 := cell_of_heap (hE2.blk HG1.out)
  have HE2 := Lib.hid (HE1.out.trans hE2)
  have HJ0 := Lib.hid g0
  have HJ1 := Lib.hid (hE2.blk HG1.out)
  clear g0 hE2 HG0 HG1
  go_wp2_with fail
  refine (H2.out _ HE2.out).mono ?_
  rintro ev w2 ⟨rfl, hE3⟩
  clear a14 r1
  have g0 := hE3.blk HJ0.out
  have a15 := cell_of_heap g0 15
  have a16 := cell_of_heap g0 16
  have a17 := cell_of_heap g0 17
  have a18 := cell_of_heap g0 18
  have a19 := cell_of_heap g0 19
  have a20 := cell_of_heap g0 20
  have r1 := cell_of_heap (hE3.blk HJ1.out)
  have HE3 := Lib.hid (HE2.out.trans hE3)
  have HG0 := Lib.hid g0
  have HG1 := Lib.hid (hE3.blk HJ1.out)
  clear g0 hE3 HJ0 HJ1
  go_wp2_with fail
  refine (H3.out _ HE3.out).mono ?_
  rintro ev w3 ⟨rfl, hE4⟩
  clear a15 a16 a17 a18 a19 a20 r1
  have g0 := hE4.blk HG0.out
  have a22 := cell_of_heap g0 22
  have r1 := cell_of_heap (hE4.blk HG1.out)
  have HE4 := Lib.hid (HE3.out.trans hE4)
  clear g0 hE4 HG0 HG1
  go_wp2_with fail
  refine (H4.out _ HE4.out).mono ?_
  rintro ev w4 ⟨rfl, hE5⟩
  go_wp2_with fail
  go_ret
  exact ⟨rfl, HE4.out.trans hE5⟩

/-- An entry without its address. -/
def Ent.er (e : Ent) : Ent := ⟨e.i, e.t, e.k, none, 0, e.bs⟩
theorem LentOf.er {B : Nat} {es es' : List Ent} {w : World} (h : LentOf B es es' w) : es'.map Ent.er = es.map Ent.er := by
  apply List.ext_getElem?
  intro j
  rw [List.getElem?_map, List.getElem?_map]
  by_cases hj : j < es.length
  · obtain ⟨g, c', h1, _⟩ := h.2 j es[j] (List.getElem?_eq_getElem hj)
    rw [h1, List.getElem?_eq_getElem hj]
    rfl
  · rw [List.getElem?_eq_none (by have := h.1; omega), List.getElem?_eq_none (by omega)]
theorem er_len {es es' : List Ent} (h : es'.map Ent.er = es.map Ent.er) : es'.length = es.length := by have := congrArg List.length h; simpa using this
theorem good_er (e : Ent) : e.er.good = e.good := rfl
theorem goods_er {es es' : List Ent} (h : es'.map Ent.er = es.map Ent.er) : es'.all Ent.good = es.all Ent.good := by
  have h1 : ∀ l : List Ent, l.all Ent.good = (l.map Ent.er).all Ent.good := fun l => by rw [List.all_map]; rfl
  rw [h1 es', h1 es, h]
theorem rowE_er : ∀ (es es' : List Ent) (a : Id) (j : Nat), es'.map Ent.er = es.map Ent.er → rowE a j es' = rowE a j es := by
  intro es
  induction es with
  | nil => intro es' a j h; cases es' with | nil => rfl | cons _ _ => cases h
  | cons x es ih =>
    intro es' a j h
    cases es' with
    | nil => cases h
    | cons y ys =>
      simp only [List.map_cons, List.cons.injEq] at h
      obtain ⟨h1, h2⟩ := h
      have hm : meetsN a y = meetsN a x := by
        have e1 : meetsN a y = meetsN a y.er := rfl
        have e2 : meetsN a x = meetsN a x.er := rfl
        rw [e1, e2, h1]
      have hid : y.id = x.id := by
        have e1 : y.id = y.er.id := rfl
        have e2 : x.id = x.er.id := rfl
        rw [e1, e2, h1]
      unfold rowE
      rw [hm, hid, ih ys x.id (j + 1) h2]
theorem follows_er {es es' : List Ent} (p : Id) (h : es'.map Ent.er = es.map Ent.er) : followsN p es' = followsN p es := by
  unfold followsN
  rw [rowE_er es es' p 0 h]
theorem lastId_er {es es' : List Ent} (p : Id) (h : es'.map Ent.er = es.map Ent.er) : lastId p es' = lastId p es := by
  have hl := er_len h
  unfold lastId
  by_cases h0 : 0 < es.length
  · rw [dif_pos (by omega), dif_pos h0]
    have h1 : (es'.map Ent.er)[es'.length - 1]? = (es.map Ent.er)[es.length - 1]? := by rw [h, hl]
    rw [List.getElem?_map, List.getElem?_map, List.getElem?_eq_getElem (by omega), List.getElem?_eq_getElem (by omega)] at h1
    simp only [Option.map_some, Option.some.injEq] at h1
    have h2 := congrArg Ent.id h1
    exact h2
  · rw [dif_neg (by omega), dif_neg h0]
theorem aheads_er : ∀ (es es' : List Ent) (ps : List Id), es'.map Ent.er = es.map Ent.er → aheadsL es' ps = aheadsL es ps := by
  intro es
  induction es with
  | nil => intro es' ps h; cases es' with | nil => rfl | cons _ _ => cases h
  | cons x es ih =>
    intro es' ps h
    cases es' with
    | nil => cases h
    | cons y ys =>
      simp only [List.map_cons, List.cons.injEq] at h
      obtain ⟨h1, h2⟩ := h
      cases ps with
      | nil => rfl
      | cons p ps =>
        have hm : aheadAt y p = aheadAt x p := by
          have e1 : aheadAt y p = aheadAt y.er p := rfl
          have e2 : aheadAt x p = aheadAt x.er p := rfl
          rw [e1, e2, h1]
        simp only [aheadsL]
        rw [hm, ih ys ps h2]
theorem entsB_er {es es' : List Ent} (h : es'.map Ent.er = es.map Ent.er) : entsB es' = entsB es := by
  have h1 : ∀ l : List Ent, entsB l = entsB (l.map Ent.er) := fun l => by unfold entsB; rw [List.flatMap_map]; rfl
  rw [h1 es', h1 es, h]
theorem lent_right {l l' : Let} {w : World} (hL : LetLent l l' w) : rightL l' = rightL l := by
  obtain ⟨B, hLO⟩ := hL.n2
  have her := hLO.er
  obtain ⟨wA, wc, eA, ec, es', mA, mc, uA, uc, bA, bc, rfl⟩ := hL.eq
  simp only at her
  have hl := er_len her
  rw [right_same, right_same]
  simp only [rightD, ok0, b1, b2, b3, b4, b5, b6, b7, c7, b8, bareD, noneOk, carriedOk, snapOk, rowOk, goodsOk, aheadsOk, follows_er _ her, lastId_er _ her, goods_er her, aheads_er _ _ _ her, hl]
theorem lent_put {l l' : Let} {w : World} (hL : LetLent l l' w) : putX l' = putX l ∧ putN l' = putN l := by
  have hr := lent_right hL
  obtain ⟨B, hLO⟩ := hL.n2
  have her := hLO.er
  obtain ⟨wA, wc, eA, ec, es', mA, mc, uA, uc, bA, bc, rfl⟩ := hL.eq
  simp only at her
  have hl := er_len her
  refine ⟨?_, by unfold putN; rw [hr]⟩
  unfold putX
  rw [hr]
  congr 1
  simp only [putB, hdB, bodyB, entsR, carryB, entsB_er her, hl]
end Go.Proofs.YtcapapnhlkmeaaaGreatDoor
namespace Go.Proofs.YtcapapnhlkmeaaaGreatDoor
open Go.RowKit

def EoP (es : List Ent) (w : World) (e : Ending) (w' : World) : Prop := ∃ n : Int, e = .returned (.int .i64 n) ∧ 0 ≤ n ∧ n ≤ 140737488359400 ∧ (n ≤ 4000 → (es.length : Int) ≤ n ∧ ∀ x ∈ es, (x.bs.length : Int) ≤ n) ∧ w = w'
def EoRel2 (es : List Ent) (v i : Value) : Prop := ∃ (k : Nat) (z : Int), k ≤ es.length ∧ i = .int .i64 k ∧ v = .int .i64 z ∧ 0 ≤ z ∧ z ≤ 140737488359400 ∧ (k : Int) ≤ z ∧ ∀ x ∈ es.take k, (x.bs.length : Int) ≤ z
set_option maxHeartbeats 600000 in
theorem entriesOf_le (A : Option Addr) (c : Nat) (es : List Ent) (w : World) (hA : EntsIn w A es) (hl : es.length ≤ maxLen) (hb : ∀ x ∈ es, x.bs.length ≤ 140737488355328) :
    Calls Tryz.prog 14 #[.slice A es.length c, .int .i64 4000] w (EoP es w) := by
  unfold maxLen at hl
  go_enter Tryz.func14, Tryz.ntmps14
  go_wp2
  go_loop [5, 6] (fun v i => EoRel2 es v i) (fun _ i => es.length - (intOf i).toNat)
  case atStart => exact ⟨0, 0, Nat.zero_le _, rfl, rfl, by omega, by omega, by omega, fun x hx => by simp at hx⟩
  case round =>
    obtain ⟨k, z, hk, rfl, rfl, hz0, hz1, hkz, hr⟩ := hrel
    have HR := Lib.hid hr
    clear hr
    by_cases hlt : k < es.length
    · by_cases hz : z ≤ 4000
      · have dz : decide (z ≤ 4000) = true := by simpa using hz
        obtain ⟨b, f, e, rfl, he, c0, c1, c2, c3, hin⟩ := hA.at_ hlt
        have hbe := hb e (mem_get he)
        have HT := Lib.hid (take_snoc' he)
        have w1 : IntKind.i64.wrap (z + 1) = z + 1 := IntWalk.i64_in _ (by omega)
        have w2 : IntKind.i64.wrap (z + 1 + (e.bs.length : Int)) = z + 1 + (e.bs.length : Int) := IntWalk.i64_in _ (by omega)
        clear he c0 c1 c2 hin
        go_wp2
        go_round
        case rel => exact ⟨k + 1, z + 1 + (e.bs.length : Int), by omega, by go_num, rfl, by omega, by omega, by omega, fun x hx => by
          rw [HT.out] at hx
          rcases List.mem_append.1 hx with hx | hx
          · have := HR.out x hx; omega
          · simp at hx; subst hx; omega⟩
        case measure => simp [intOf]; omega
      · have dz : decide (z ≤ 4000) = false := by simpa using hz
        go_wp2
        go_ret
        exact ⟨z, rfl, hz0, hz1, fun h => by omega, rfl⟩
    · obtain rfl : k = es.length := by omega
      have hr := HR.out
      rw [List.take_length] at hr
      go_wp2
      go_ret
      exact ⟨z, rfl, hz0, hz1, fun _ => ⟨hkz, hr⟩, rfl⟩
def LoP (l : Let) (w : World) (e : Ending) (w' : World) : Prop := ∃ n : Int, e = .returned (.int .i64 n) ∧ (n ≤ 4000 → l.small) ∧ Ext w w'
set_option maxRecDepth 100000 in
set_option maxHeartbeats 1000000 in
theorem letterOf_le (l : Let) (w : World) (hin : l.inW w) (hb : ∀ x ∈ l.ents, x.bs.length ≤ 140737488355328) : Calls Tryz.prog 4 #[l.v, .int .i64 4000] w (LoP l w) := by
  have he2 := hin.e2
  have hw2 := hin.w2
  have hm2 := hin.m2
  have hu2 := hin.u2
  have hb2 := hin.b2
  have HEO := Lib.hid (fun w' (h : Ext w w') => entriesOf_le l.eA l.ec l.ents w' (hin.e1.ext h) (by unfold maxLen; omega) hb)
  have hV : l.v = .agg l.arr := rfl
  rw [hV]
  clear hin hV hb
  have x1 : IntKind.i64.wrap (1 + (l.want.length : Int)) = 1 + (l.want.length : Int) := IntWalk.i64_in _ (by omega)
  have x2 : IntKind.i64.wrap (1 + (l.want.length : Int) + (l.bs.length : Int)) = 1 + (l.want.length : Int) + (l.bs.length : Int) := IntWalk.i64_in _ (by omega)
  have x3 : IntKind.i64.wrap (1 + (l.want.length : Int) + (l.bs.length : Int) + (l.mems.length : Int)) = 1 + (l.want.length : Int) + (l.bs.length : Int) + (l.mems.length : Int) := IntWalk.i64_in _ (by omega)
  have x4 : IntKind.i64.wrap (1 + (l.want.length : Int) + (l.bs.length : Int) + (l.mems.length : Int) + (l.sums.length : Int)) = 1 + (l.want.length : Int) + (l.bs.length : Int) + (l.mems.length : Int) + (l.sums.length : Int) := IntWalk.i64_in _ (by omega)
  go_enter Tryz.func4, Tryz.ntmps4
  go_wp2_with fail
  have EB := Lib.hid (heap_alloc_new w (.cells l.arr 34))
  refine Stab.wp_region_lex Ext (Ext _) (fun _ => True) (by kernel_rfl) (by kernel_rfl) (fun _ _ h => h) (fun _ _ h k => Ext.trans h k) (fun _ _ _ _ => trivial) ((Ext.refl _).drew) trivial ?_
  simp only [Stab.zipL, Nat.reduceAdd]
  iterate 21 (refine Stab.wpX_val rfl rfl ?_; apply Exists.intro; refine ⟨fun wx hC _ => ?_, ?_⟩; (have r := cell_of_heap (hC.blk EB.out); go_simp; exact ⟨Ext.refl _, rfl⟩); simp only [Act.put, List.setIfInBounds_toArray, List.set_cons_zero, List.set_cons_succ])
  refine Stab.wpX_call (fun u _ => ∃ n : Int, u = .int .i64 n ∧ 0 ≤ n ∧ n ≤ 140737488359400 ∧ (n ≤ 4000 → (l.ents.length : Int) ≤ n ∧ ∀ x ∈ l.ents, (x.bs.length : Int) ≤ n)) (fun _ _ => True) rfl rfl (fun _ _ _ h _ => h) (fun _ _ _ _ _ => trivial) ?_ ?_
  · intro wx hC _ hF
    go_simp
    refine ⟨rfl, ?_⟩
    refine (HEO.out _ (((Ext.refl _).alloc _).trans hC)).mono ?_
    rintro ev w9 ⟨n, rfl, h0, h1, h2, rfl⟩
    exact ⟨Ext.refl _, n, rfl, h0, h1, h2⟩
  rintro ux ⟨_, _, ⟨n, rfl, hn0, hn1, hn2⟩, _⟩
  have x5 : IntKind.i64.wrap (1 + (l.want.length : Int) + (l.bs.length : Int) + (l.mems.length : Int) + (l.sums.length : Int) + n) = 1 + (l.want.length : Int) + (l.bs.length : Int) + (l.mems.length : Int) + (l.sums.length : Int) + n := IntWalk.i64_in _ (by omega)
  have HN := Lib.hid hn2
  clear hn2
  simp only [Act.put, List.setIfInBounds_toArray, List.set_cons_zero, List.set_cons_succ]
  iterate 2 (refine Stab.wpX_val rfl rfl ?_; apply Exists.intro; refine ⟨fun wx hC _ => ?_, ?_⟩; (have r := cell_of_heap (hC.blk EB.out); go_simp; exact ⟨Ext.refl _, rfl⟩); simp only [Act.put, List.setIfInBounds_toArray, List.set_cons_zero, List.set_cons_succ])
  refine Stab.wpX_end fun w8 hC8 _ hF8 => ?_
  go_wp2_with fail
  go_ret
  refine ⟨1 + (l.want.length : Int) + (l.bs.length : Int) + (l.mems.length : Int) + (l.sums.length : Int) + n, rfl, fun h => ?_, ((Ext.refl _).alloc _).trans hC8⟩
  obtain ⟨h3, h4⟩ := HN.out (by omega)
  exact ⟨by omega, by omega, fun x hx => by have := h4 x hx; omega, by omega, by omega, by omega⟩
end Go.Proofs.YtcapapnhlkmeaaaGreatDoor
