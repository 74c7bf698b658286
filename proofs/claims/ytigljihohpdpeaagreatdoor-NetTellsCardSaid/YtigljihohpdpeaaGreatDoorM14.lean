/-
  A letter; snap, carried.
  snap, carried.
-/
import Derived.Test.YtigljihohpdpeaaGreatDoorM13
namespace Go.Proofs.YtigljihohpdpeaaGreatDoor
open Go.RowKit

structure Let where
  kind : Int
  frm : Int
  too : Int
  term : Int
  index : Int
  last : Id
  prev : Id
  wA : Option Addr
  wc : Nat
  want : List Id
  commit : Int
  yes : Bool
  eA : Option Addr
  ec : Nat
  ents : List Ent
  slast : Id
  mA : Option Addr
  mc : Nat
  mems : List Int
  size : Int
  uA : Option Addr
  uc : Nat
  sums : List Int
  piece : Int
  bA : Option Addr
  bc : Nat
  bs : List Int
def Let.arr (l : Let) : Array Value := #[.int .i64 l.kind, .int .i64 l.frm, .int .i64 l.too, .int .i64 l.term, .int .i64 l.index, .int .i64 l.last.i, .int .i64 l.last.t, .int .i64 l.last.k, .int .i64 l.prev.i, .int .i64 l.prev.t, .int .i64 l.prev.k, .slice l.wA l.want.length l.wc, .int .i64 l.commit, .bool l.yes, .slice l.eA l.ents.length l.ec, .int .i64 l.slast.i, .int .i64 l.slast.t, .int .i64 l.slast.k, .slice l.mA l.mems.length l.mc, .int .i64 l.size, .slice l.uA l.sums.length l.uc, .int .i64 l.piece, .slice l.bA l.bs.length l.bc]
def Let.v (l : Let) : Value := .agg l.arr
structure Let.inW (w : World) (l : Let) : Prop where
  w1 : IdsIn w l.wA l.want
  e1 : EntsIn w l.eA l.ents
  m1 : Rd w l.mA (l.mems.map (.int .i64))
  u1 : Rd w l.uA (l.sums.map (.int .u32))
  b1 : Rd w l.bA (l.bs.map (.int .u8))
  w2 : l.want.length ≤ 140737488355328
  e2 : l.ents.length ≤ 140737488355328
  m2 : l.mems.length ≤ 140737488355328
  u2 : l.sums.length ≤ 140737488355328
  b2 : l.bs.length ≤ 140737488355328
  u3 : ∀ x ∈ l.sums, 0 ≤ x ∧ x ≤ 4294967295
theorem Let.inW.ext {w w' : World} {l : Let} (h : l.inW w) (he : Ext w w') : l.inW w' :=
  ⟨h.w1.ext he, h.e1.ext he, h.m1.ext he, h.u1.ext he, h.b1.ext he, h.w2, h.e2, h.m2, h.u2, h.b2, h.u3⟩

theorem rd_heap {w : World} {b : Nat} {vs : List Value} {t : TypeId} (h : w.heap[b]? = some (.cells vs.toArray t)) : Rd w (some ⟨b, 0, none⟩) vs := fun j u hj => by
  refine ⟨_, rfl, ?_⟩
  rw [add_lit', Nat.zero_add, cell_of_heap h]
  simpa using hj

def Errs (d : Nat) (w : World) : List Bool → List Value → Prop
  | [], [] => True
  | ok :: oks, v :: vs => Err d w ok v ∧ Errs d w oks vs
  | _, _ => False
theorem Err.nilOr {d : Nat} {w : World} {ok : Bool} {v : Value} (h : Err d w ok v) : NilOr v := by
  cases ok
  · have h' : Bad d w v := h
    clear h
    induction d generalizing v with
    | zero => obtain ⟨s, rfl⟩ := h'; exact .inr ⟨_, _, rfl⟩
    | succ d ih =>
      rcases h' with h' | ⟨j, a, n, c, v0, rfl, _⟩
      · exact ih h'
      · exact .inr ⟨_, _, rfl⟩
  · exact .inl h
theorem Err.no {d : Nat} {w : World} {v : Value} (h : Err d w false v) : ∃ T x, v = .iface T x := by
  have h' : Bad d w v := h
  clear h
  induction d generalizing v with
  | zero => obtain ⟨s, rfl⟩ := h'; exact ⟨_, _, rfl⟩
  | succ d ih =>
    rcases h' with h' | ⟨j, a, n, c, v0, rfl, _⟩
    · exact ih h'
    · exact ⟨_, _, rfl⟩
theorem Errs.nilOr {d : Nat} {w : World} {oks : List Bool} {vs : List Value} (h : Errs d w oks vs) : ∀ v ∈ vs, NilOr v := by
  induction oks generalizing vs with
  | nil => cases vs with
    | nil => simp
    | cons v vs => exact h.elim
  | cons ok oks ih => cases vs with
    | nil => exact h.elim
    | cons v vs =>
      intro x hx
      rcases List.mem_cons.1 hx with rfl | hx
      · exact h.1.nilOr
      · exact ih h.2 x hx
theorem Errs.all {d : Nat} {w : World} {oks : List Bool} {vs : List Value} (h : Errs d w oks vs) (ha : oks.all id = true) : ∀ v ∈ vs, v = .nilIface := by
  induction oks generalizing vs with
  | nil => cases vs with
    | nil => simp
    | cons v vs => exact h.elim
  | cons ok oks ih => cases vs with
    | nil => exact h.elim
    | cons v vs =>
      simp only [List.all_cons, Bool.and_eq_true, id] at ha
      intro x hx
      rcases List.mem_cons.1 hx with rfl | hx
      · have h1 := h.1; rw [ha.1] at h1; exact h1
      · exact ih h.2 ha.2 x hx
theorem Errs.some_ {d : Nat} {w : World} {oks : List Bool} {vs : List Value} (h : Errs d w oks vs) (ha : oks.all id = false) : ∃ v0 r, errsOf vs = v0 :: r ∧ Bad d w v0 := by
  induction oks generalizing vs with
  | nil => simp at ha
  | cons ok oks ih => cases vs with
    | nil => exact h.elim
    | cons v vs =>
      cases ok with
      | false =>
        obtain ⟨T, x, hx⟩ := h.1.no
        refine ⟨v, errsOf vs, ?_, h.1⟩
        subst hx
        simp [errsOf, isNil]
      | true =>
        have h1 : v = .nilIface := h.1
        subst h1
        obtain ⟨v0, r, h2, h3⟩ := ih h.2 (by simpa using ha)
        exact ⟨v0, r, by simpa [errsOf, isNil] using h2, h3⟩

theorem join_errs (d : Nat) (A : Option Addr) (c : Nat) (vs : List Value) (oks : List Bool) (ok : Bool) (w : World) (hA : Rd w A vs) (hl : vs.length ≤ 1000000) (hok : oks.all id = ok) (h : Errs d w oks vs) :
    Calls Tryz.prog 45 #[.slice A vs.length c] w (ErrPost (d + 1) ok w) := by
  subst hok
  cases ha : oks.all id with
  | true => exact (join_none A c vs w hA hl (h.all ha)).mono fun e w' ⟨he, hE⟩ => ⟨_, he, rfl, hE⟩
  | false =>
    obtain ⟨v0, r, h2, h3⟩ := h.some_ ha
    refine (join_some A c vs w hA hl h.nilOr (by rw [h2]; simp)).mono fun e w' ⟨j, a, c', he, hc, hr, hE⟩ => ⟨_, he, ?_, hE⟩
    show Bad (d + 1) w' _
    refine .inr ⟨j, a, (errsOf vs).length, c', v0, rfl, hc, by rw [h2]; simp, ?_, h3.ext hE⟩
    obtain ⟨ad, had, hcell⟩ := hr 0 v0 (by rw [h2]; rfl)
    injection had with had
    subst had
    simpa [Addr.add] using hcell

theorem holdsV_cells (s : ByteArray) (ok : Bool) : (holdsV s ok).cells = #[holdsV s ok] := by cases ok <;> rfl
theorem Err.cells {d : Nat} {w : World} {ok : Bool} {v : Value} (h : Err d w ok v) : v.cells = #[v] := by
  rcases h.nilOr with rfl | ⟨T, x, rfl⟩ <;> rfl
theorem build2 (a b : Value) (w : World) (ha : a.cells = #[a]) (hb : b.cells = #[b]) : (Instr.buildSlice 123 2 #[(0, a), (1, b)]).run Tryz.prog w = .ok (.slice (some ⟨w.heap.size, 0, none⟩) 2 2) (w.alloc (.cells #[a, b] 69)) := by
  obtain ⟨i0, hi, hz0, hz1, hz2⟩ := info_parts Tryz.infoErr
  simp [Instr.buildSlice, run_underlying Tryz.underlying123, sizeOf, typeInfo, hi, hz1, zeroValue, hz0, Instr.fill, ha, hb, newRow, show Value.nilIface.cells = #[Value.nilIface] from rfl, show Array.range 2 = #[0, 1] from by decide, show Array.range 3 = #[0, 1, 2] from by decide, show Array.range 4 = #[0, 1, 2, 3] from by decide]
theorem build3 (a b c : Value) (w : World) (ha : a.cells = #[a]) (hb : b.cells = #[b]) (hc : c.cells = #[c]) : (Instr.buildSlice 123 3 #[(0, a), (1, b), (2, c)]).run Tryz.prog w = .ok (.slice (some ⟨w.heap.size, 0, none⟩) 3 3) (w.alloc (.cells #[a, b, c] 69)) := by
  obtain ⟨i0, hi, hz0, hz1, hz2⟩ := info_parts Tryz.infoErr
  simp [Instr.buildSlice, run_underlying Tryz.underlying123, sizeOf, typeInfo, hi, hz1, zeroValue, hz0, Instr.fill, ha, hb, hc, newRow, show Value.nilIface.cells = #[Value.nilIface] from rfl, show Array.range 2 = #[0, 1] from by decide, show Array.range 3 = #[0, 1, 2] from by decide, show Array.range 4 = #[0, 1, 2, 3] from by decide]
theorem build4 (a b c d : Value) (w : World) (ha : a.cells = #[a]) (hb : b.cells = #[b]) (hc : c.cells = #[c]) (hd : d.cells = #[d]) : (Instr.buildSlice 123 4 #[(0, a), (1, b), (2, c), (3, d)]).run Tryz.prog w = .ok (.slice (some ⟨w.heap.size, 0, none⟩) 4 4) (w.alloc (.cells #[a, b, c, d] 69)) := by
  obtain ⟨i0, hi, hz0, hz1, hz2⟩ := info_parts Tryz.infoErr
  simp [Instr.buildSlice, run_underlying Tryz.underlying123, sizeOf, typeInfo, hi, hz1, zeroValue, hz0, Instr.fill, ha, hb, hc, hd, newRow, show Value.nilIface.cells = #[Value.nilIface] from rfl, show Array.range 2 = #[0, 1] from by decide, show Array.range 3 = #[0, 1, 2] from by decide, show Array.range 4 = #[0, 1, 2, 3] from by decide]
theorem yields_build {o : Oper} {a : Act} {w : World} (n : Nat) (parts : Array (Nat × Operand)) (ho : o.op = .buildSlice 123 n parts) (q : Array (Nat × Value)) (hq : (parts.map fun (i, x) => (i, a.eval x)) = q) (cs : Array Value)
    (hrun : (Instr.buildSlice 123 n q).run Tryz.prog w = .ok (.slice (some ⟨w.heap.size, 0, none⟩) n n) (w.alloc (.cells cs 69))) :
    Stab.yields Tryz.prog o a w (fun u w' => Ext w w' ∧ ∃ b, u = .slice (some ⟨b, 0, none⟩) n n ∧ w'.heap[b]? = some (.cells cs 69)) := by
  subst hq
  unfold Stab.yields execOp
  simp only [ho, Sem.run_bind, hrun, Result.andThen_ok, Sem.run_pure, Stab.yieldsUpon_value]
  first | exact ⟨(Ext.refl _).alloc _, _, rfl, heap_alloc_new w _⟩ | skip
end Go.Proofs.YtigljihohpdpeaaGreatDoor
namespace Go.Proofs.YtigljihohpdpeaaGreatDoor
open Go.RowKit

def lowS (n : Nat) : Int := if (n : Int) * 200 - 200 + 1 < 0 then 0 else (n : Int) * 200 - 200 + 1
def snapOk (l : Let) : Bool := someI l.slast.i l.slast.t l.slast.k && (memR l.mems && (inR l.size (lowS l.sums.length) (l.sums.length * 200) && decide ((l.sums.length : Int) ≤ 48)))
set_option maxRecDepth 100000 in
set_option maxHeartbeats 1000000 in
theorem snap_any (l : Let) (w : World) (hin : l.inW w) :
    Calls Tryz.prog 75 #[.agg #[.int .i64 l.slast.i, .int .i64 l.slast.t, .int .i64 l.slast.k, .slice l.mA l.mems.length l.mc, .int .i64 l.size, .slice l.uA l.sums.length l.uc]] w (ErrPost 1 (snapOk l) w) := by
  have hM := hin.m1
  have hm2 := hin.m2
  have hu2 := hin.u2
  have HM := Lib.hid (fun w' (h : Ext w w') => members_any l.mA l.mc l.mems w' (hM.ext h) (by unfold maxLen; omega))
  have HSO := Lib.hid (fun w' => someones_any l.slast.i l.slast.t l.slast.k w')
  unfold idV at HSO
  clear hin hM
  go_enter Tryz.func75, Tryz.ntmps75
  go_wp2_with fail
  have EB := Lib.hid (heap_alloc_new w (.cells #[.int .i64 l.slast.i, .int .i64 l.slast.t, .int .i64 l.slast.k, .slice l.mA l.mems.length l.mc, .int .i64 l.size, .slice l.uA l.sums.length l.uc] 41))
  refine Stab.wp_region_lex Ext (Ext _) (fun _ => True) (by kernel_rfl) (by kernel_rfl) (fun _ _ h => h) (fun _ _ h k => Ext.trans h k) (fun _ _ _ _ => trivial) ((Ext.refl _).drew) trivial ?_
  simp only [Stab.zipL, Nat.reduceAdd]
  repeat (first
    | (refine Stab.wpX_val rfl rfl ?_; apply Exists.intro; refine ⟨fun wx hC _ => ?_, ?_⟩; (have r := cell_of_heap (hC.blk EB.out); go_simp; (try simp (disch := omega) only [↓IntWalk.iteOmega, Stab.yieldsUpon_value, IntWalk.i64_in]); exact ⟨Ext.refl _, rfl⟩); simp only [Act.put, List.setIfInBounds_toArray, List.set_cons_zero, List.set_cons_succ])
    | (refine Stab.wpX_call1 rfl rfl (fun _ _ _ _ => trivial) ?_; apply Exists.intro; refine ⟨fun wx hC _ _ => ?_, ?_⟩; (go_simp; refine ⟨rfl, ?_⟩; refine (HSO.out _).mono ?_; rintro ev w9 ⟨rfl, hb9⟩; (first | (subst hb9; exact ⟨Ext.refl _, rfl, trivial⟩) | (subst hb9; exact ⟨Ext.refl _, rfl⟩) | exact ⟨hb9, rfl, trivial⟩ | exact ⟨hb9, rfl⟩)); simp only [Act.put, List.setIfInBounds_toArray, List.set_cons_zero, List.set_cons_succ])
    | (refine Stab.wpX_call1 rfl rfl (fun _ _ _ _ => trivial) ?_; apply Exists.intro; refine ⟨fun wx hC _ _ => ?_, ?_⟩; (go_simp; refine ⟨rfl, ?_⟩; refine (HM.out _ (((Ext.refl _).alloc _).trans hC)).mono ?_; rintro ev w9 ⟨rfl, hb9⟩; (first | (subst hb9; exact ⟨Ext.refl _, rfl, trivial⟩) | (subst hb9; exact ⟨Ext.refl _, rfl⟩) | exact ⟨hb9, rfl, trivial⟩ | exact ⟨hb9, rfl⟩)); simp only [Act.put, List.setIfInBounds_toArray, List.set_cons_zero, List.set_cons_succ])
    | (refine Stab.wpX_call1 rfl rfl (fun _ _ _ _ => trivial) ?_; apply Exists.intro; refine ⟨fun wx hC _ _ => ?_, ?_⟩; (go_simp; refine ⟨rfl, ?_⟩; refine (within_any _ _ _ _).mono ?_; rintro ev w9 ⟨rfl, hb9⟩; (first | (subst hb9; exact ⟨Ext.refl _, rfl, trivial⟩) | (subst hb9; exact ⟨Ext.refl _, rfl⟩) | exact ⟨hb9, rfl, trivial⟩ | exact ⟨hb9, rfl⟩)); simp only [Act.put, List.setIfInBounds_toArray, List.set_cons_zero, List.set_cons_succ])
    | (refine Stab.wpX_call1 rfl rfl (fun _ _ _ _ => trivial) ?_; apply Exists.intro; refine ⟨fun wx hC _ _ => ?_, ?_⟩; (go_simp; refine ⟨rfl, ?_⟩; refine (holds_part _ _ _).mono ?_; rintro ev w9 ⟨rfl, hb9⟩; (first | (subst hb9; exact ⟨Ext.refl _, rfl, trivial⟩) | (subst hb9; exact ⟨Ext.refl _, rfl⟩) | exact ⟨hb9, rfl, trivial⟩ | exact ⟨hb9, rfl⟩)); simp only [Act.put, List.setIfInBounds_toArray, List.set_cons_zero, List.set_cons_succ]))
  refine Stab.wpX_new (fun u W => ∃ b, u = .slice (some ⟨b, 0, none⟩) 4 4 ∧ W.heap[b]? = some (.cells #[holdsV ⟨#[108, 97, 115, 116]⟩ (someI l.slast.i l.slast.t l.slast.k), holdsV ⟨#[109, 101, 109, 98, 101, 114, 115]⟩ (memR l.mems), holdsV ⟨#[115, 105, 122, 101]⟩ (inR l.size (if (l.sums.length : Int) * 200 - 200 + 1 < 0 then 0 else (l.sums.length : Int) * 200 - 200 + 1) (l.sums.length * 200)), holdsV ⟨#[115, 117, 109, 115]⟩ (decide ((l.sums.length : Int) ≤ 48))] 69)) rfl rfl (by kernel_rfl) (fun u W W' ⟨b, h1, h2⟩ hle => ⟨b, h1, hle.blk h2⟩) (fun _ _ _ _ => trivial) ?_ ?_
  · intro wx hC _
    refine yields_build 4 _ rfl _ ?_ _ (build4 (holdsV ⟨#[108, 97, 115, 116]⟩ (someI l.slast.i l.slast.t l.slast.k)) (holdsV ⟨#[109, 101, 109, 98, 101, 114, 115]⟩ (memR l.mems)) (holdsV ⟨#[115, 105, 122, 101]⟩ (inR l.size (if (l.sums.length : Int) * 200 - 200 + 1 < 0 then 0 else (l.sums.length : Int) * 200 - 200 + 1) (l.sums.length * 200))) (holdsV ⟨#[115, 117, 109, 115]⟩ (decide ((l.sums.length : Int) ≤ 48))) wx (holdsV_cells _ _) (holdsV_cells _ _) (holdsV_cells _ _) (holdsV_cells _ _))
    simp [Act.eval]
  rintro ul ⟨_, _, ⟨lb, rfl, _⟩, _⟩
  simp only [Act.put, List.setIfInBounds_toArray, List.set_cons_zero, List.set_cons_succ]
  refine Stab.wpX_call (fun u W => Err (0 + 1) W (snapOk l) u) (fun _ _ => True) rfl rfl (fun _ _ _ h he => h.ext he) (fun _ _ _ _ _ => trivial) ?_ ?_
  · intro wx hC _ hF
    obtain ⟨lb', hl1, hl2⟩ := (hF 22 (by kernel_rfl)).2 rfl
    obtain rfl : lb = lb' := by simpa using hl1
    go_simp
    refine ⟨rfl, ?_⟩
    refine (join_errs 0 (some ⟨lb, 0, none⟩) 4 [holdsV ⟨#[108, 97, 115, 116]⟩ (someI l.slast.i l.slast.t l.slast.k), holdsV ⟨#[109, 101, 109, 98, 101, 114, 115]⟩ (memR l.mems), holdsV ⟨#[115, 105, 122, 101]⟩ (inR l.size (if (l.sums.length : Int) * 200 - 200 + 1 < 0 then 0 else (l.sums.length : Int) * 200 - 200 + 1) (l.sums.length * 200)), holdsV ⟨#[115, 117, 109, 115]⟩ (decide ((l.sums.length : Int) ≤ 48))] [someI l.slast.i l.slast.t l.slast.k, memR l.mems, inR l.size (lowS l.sums.length) (l.sums.length * 200), decide ((l.sums.length : Int) ≤ 48)] (snapOk l) wx (rd_heap hl2) (by simp) (by simp [snapOk, lowS]) ⟨Err.holds _ _ _, Err.holds _ _ _, Err.holds _ _ _, Err.holds _ _ _, trivial⟩).mono ?_
    rintro ev w9 ⟨v, rfl, hEr, hE9⟩
    exact ⟨hE9, hEr⟩
  rintro uj ⟨_, _, _, _⟩
  simp only [Act.put, List.setIfInBounds_toArray, List.set_cons_zero, List.set_cons_succ]
  iterate 1 (refine Stab.wpX_val rfl rfl ?_; apply Exists.intro; refine ⟨fun wx hC _ => ?_, ?_⟩; (go_simp; (try simp (disch := omega) only [↓IntWalk.iteOmega, Stab.yieldsUpon_value, IntWalk.i64_in]); exact ⟨Ext.refl _, rfl⟩); simp only [Act.put, List.setIfInBounds_toArray, List.set_cons_zero, List.set_cons_succ])
  refine Stab.wpX_end fun w8 hC8 _ hF8 => ?_
  have hEr := (hF8 23).2 rfl
  go_wp2_with fail
  all_goals (go_ret; exact ⟨_, rfl, hEr, ((Ext.refl _).alloc _).trans hC8⟩)
def upP (n : Nat) : Int := if (n : Int) - 1 < 0 then 0 else (n : Int) - 1
def carriedOk (l : Let) : Bool := snapOk l && (inR l.piece 0 (upP l.sums.length) && decide ((l.bs.length : Int) ≤ 200))
set_option maxRecDepth 100000 in
set_option maxHeartbeats 2000000 in
theorem carried_any (l : Let) (w : World) (hin : l.inW w) :
    Calls Tryz.prog 62 #[.agg #[.int .i64 l.kind, .int .i64 l.frm, .int .i64 l.too, .int .i64 l.term, .int .i64 l.index, .int .i64 l.last.i, .int .i64 l.last.t, .int .i64 l.last.k, .int .i64 l.prev.i, .int .i64 l.prev.t, .int .i64 l.prev.k, .slice l.wA l.want.length l.wc, .int .i64 l.commit, .bool l.yes, .slice l.eA l.ents.length l.ec, .int .i64 l.slast.i, .int .i64 l.slast.t, .int .i64 l.slast.k, .slice l.mA l.mems.length l.mc, .int .i64 l.size, .slice l.uA l.sums.length l.uc, .int .i64 l.piece, .slice l.bA l.bs.length l.bc]] w (ErrPost 2 (carriedOk l) w) := by
  have hu2 := hin.u2
  have hb2 := hin.b2
  have HS := Lib.hid (fun w' (h : Ext w w') => snap_any l w' (hin.ext h))
  clear hin
  go_enter Tryz.func62, Tryz.ntmps62
  go_wp2_with fail
  have EB := Lib.hid (heap_alloc_new w (.cells #[.int .i64 l.kind, .int .i64 l.frm, .int .i64 l.too, .int .i64 l.term, .int .i64 l.index, .int .i64 l.last.i, .int .i64 l.last.t, .int .i64 l.last.k, .int .i64 l.prev.i, .int .i64 l.prev.t, .int .i64 l.prev.k, .slice l.wA l.want.length l.wc, .int .i64 l.commit, .bool l.yes, .slice l.eA l.ents.length l.ec, .int .i64 l.slast.i, .int .i64 l.slast.t, .int .i64 l.slast.k, .slice l.mA l.mems.length l.mc, .int .i64 l.size, .slice l.uA l.sums.length l.uc, .int .i64 l.piece, .slice l.bA l.bs.length l.bc] 44))
  refine Stab.wp_region_lex Ext (Ext _) (fun _ => True) (by kernel_rfl) (by kernel_rfl) (fun _ _ h => h) (fun _ _ h k => Ext.trans h k) (fun _ _ _ _ => trivial) ((Ext.refl _).drew) trivial ?_
  simp only [Stab.zipL, Nat.reduceAdd]
  iterate 2 (refine Stab.wpX_val rfl rfl ?_; apply Exists.intro; refine ⟨fun wx hC _ => ?_, ?_⟩; (have r := cell_of_heap (hC.blk EB.out); go_simp; (try simp (disch := omega) only [↓IntWalk.iteOmega, Stab.yieldsUpon_value, IntWalk.i64_in]); exact ⟨Ext.refl _, rfl⟩); simp only [Act.put, List.setIfInBounds_toArray, List.set_cons_zero, List.set_cons_succ])
  refine Stab.wpX_call (fun u W => Err 1 W (snapOk l) u) (fun _ _ => True) rfl rfl (fun _ _ _ h he => h.ext he) (fun _ _ _ _ _ => trivial) ?_ ?_
  · intro wx hC _ hF
    go_simp
    refine ⟨rfl, ?_⟩
    refine (HS.out _ (((Ext.refl _).alloc _).trans hC)).mono ?_
    rintro ev w9 ⟨v, rfl, hEr, hE9⟩
    exact ⟨hE9, hEr⟩
  rintro us ⟨_, _, _, _⟩
  simp only [Act.put, List.setIfInBounds_toArray, List.set_cons_zero, List.set_cons_succ]
  repeat (first
    | (refine Stab.wpX_val rfl rfl ?_; apply Exists.intro; refine ⟨fun wx hC _ => ?_, ?_⟩; (have r := cell_of_heap (hC.blk EB.out); go_simp; (try simp (disch := omega) only [↓IntWalk.iteOmega, Stab.yieldsUpon_value, IntWalk.i64_in]); exact ⟨Ext.refl _, rfl⟩); simp only [Act.put, List.setIfInBounds_toArray, List.set_cons_zero, List.set_cons_succ])
    | (refine Stab.wpX_call1 rfl rfl (fun _ _ _ _ => trivial) ?_; apply Exists.intro; refine ⟨fun wx hC _ _ => ?_, ?_⟩; (go_simp; refine ⟨rfl, ?_⟩; refine (within_any _ _ _ _).mono ?_; rintro ev w9 ⟨rfl, hb9⟩; (first | (subst hb9; exact ⟨Ext.refl _, rfl, trivial⟩) | (subst hb9; exact ⟨Ext.refl _, rfl⟩) | exact ⟨hb9, rfl, trivial⟩ | exact ⟨hb9, rfl⟩)); simp only [Act.put, List.setIfInBounds_toArray, List.set_cons_zero, List.set_cons_succ])
    | (refine Stab.wpX_call1 rfl rfl (fun _ _ _ _ => trivial) ?_; apply Exists.intro; refine ⟨fun wx hC _ _ => ?_, ?_⟩; (go_simp; refine ⟨rfl, ?_⟩; refine (holds_part _ _ _).mono ?_; rintro ev w9 ⟨rfl, hb9⟩; (first | (subst hb9; exact ⟨Ext.refl _, rfl, trivial⟩) | (subst hb9; exact ⟨Ext.refl _, rfl⟩) | exact ⟨hb9, rfl, trivial⟩ | exact ⟨hb9, rfl⟩)); simp only [Act.put, List.setIfInBounds_toArray, List.set_cons_zero, List.set_cons_succ]))
  refine Stab.wpX_new (fun u W => ∃ b, u = .slice (some ⟨b, 0, none⟩) 3 3 ∧ W.heap[b]? = some (.cells #[us, holdsV ⟨#[112, 105, 101, 99, 101]⟩ (inR l.piece 0 (if (l.sums.length : Int) - 1 < 0 then 0 else (l.sums.length : Int) - 1)), holdsV ⟨#[98, 121, 116, 101, 115]⟩ (decide ((l.bs.length : Int) ≤ 200))] 69)) rfl rfl (by kernel_rfl) (fun u W W' ⟨b, h1, h2⟩ hle => ⟨b, h1, hle.blk h2⟩) (fun _ _ _ _ => trivial) ?_ ?_
  · intro wx hC hF
    refine yields_build 3 _ rfl _ ?_ _ (build3 (us) (holdsV ⟨#[112, 105, 101, 99, 101]⟩ (inR l.piece 0 (if (l.sums.length : Int) - 1 < 0 then 0 else (l.sums.length : Int) - 1))) (holdsV ⟨#[98, 121, 116, 101, 115]⟩ (decide ((l.bs.length : Int) ≤ 200))) wx ((hF 2 (by kernel_rfl)).2 rfl).cells (holdsV_cells _ _) (holdsV_cells _ _))
    simp [Act.eval]
  rintro ul ⟨_, _, ⟨lb, rfl, _⟩, _⟩
  simp only [Act.put, List.setIfInBounds_toArray, List.set_cons_zero, List.set_cons_succ]
  refine Stab.wpX_call (fun u W => Err (1 + 1) W (carriedOk l) u) (fun _ _ => True) rfl rfl (fun _ _ _ h he => h.ext he) (fun _ _ _ _ _ => trivial) ?_ ?_
  · intro wx hC _ hF
    obtain ⟨lb', hl1, hl2⟩ := (hF 18 (by kernel_rfl)).2 rfl
    obtain rfl : lb = lb' := by simpa using hl1
    go_simp
    refine ⟨rfl, ?_⟩
    refine (join_errs 1 (some ⟨lb, 0, none⟩) 3 [us, holdsV ⟨#[112, 105, 101, 99, 101]⟩ (inR l.piece 0 (if (l.sums.length : Int) - 1 < 0 then 0 else (l.sums.length : Int) - 1)), holdsV ⟨#[98, 121, 116, 101, 115]⟩ (decide ((l.bs.length : Int) ≤ 200))] [snapOk l, inR l.piece 0 (if (l.sums.length : Int) - 1 < 0 then 0 else (l.sums.length : Int) - 1), decide ((l.bs.length : Int) ≤ 200)] (carriedOk l) wx (rd_heap hl2) (by simp) (by simp [carriedOk, upP]) ⟨(hF 2 (by kernel_rfl)).1.2 rfl, (Err.holds _ _ _).le (by omega), (Err.holds _ _ _).le (by omega), trivial⟩).mono ?_
    rintro ev w9 ⟨v, rfl, hEr, hE9⟩
    exact ⟨hE9, hEr⟩
  rintro uj ⟨_, _, _, _⟩
  simp only [Act.put, List.setIfInBounds_toArray, List.set_cons_zero, List.set_cons_succ]
  iterate 1 (refine Stab.wpX_val rfl rfl ?_; apply Exists.intro; refine ⟨fun wx hC _ => ?_, ?_⟩; (go_simp; (try simp (disch := omega) only [↓IntWalk.iteOmega, Stab.yieldsUpon_value, IntWalk.i64_in]); exact ⟨Ext.refl _, rfl⟩); simp only [Act.put, List.setIfInBounds_toArray, List.set_cons_zero, List.set_cons_succ])
  refine Stab.wpX_end fun w8 hC8 _ hF8 => ?_
  have hEr := (hF8 19).2 rfl
  go_wp2_with fail
  all_goals (go_ret; exact ⟨_, rfl, hEr, ((Ext.refl _).alloc _).trans hC8⟩)
end Go.Proofs.YtigljihohpdpeaaGreatDoor
