/-
  A letter; snap, carried.
  snap, carried.
  has: a letter's own parts, and what is wrong of them.
-/
import Derived.Test.YtjnllilmimngoaaGreatDoorM5
namespace Go.Proofs.YtjnllilmimngoaaGreatDoor
open Go.RowKit

structure Let where
  kind : Int
  frm : Int
  too : Int
  term : Int
  index : Int
  last : Id
  prev : Id
  wA : Option Addr
  wc : Nat
  want : List Id
  commit : Int
  yes : Bool
  eA : Option Addr
  ec : Nat
  ents : List Ent
  slast : Id
  mA : Option Addr
  mc : Nat
  mems : List Int
  size : Int
  uA : Option Addr
  uc : Nat
  sums : List Int
  piece : Int
  bA : Option Addr
  bc : Nat
  bs : List Int
def Let.arr (l : Let) : Array Value := #[.int .i64 l.kind, .int .i64 l.frm, .int .i64 l.too, .int .i64 l.term, .int .i64 l.index, .int .i64 l.last.i, .int .i64 l.last.t, .int .i64 l.last.k, .int .i64 l.prev.i, .int .i64 l.prev.t, .int .i64 l.prev.k, .slice l.wA l.want.length l.wc, .int .i64 l.commit, .bool l.yes, .slice l.eA l.ents.length l.ec, .int .i64 l.slast.i, .int .i64 l.slast.t, .int .i64 l.slast.k, .slice l.mA l.mems.length l.mc, .int .i64 l.size, .slice l.uA l.sums.length l.uc, .int .i64 l.piece, .slice l.bA l.bs.length l.bc]
def Let.v (l : Let) : Value := .agg l.arr
structure Let.inW (w : World) (l : Let) : Prop where
  w1 : IdsIn w l.wA l.want
  e1 : EntsIn w l.eA l.ents
  m1 : Rd w l.mA (l.mems.map (.int .i64))
  u1 : Rd w l.uA (l.sums.map (.int .u32))
  b1 : Rd w l.bA (l.bs.map (.int .u8))
  w2 : l.want.length ≤ 140737488355328
  e2 : l.ents.length ≤ 140737488355328
  m2 : l.mems.length ≤ 140737488355328
  u2 : l.sums.length ≤ 140737488355328
  b2 : l.bs.length ≤ 140737488355328
  u3 : ∀ x ∈ l.sums, 0 ≤ x ∧ x ≤ 4294967295
theorem Let.inW.ext {w w' : World} {l : Let} (h : l.inW w) (he : Ext w w') : l.inW w' :=
  ⟨h.w1.ext he, h.e1.ext he, h.m1.ext he, h.u1.ext he, h.b1.ext he, h.w2, h.e2, h.m2, h.u2, h.b2, h.u3⟩

theorem rd_heap {w : World} {b : Nat} {vs : List Value} {t : TypeId} (h : w.heap[b]? = some (.cells vs.toArray t)) : Rd w (some ⟨b, 0, none⟩) vs := fun j u hj => by
  refine ⟨_, rfl, ?_⟩
  rw [add_lit', Nat.zero_add, cell_of_heap h]
  simpa using hj

def Errs (d : Nat) (w : World) : List Bool → List Value → Prop
  | [], [] => True
  | ok :: oks, v :: vs => Err d w ok v ∧ Errs d w oks vs
  | _, _ => False
theorem Err.nilOr {d : Nat} {w : World} {ok : Bool} {v : Value} (h : Err d w ok v) : NilOr v := by
  cases ok
  · have h' : Bad d w v := h
    clear h
    induction d generalizing v with
    | zero => obtain ⟨s, rfl⟩ := h'; exact .inr ⟨_, _, rfl⟩
    | succ d ih =>
      rcases h' with h' | ⟨j, a, n, c, v0, rfl, _⟩
      · exact ih h'
      · exact .inr ⟨_, _, rfl⟩
  · exact .inl h
theorem Err.no {d : Nat} {w : World} {v : Value} (h : Err d w false v) : ∃ T x, v = .iface T x := by
  have h' : Bad d w v := h
  clear h
  induction d generalizing v with
  | zero => obtain ⟨s, rfl⟩ := h'; exact ⟨_, _, rfl⟩
  | succ d ih =>
    rcases h' with h' | ⟨j, a, n, c, v0, rfl, _⟩
    · exact ih h'
    · exact ⟨_, _, rfl⟩
theorem Errs.nilOr {d : Nat} {w : World} {oks : List Bool} {vs : List Value} (h : Errs d w oks vs) : ∀ v ∈ vs, NilOr v := by
  induction oks generalizing vs with
  | nil => cases vs with
    | nil => simp
    | cons v vs => exact h.elim
  | cons ok oks ih => cases vs with
    | nil => exact h.elim
    | cons v vs =>
      intro x hx
      rcases List.mem_cons.1 hx with rfl | hx
      · exact h.1.nilOr
      · exact ih h.2 x hx
theorem Errs.all {d : Nat} {w : World} {oks : List Bool} {vs : List Value} (h : Errs d w oks vs) (ha : oks.all id = true) : ∀ v ∈ vs, v = .nilIface := by
  induction oks generalizing vs with
  | nil => cases vs with
    | nil => simp
    | cons v vs => exact h.elim
  | cons ok oks ih => cases vs with
    | nil => exact h.elim
    | cons v vs =>
      simp only [List.all_cons, Bool.and_eq_true, id] at ha
      intro x hx
      rcases List.mem_cons.1 hx with rfl | hx
      · have h1 := h.1; rw [ha.1] at h1; exact h1
      · exact ih h.2 ha.2 x hx
theorem Errs.some_ {d : Nat} {w : World} {oks : List Bool} {vs : List Value} (h : Errs d w oks vs) (ha : oks.all id = false) : ∃ v0 r, errsOf vs = v0 :: r ∧ Bad d w v0 := by
  induction oks generalizing vs with
  | nil => simp at ha
  | cons ok oks ih => cases vs with
    | nil => exact h.elim
    | cons v vs =>
      cases ok with
      | false =>
        obtain ⟨T, x, hx⟩ := h.1.no
        refine ⟨v, errsOf vs, ?_, h.1⟩
        subst hx
        simp [errsOf, isNil]
      | true =>
        have h1 : v = .nilIface := h.1
        subst h1
        obtain ⟨v0, r, h2, h3⟩ := ih h.2 (by simpa using ha)
        exact ⟨v0, r, by simpa [errsOf, isNil] using h2, h3⟩

theorem join_errs (d : Nat) (A : Option Addr) (c : Nat) (vs : List Value) (oks : List Bool) (ok : Bool) (w : World) (hA : Rd w A vs) (hl : vs.length ≤ 1000000) (hok : oks.all id = ok) (h : Errs d w oks vs) :
    Calls Tryz.prog 131 #[.slice A vs.length c] w (ErrPost (d + 1) ok w) := by
  subst hok
  cases ha : oks.all id with
  | true => exact (join_none A c vs w hA hl (h.all ha)).mono fun e w' ⟨he, hE⟩ => ⟨_, he, rfl, hE⟩
  | false =>
    obtain ⟨v0, r, h2, h3⟩ := h.some_ ha
    refine (join_some A c vs w hA hl h.nilOr (by rw [h2]; simp)).mono fun e w' ⟨j, a, c', he, hc, hr, hE⟩ => ⟨_, he, ?_, hE⟩
    show Bad (d + 1) w' _
    refine .inr ⟨j, a, (errsOf vs).length, c', v0, rfl, hc, by rw [h2]; simp, ?_, h3.ext hE⟩
    obtain ⟨ad, had, hcell⟩ := hr 0 v0 (by rw [h2]; rfl)
    injection had with had
    subst had
    simpa [Addr.add] using hcell

theorem holdsV_cells (s : ByteArray) (ok : Bool) : (holdsV s ok).cells = #[holdsV s ok] := by cases ok <;> rfl
theorem Err.cells {d : Nat} {w : World} {ok : Bool} {v : Value} (h : Err d w ok v) : v.cells = #[v] := by
  rcases h.nilOr with rfl | ⟨T, x, rfl⟩ <;> rfl
theorem build2 (a b : Value) (w : World) (ha : a.cells = #[a]) (hb : b.cells = #[b]) : (Instr.buildSlice 224 2 #[(0, a), (1, b)]).run Tryz.prog w = .ok (.slice (some ⟨w.heap.size, 0, none⟩) 2 2) (w.alloc (.cells #[a, b] 101)) := by
  obtain ⟨i0, hi, hz0, hz1, hz2⟩ := info_parts Tryz.infoErr
  simp [Instr.buildSlice, run_underlying Tryz.underlying224, sizeOf, typeInfo, hi, hz1, zeroValue, hz0, Instr.fill, ha, hb, newRow, show Value.nilIface.cells = #[Value.nilIface] from rfl, show Array.range 2 = #[0, 1] from by decide]
theorem build3 (a b c : Value) (w : World) (ha : a.cells = #[a]) (hb : b.cells = #[b]) (hc : c.cells = #[c]) : (Instr.buildSlice 224 3 #[(0, a), (1, b), (2, c)]).run Tryz.prog w = .ok (.slice (some ⟨w.heap.size, 0, none⟩) 3 3) (w.alloc (.cells #[a, b, c] 101)) := by
  obtain ⟨i0, hi, hz0, hz1, hz2⟩ := info_parts Tryz.infoErr
  simp [Instr.buildSlice, run_underlying Tryz.underlying224, sizeOf, typeInfo, hi, hz1, zeroValue, hz0, Instr.fill, ha, hb, hc, newRow, show Value.nilIface.cells = #[Value.nilIface] from rfl, show Array.range 3 = #[0, 1, 2] from by decide]
theorem build4 (a b c d : Value) (w : World) (ha : a.cells = #[a]) (hb : b.cells = #[b]) (hc : c.cells = #[c]) (hd : d.cells = #[d]) : (Instr.buildSlice 224 4 #[(0, a), (1, b), (2, c), (3, d)]).run Tryz.prog w = .ok (.slice (some ⟨w.heap.size, 0, none⟩) 4 4) (w.alloc (.cells #[a, b, c, d] 101)) := by
  obtain ⟨i0, hi, hz0, hz1, hz2⟩ := info_parts Tryz.infoErr
  simp [Instr.buildSlice, run_underlying Tryz.underlying224, sizeOf, typeInfo, hi, hz1, zeroValue, hz0, Instr.fill, ha, hb, hc, hd, newRow, show Value.nilIface.cells = #[Value.nilIface] from rfl, show Array.range 4 = #[0, 1, 2, 3] from by decide]
theorem yields_build {o : Oper} {a : Act} {w : World} (n : Nat) (parts : Array (Nat × Operand)) (ho : o.op = .buildSlice 224 n parts) (q : Array (Nat × Value)) (hq : (parts.map fun (i, x) => (i, a.eval x)) = q) (cs : Array Value)
    (hrun : (Instr.buildSlice 224 n q).run Tryz.prog w = .ok (.slice (some ⟨w.heap.size, 0, none⟩) n n) (w.alloc (.cells cs 101))) :
    Stab.yields Tryz.prog o a w (fun u w' => Ext w w' ∧ ∃ b, u = .slice (some ⟨b, 0, none⟩) n n ∧ w'.heap[b]? = some (.cells cs 101)) := by
  subst hq
  unfold Stab.yields execOp
  simp only [ho, Sem.run_bind, hrun, Result.andThen_ok, Sem.run_pure, Stab.yieldsUpon_value]
  first | exact ⟨(Ext.refl _).alloc _, _, rfl, heap_alloc_new w _⟩ | skip
end Go.Proofs.YtjnllilmimngoaaGreatDoor
namespace Go.Proofs.YtjnllilmimngoaaGreatDoor
open Go.RowKit

def lowS (n : Nat) : Int := if (n : Int) * 200 - 200 + 1 < 0 then 0 else (n : Int) * 200 - 200 + 1
def snapOk (l : Let) : Bool := someI l.slast.i l.slast.t l.slast.k && (memR l.mems && (inR l.size (lowS l.sums.length) (l.sums.length * 200) && decide ((l.sums.length : Int) ≤ 48)))
set_option maxRecDepth 100000 in
set_option maxHeartbeats 1000000 in
theorem snap_any (l : Let) (w : World) (hin : l.inW w) :
    Calls Tryz.prog 172 #[.agg #[.int .i64 l.slast.i, .int .i64 l.slast.t, .int .i64 l.slast.k, .slice l.mA l.mems.length l.mc, .int .i64 l.size, .slice l.uA l.sums.length l.uc]] w (ErrPost 1 (snapOk l) w) := by
  have hM := hin.m1
  have hm2 := hin.m2
  have hu2 := hin.u2
  have HM := Lib.hid (fun w' (h : Ext w w') => members_any l.mA l.mc l.mems w' (hM.ext h) (by unfold maxLen; omega))
  have HSO := Lib.hid (fun w' => someones_any l.slast.i l.slast.t l.slast.k w')
  unfold idV at HSO
  clear hin hM
  go_enter Tryz.func172, Tryz.ntmps172
  go_wp2_with fail
  have EB := Lib.hid (heap_alloc_new w (.cells #[.int .i64 l.slast.i, .int .i64 l.slast.t, .int .i64 l.slast.k, .slice l.mA l.mems.length l.mc, .int .i64 l.size, .slice l.uA l.sums.length l.uc] 32))
  refine Stab.wp_region_lex Ext (Ext _) (fun _ => True) (by kernel_rfl) (by kernel_rfl) (fun _ _ h => h) (fun _ _ h k => Ext.trans h k) (fun _ _ _ _ => trivial) ((Ext.refl _).drew) trivial ?_
  simp only [Stab.zipL, Nat.reduceAdd]
  repeat (first
    | (refine Stab.wpX_val rfl rfl ?_; apply Exists.intro; refine ⟨fun wx hC _ => ?_, ?_⟩; (have r := cell_of_heap (hC.blk EB.out); go_simp; (try simp (disch := omega) only [IntWalk.i64_in]); exact ⟨Ext.refl _, rfl⟩); simp only [Act.put, List.setIfInBounds_toArray, List.set_cons_zero, List.set_cons_succ])
    | (refine Stab.wpX_call1 rfl rfl (fun _ _ _ _ => trivial) ?_; apply Exists.intro; refine ⟨fun wx hC _ _ => ?_, ?_⟩; (go_simp; refine ⟨rfl, ?_⟩; refine (HSO.out _).mono ?_; rintro ev w9 ⟨rfl, hb9⟩; (first | (subst hb9; exact ⟨Ext.refl _, rfl, trivial⟩) | (subst hb9; exact ⟨Ext.refl _, rfl⟩) | exact ⟨hb9, rfl, trivial⟩ | exact ⟨hb9, rfl⟩)); simp only [Act.put, List.setIfInBounds_toArray, List.set_cons_zero, List.set_cons_succ])
    | (refine Stab.wpX_call1 rfl rfl (fun _ _ _ _ => trivial) ?_; apply Exists.intro; refine ⟨fun wx hC _ _ => ?_, ?_⟩; (go_simp; refine ⟨rfl, ?_⟩; refine (HM.out _ (((Ext.refl _).alloc _).trans hC)).mono ?_; rintro ev w9 ⟨rfl, hb9⟩; (first | (subst hb9; exact ⟨Ext.refl _, rfl, trivial⟩) | (subst hb9; exact ⟨Ext.refl _, rfl⟩) | exact ⟨hb9, rfl, trivial⟩ | exact ⟨hb9, rfl⟩)); simp only [Act.put, List.setIfInBounds_toArray, List.set_cons_zero, List.set_cons_succ])
    | (refine Stab.wpX_call1 rfl rfl (fun _ _ _ _ => trivial) ?_; apply Exists.intro; refine ⟨fun wx hC _ _ => ?_, ?_⟩; (go_simp; refine ⟨rfl, ?_⟩; refine (within_any _ _ _ _).mono ?_; rintro ev w9 ⟨rfl, hb9⟩; (first | (subst hb9; exact ⟨Ext.refl _, rfl, trivial⟩) | (subst hb9; exact ⟨Ext.refl _, rfl⟩) | exact ⟨hb9, rfl, trivial⟩ | exact ⟨hb9, rfl⟩)); simp only [Act.put, List.setIfInBounds_toArray, List.set_cons_zero, List.set_cons_succ])
    | (refine Stab.wpX_call1 rfl rfl (fun _ _ _ _ => trivial) ?_; apply Exists.intro; refine ⟨fun wx hC _ _ => ?_, ?_⟩; (go_simp; refine ⟨rfl, ?_⟩; refine (holds_part _ _ _).mono ?_; rintro ev w9 ⟨rfl, hb9⟩; (first | (subst hb9; exact ⟨Ext.refl _, rfl, trivial⟩) | (subst hb9; exact ⟨Ext.refl _, rfl⟩) | exact ⟨hb9, rfl, trivial⟩ | exact ⟨hb9, rfl⟩)); simp only [Act.put, List.setIfInBounds_toArray, List.set_cons_zero, List.set_cons_succ]))
  refine Stab.wpX_new (fun u W => ∃ b, u = .slice (some ⟨b, 0, none⟩) 4 4 ∧ W.heap[b]? = some (.cells #[holdsV ⟨#[108, 97, 115, 116]⟩ (someI l.slast.i l.slast.t l.slast.k), holdsV ⟨#[109, 101, 109, 98, 101, 114, 115]⟩ (memR l.mems), holdsV ⟨#[115, 105, 122, 101]⟩ (inR l.size (if (l.sums.length : Int) * 200 - 200 + 1 < 0 then 0 else (l.sums.length : Int) * 200 - 200 + 1) (l.sums.length * 200)), holdsV ⟨#[115, 117, 109, 115]⟩ (decide ((l.sums.length : Int) ≤ 48))] 101)) rfl rfl (by kernel_rfl) (fun u W W' ⟨b, h1, h2⟩ hle => ⟨b, h1, hle.blk h2⟩) (fun _ _ _ _ => trivial) ?_ ?_
  · intro wx hC _
    refine yields_build 4 _ rfl _ ?_ _ (build4 (holdsV ⟨#[108, 97, 115, 116]⟩ (someI l.slast.i l.slast.t l.slast.k)) (holdsV ⟨#[109, 101, 109, 98, 101, 114, 115]⟩ (memR l.mems)) (holdsV ⟨#[115, 105, 122, 101]⟩ (inR l.size (if (l.sums.length : Int) * 200 - 200 + 1 < 0 then 0 else (l.sums.length : Int) * 200 - 200 + 1) (l.sums.length * 200))) (holdsV ⟨#[115, 117, 109, 115]⟩ (decide ((l.sums.length : Int) ≤ 48))) wx (holdsV_cells _ _) (holdsV_cells _ _) (holdsV_cells _ _) (holdsV_cells _ _))
    simp [Act.eval]
  rintro ul ⟨_, _, ⟨lb, rfl, _⟩, _⟩
  simp only [Act.put, List.setIfInBounds_toArray, List.set_cons_zero, List.set_cons_succ]
  refine Stab.wpX_call (fun u W => Err (0 + 1) W (snapOk l) u) (fun _ _ => True) rfl rfl (fun _ _ _ h he => h.ext he) (fun _ _ _ _ _ => trivial) ?_ ?_
  · intro wx hC _ hF
    obtain ⟨lb', hl1, hl2⟩ := (hF 22 (by kernel_rfl)).2 rfl
    obtain rfl : lb = lb' := by simpa using hl1
    go_simp
    refine ⟨rfl, ?_⟩
    refine (join_errs 0 (some ⟨lb, 0, none⟩) 4 [holdsV ⟨#[108, 97, 115, 116]⟩ (someI l.slast.i l.slast.t l.slast.k), holdsV ⟨#[109, 101, 109, 98, 101, 114, 115]⟩ (memR l.mems), holdsV ⟨#[115, 105, 122, 101]⟩ (inR l.size (if (l.sums.length : Int) * 200 - 200 + 1 < 0 then 0 else (l.sums.length : Int) * 200 - 200 + 1) (l.sums.length * 200)), holdsV ⟨#[115, 117, 109, 115]⟩ (decide ((l.sums.length : Int) ≤ 48))] [someI l.slast.i l.slast.t l.slast.k, memR l.mems, inR l.size (lowS l.sums.length) (l.sums.length * 200), decide ((l.sums.length : Int) ≤ 48)] (snapOk l) wx (rd_heap hl2) (by simp) (by simp [snapOk, lowS]) ⟨Err.holds _ _ _, Err.holds _ _ _, Err.holds _ _ _, Err.holds _ _ _, trivial⟩).mono ?_
    rintro ev w9 ⟨v, rfl, hEr, hE9⟩
    exact ⟨hE9, hEr⟩
  rintro uj ⟨_, _, _, _⟩
  simp only [Act.put, List.setIfInBounds_toArray, List.set_cons_zero, List.set_cons_succ]
  iterate 1 (refine Stab.wpX_val rfl rfl ?_; apply Exists.intro; refine ⟨fun wx hC _ => ?_, ?_⟩; (go_simp; (try simp (disch := omega) only [↓IntWalk.iteOmega, Stab.yieldsUpon_value, IntWalk.i64_in]); exact ⟨Ext.refl _, rfl⟩); simp only [Act.put, List.setIfInBounds_toArray, List.set_cons_zero, List.set_cons_succ])
  refine Stab.wpX_end fun w8 hC8 _ hF8 => ?_
  have hEr := (hF8 23).2 rfl
  go_wp2_with fail
  all_goals (go_ret; exact ⟨_, rfl, hEr, ((Ext.refl _).alloc _).trans hC8⟩)
def upP (n : Nat) : Int := if (n : Int) - 1 < 0 then 0 else (n : Int) - 1
def carriedOk (l : Let) : Bool := snapOk l && (inR l.piece 0 (upP l.sums.length) && decide ((l.bs.length : Int) ≤ 200))
set_option maxRecDepth 100000 in
set_option maxHeartbeats 2000000 in
theorem carried_any (l : Let) (w : World) (hin : l.inW w) :
    Calls Tryz.prog 158 #[.agg #[.int .i64 l.kind, .int .i64 l.frm, .int .i64 l.too, .int .i64 l.term, .int .i64 l.index, .int .i64 l.last.i, .int .i64 l.last.t, .int .i64 l.last.k, .int .i64 l.prev.i, .int .i64 l.prev.t, .int .i64 l.prev.k, .slice l.wA l.want.length l.wc, .int .i64 l.commit, .bool l.yes, .slice l.eA l.ents.length l.ec, .int .i64 l.slast.i, .int .i64 l.slast.t, .int .i64 l.slast.k, .slice l.mA l.mems.length l.mc, .int .i64 l.size, .slice l.uA l.sums.length l.uc, .int .i64 l.piece, .slice l.bA l.bs.length l.bc]] w (ErrPost 2 (carriedOk l) w) := by
  have hu2 := hin.u2
  have hb2 := hin.b2
  have HS := Lib.hid (fun w' (h : Ext w w') => snap_any l w' (hin.ext h))
  clear hin
  go_enter Tryz.func158, Tryz.ntmps158
  go_wp2_with fail
  have EB := Lib.hid (heap_alloc_new w (.cells #[.int .i64 l.kind, .int .i64 l.frm, .int .i64 l.too, .int .i64 l.term, .int .i64 l.index, .int .i64 l.last.i, .int .i64 l.last.t, .int .i64 l.last.k, .int .i64 l.prev.i, .int .i64 l.prev.t, .int .i64 l.prev.k, .slice l.wA l.want.length l.wc, .int .i64 l.commit, .bool l.yes, .slice l.eA l.ents.length l.ec, .int .i64 l.slast.i, .int .i64 l.slast.t, .int .i64 l.slast.k, .slice l.mA l.mems.length l.mc, .int .i64 l.size, .slice l.uA l.sums.length l.uc, .int .i64 l.piece, .slice l.bA l.bs.length l.bc] 35))
  refine Stab.wp_region_lex Ext (Ext _) (fun _ => True) (by kernel_rfl) (by kernel_rfl) (fun _ _ h => h) (fun _ _ h k => Ext.trans h k) (fun _ _ _ _ => trivial) ((Ext.refl _).drew) trivial ?_
  simp only [Stab.zipL, Nat.reduceAdd]
  iterate 2 (refine Stab.wpX_val rfl rfl ?_; apply Exists.intro; refine ⟨fun wx hC _ => ?_, ?_⟩; (have r := cell_of_heap (hC.blk EB.out); go_simp; (try simp (disch := omega) only [↓IntWalk.iteOmega, Stab.yieldsUpon_value, IntWalk.i64_in]); exact ⟨Ext.refl _, rfl⟩); simp only [Act.put, List.setIfInBounds_toArray, List.set_cons_zero, List.set_cons_succ])
  refine Stab.wpX_call (fun u W => Err 1 W (snapOk l) u) (fun _ _ => True) rfl rfl (fun _ _ _ h he => h.ext he) (fun _ _ _ _ _ => trivial) ?_ ?_
  · intro wx hC _ hF
    go_simp
    refine ⟨rfl, ?_⟩
    refine (HS.out _ (((Ext.refl _).alloc _).trans hC)).mono ?_
    rintro ev w9 ⟨v, rfl, hEr, hE9⟩
    exact ⟨hE9, hEr⟩
  rintro us ⟨_, _, _, _⟩
  simp only [Act.put, List.setIfInBounds_toArray, List.set_cons_zero, List.set_cons_succ]
  repeat (first
    | (refine Stab.wpX_val rfl rfl ?_; apply Exists.intro; refine ⟨fun wx hC _ => ?_, ?_⟩; (have r := cell_of_heap (hC.blk EB.out); go_simp; (try simp (disch := omega) only [IntWalk.i64_in]); exact ⟨Ext.refl _, rfl⟩); simp only [Act.put, List.setIfInBounds_toArray, List.set_cons_zero, List.set_cons_succ])
    | (refine Stab.wpX_call1 rfl rfl (fun _ _ _ _ => trivial) ?_; apply Exists.intro; refine ⟨fun wx hC _ _ => ?_, ?_⟩; (go_simp; refine ⟨rfl, ?_⟩; refine (within_any _ _ _ _).mono ?_; rintro ev w9 ⟨rfl, hb9⟩; (first | (subst hb9; exact ⟨Ext.refl _, rfl, trivial⟩) | (subst hb9; exact ⟨Ext.refl _, rfl⟩) | exact ⟨hb9, rfl, trivial⟩ | exact ⟨hb9, rfl⟩)); simp only [Act.put, List.setIfInBounds_toArray, List.set_cons_zero, List.set_cons_succ])
    | (refine Stab.wpX_call1 rfl rfl (fun _ _ _ _ => trivial) ?_; apply Exists.intro; refine ⟨fun wx hC _ _ => ?_, ?_⟩; (go_simp; refine ⟨rfl, ?_⟩; refine (holds_part _ _ _).mono ?_; rintro ev w9 ⟨rfl, hb9⟩; (first | (subst hb9; exact ⟨Ext.refl _, rfl, trivial⟩) | (subst hb9; exact ⟨Ext.refl _, rfl⟩) | exact ⟨hb9, rfl, trivial⟩ | exact ⟨hb9, rfl⟩)); simp only [Act.put, List.setIfInBounds_toArray, List.set_cons_zero, List.set_cons_succ]))
  refine Stab.wpX_new (fun u W => ∃ b, u = .slice (some ⟨b, 0, none⟩) 3 3 ∧ W.heap[b]? = some (.cells #[us, holdsV ⟨#[112, 105, 101, 99, 101]⟩ (inR l.piece 0 (if (l.sums.length : Int) - 1 < 0 then 0 else (l.sums.length : Int) - 1)), holdsV ⟨#[98, 121, 116, 101, 115]⟩ (decide ((l.bs.length : Int) ≤ 200))] 101)) rfl rfl (by kernel_rfl) (fun u W W' ⟨b, h1, h2⟩ hle => ⟨b, h1, hle.blk h2⟩) (fun _ _ _ _ => trivial) ?_ ?_
  · intro wx hC hF
    refine yields_build 3 _ rfl _ ?_ _ (build3 (us) (holdsV ⟨#[112, 105, 101, 99, 101]⟩ (inR l.piece 0 (if (l.sums.length : Int) - 1 < 0 then 0 else (l.sums.length : Int) - 1))) (holdsV ⟨#[98, 121, 116, 101, 115]⟩ (decide ((l.bs.length : Int) ≤ 200))) wx ((hF 2 (by kernel_rfl)).2 rfl).cells (holdsV_cells _ _) (holdsV_cells _ _))
    simp [Act.eval]
  rintro ul ⟨_, _, ⟨lb, rfl, _⟩, _⟩
  simp only [Act.put, List.setIfInBounds_toArray, List.set_cons_zero, List.set_cons_succ]
  refine Stab.wpX_call (fun u W => Err (1 + 1) W (carriedOk l) u) (fun _ _ => True) rfl rfl (fun _ _ _ h he => h.ext he) (fun _ _ _ _ _ => trivial) ?_ ?_
  · intro wx hC _ hF
    obtain ⟨lb', hl1, hl2⟩ := (hF 18 (by kernel_rfl)).2 rfl
    obtain rfl : lb = lb' := by simpa using hl1
    go_simp
    refine ⟨rfl, ?_⟩
    refine (join_errs 1 (some ⟨lb, 0, none⟩) 3 [us, holdsV ⟨#[112, 105, 101, 99, 101]⟩ (inR l.piece 0 (if (l.sums.length : Int) - 1 < 0 then 0 else (l.sums.length : Int) - 1)), holdsV ⟨#[98, 121, 116, 101, 115]⟩ (decide ((l.bs.length : Int) ≤ 200))] [snapOk l, inR l.piece 0 (if (l.sums.length : Int) - 1 < 0 then 0 else (l.sums.length : Int) - 1), decide ((l.bs.length : Int) ≤ 200)] (carriedOk l) wx (rd_heap hl2) (by simp) (by simp [carriedOk, upP]) ⟨(hF 2 (by kernel_rfl)).1.2 rfl, (Err.holds _ _ _).le (by omega), (Err.holds _ _ _).le (by omega), trivial⟩).mono ?_
    rintro ev w9 ⟨v, rfl, hEr, hE9⟩
    exact ⟨hE9, hEr⟩
  rintro uj ⟨_, _, _, _⟩
  simp only [Act.put, List.setIfInBounds_toArray, List.set_cons_zero, List.set_cons_succ]
  iterate 1 (refine Stab.wpX_val rfl rfl ?_; apply Exists.intro; refine ⟨fun wx hC _ => ?_, ?_⟩; (go_simp; (try simp (disch := omega) only [↓IntWalk.iteOmega, Stab.yieldsUpon_value, IntWalk.i64_in]); exact ⟨Ext.refl _, rfl⟩); simp only [Act.put, List.setIfInBounds_toArray, List.set_cons_zero, List.set_cons_succ])
  refine Stab.wpX_end fun w8 hC8 _ hF8 => ?_
  have hEr := (hF8 19).2 rfl
  go_wp2_with fail
  all_goals (go_ret; exact ⟨_, rfl, hEr, ((Ext.refl _).alloc _).trans hC8⟩)
end Go.Proofs.YtjnllilmimngoaaGreatDoor
namespace Go.Proofs.YtjnllilmimngoaaGreatDoor
open Go.RowKit

theorem setId {w : World} {b : Nat} {cs : Array Value} {t : TypeId} (h : w.heap[b]? = some (.cells cs t)) (k : Nat) (v : Value) (hv : cs[k]? = some v) : w.setCell ⟨b, k, none⟩ v = w := by
  have hc : cs.setIfInBounds k v = cs := by
    apply Array.ext_getElem?
    intro i
    rw [Array.getElem?_setIfInBounds]
    by_cases hk : k = i
    · subst hk
      rw [if_pos rfl]
      have hl := (Array.getElem?_eq_some_iff.1 hv).1
      simp [hl]
      exact (Array.getElem?_eq_some_iff.1 hv).2.symm
    · rw [if_neg hk]
  have hh : (w.setCell ⟨b, k, none⟩ v).heap = w.heap := by
    apply Array.ext_getElem?
    intro i
    by_cases hi : b = i
    · subst hi
      rw [heap_set h, hc, h]
    · exact Below.heap_setCell w _ _ i (fun e => hi (by simpa using e.symm))
  have h2 : w.setCell ⟨b, k, none⟩ v = { w with heap := (w.setCell ⟨b, k, none⟩ v).heap } := rfl
  rw [h2, hh]
theorem Let.get0 (l : Let) : l.arr[0]? = some (.int .i64 l.kind) := rfl
attribute [go_sem] Let.get0
theorem Let.get1 (l : Let) : l.arr[1]? = some (.int .i64 l.frm) := rfl
attribute [go_sem] Let.get1
theorem Let.get2 (l : Let) : l.arr[2]? = some (.int .i64 l.too) := rfl
attribute [go_sem] Let.get2
theorem Let.get3 (l : Let) : l.arr[3]? = some (.int .i64 l.term) := rfl
attribute [go_sem] Let.get3
theorem Let.get4 (l : Let) : l.arr[4]? = some (.int .i64 l.index) := rfl
attribute [go_sem] Let.get4
theorem Let.get5 (l : Let) : l.arr[5]? = some (.int .i64 l.last.i) := rfl
attribute [go_sem] Let.get5
theorem Let.get6 (l : Let) : l.arr[6]? = some (.int .i64 l.last.t) := rfl
attribute [go_sem] Let.get6
theorem Let.get7 (l : Let) : l.arr[7]? = some (.int .i64 l.last.k) := rfl
attribute [go_sem] Let.get7
theorem Let.get8 (l : Let) : l.arr[8]? = some (.int .i64 l.prev.i) := rfl
attribute [go_sem] Let.get8
theorem Let.get9 (l : Let) : l.arr[9]? = some (.int .i64 l.prev.t) := rfl
attribute [go_sem] Let.get9
theorem Let.get10 (l : Let) : l.arr[10]? = some (.int .i64 l.prev.k) := rfl
attribute [go_sem] Let.get10
theorem Let.get11 (l : Let) : l.arr[11]? = some (.slice l.wA l.want.length l.wc) := rfl
attribute [go_sem] Let.get11
theorem Let.get12 (l : Let) : l.arr[12]? = some (.int .i64 l.commit) := rfl
attribute [go_sem] Let.get12
theorem Let.get13 (l : Let) : l.arr[13]? = some (.bool l.yes) := rfl
attribute [go_sem] Let.get13
theorem Let.get14 (l : Let) : l.arr[14]? = some (.slice l.eA l.ents.length l.ec) := rfl
attribute [go_sem] Let.get14
theorem Let.get15 (l : Let) : l.arr[15]? = some (.int .i64 l.slast.i) := rfl
attribute [go_sem] Let.get15
theorem Let.get16 (l : Let) : l.arr[16]? = some (.int .i64 l.slast.t) := rfl
attribute [go_sem] Let.get16
theorem Let.get17 (l : Let) : l.arr[17]? = some (.int .i64 l.slast.k) := rfl
attribute [go_sem] Let.get17
theorem Let.get18 (l : Let) : l.arr[18]? = some (.slice l.mA l.mems.length l.mc) := rfl
attribute [go_sem] Let.get18
theorem Let.get19 (l : Let) : l.arr[19]? = some (.int .i64 l.size) := rfl
attribute [go_sem] Let.get19
theorem Let.get20 (l : Let) : l.arr[20]? = some (.slice l.uA l.sums.length l.uc) := rfl
attribute [go_sem] Let.get20
theorem Let.get21 (l : Let) : l.arr[21]? = some (.int .i64 l.piece) := rfl
attribute [go_sem] Let.get21
theorem Let.get22 (l : Let) : l.arr[22]? = some (.slice l.bA l.bs.length l.bc) := rfl
attribute [go_sem] Let.get22
theorem Let.asize (l : Let) : l.arr.size = 23 := rfl
attribute [go_sem] Let.asize
theorem Let.set4 (l : Let) (x : Int) : l.arr.setIfInBounds 4 (.int .i64 x) = Let.arr { l with index := x } := by simp [Let.arr]
theorem Let.set5 (l : Let) (x : Int) : l.arr.setIfInBounds 5 (.int .i64 x) = Let.arr { l with last := ⟨x, l.last.t, l.last.k⟩ } := by simp [Let.arr]
theorem Let.set6 (l : Let) (x : Int) : l.arr.setIfInBounds 6 (.int .i64 x) = Let.arr { l with last := ⟨l.last.i, x, l.last.k⟩ } := by simp [Let.arr]
theorem Let.set7 (l : Let) (x : Int) : l.arr.setIfInBounds 7 (.int .i64 x) = Let.arr { l with last := ⟨l.last.i, l.last.t, x⟩ } := by simp [Let.arr]
theorem Let.set8 (l : Let) (x : Int) : l.arr.setIfInBounds 8 (.int .i64 x) = Let.arr { l with prev := ⟨x, l.prev.t, l.prev.k⟩ } := by simp [Let.arr]
theorem Let.set9 (l : Let) (x : Int) : l.arr.setIfInBounds 9 (.int .i64 x) = Let.arr { l with prev := ⟨l.prev.i, x, l.prev.k⟩ } := by simp [Let.arr]
theorem Let.set10 (l : Let) (x : Int) : l.arr.setIfInBounds 10 (.int .i64 x) = Let.arr { l with prev := ⟨l.prev.i, l.prev.t, x⟩ } := by simp [Let.arr]
theorem Let.set12 (l : Let) (x : Int) : l.arr.setIfInBounds 12 (.int .i64 x) = Let.arr { l with commit := x } := by simp [Let.arr]
theorem Let.set13 (l : Let) (x : Bool) : l.arr.setIfInBounds 13 (.bool x) = Let.arr { l with yes := x } := by simp [Let.arr]
theorem Let.set15 (l : Let) (x : Int) : l.arr.setIfInBounds 15 (.int .i64 x) = Let.arr { l with slast := ⟨x, l.slast.t, l.slast.k⟩ } := by simp [Let.arr]
theorem Let.set16 (l : Let) (x : Int) : l.arr.setIfInBounds 16 (.int .i64 x) = Let.arr { l with slast := ⟨l.slast.i, x, l.slast.k⟩ } := by simp [Let.arr]
theorem Let.set17 (l : Let) (x : Int) : l.arr.setIfInBounds 17 (.int .i64 x) = Let.arr { l with slast := ⟨l.slast.i, l.slast.t, x⟩ } := by simp [Let.arr]
theorem Let.set19 (l : Let) (x : Int) : l.arr.setIfInBounds 19 (.int .i64 x) = Let.arr { l with size := x } := by simp [Let.arr]
theorem Let.set21 (l : Let) (x : Int) : l.arr.setIfInBounds 21 (.int .i64 x) = Let.arr { l with piece := x } := by simp [Let.arr]
theorem Let.set11 (l : Let) (x : List Id) (A : Option Addr) (c : Nat) : l.arr.setIfInBounds 11 (.slice A x.length c) = Let.arr { l with wA := A, wc := c, want := x } := by simp [Let.arr]
theorem Let.set14 (l : Let) (x : List Ent) (A : Option Addr) (c : Nat) : l.arr.setIfInBounds 14 (.slice A x.length c) = Let.arr { l with eA := A, ec := c, ents := x } := by simp [Let.arr]
theorem Let.set18 (l : Let) (x : List Int) (A : Option Addr) (c : Nat) : l.arr.setIfInBounds 18 (.slice A x.length c) = Let.arr { l with mA := A, mc := c, mems := x } := by simp [Let.arr]
theorem Let.set20 (l : Let) (x : List Int) (A : Option Addr) (c : Nat) : l.arr.setIfInBounds 20 (.slice A x.length c) = Let.arr { l with uA := A, uc := c, sums := x } := by simp [Let.arr]
theorem Let.set22 (l : Let) (x : List Int) (A : Option Addr) (c : Nat) : l.arr.setIfInBounds 22 (.slice A x.length c) = Let.arr { l with bA := A, bc := c, bs := x } := by simp [Let.arr]
theorem vcells (cs : Array Value) : (Value.agg cs).cells = cs := rfl

def Let.base (l : Let) : Let := ⟨l.kind, l.frm, l.too, l.term, 0, Id.zero, Id.zero, none, 0, [], 0, false, none, 0, [], Id.zero, none, 0, [], 0, none, 0, [], 0, none, 0, []⟩
def Let.o1 (l : Let) : Let := { l.base with last := l.last }
def Let.o2 (l : Let) : Let := { l.base with yes := l.yes }
def Let.o3 (l : Let) : Let := { l.base with prev := l.prev, commit := l.commit, eA := l.eA, ec := l.ec, ents := l.ents }
def Let.o4 (l : Let) : Let := { l.base with index := l.index, yes := l.yes }
def Let.o5 (l : Let) : Let := { l.base with slast := l.slast, mA := l.mA, mc := l.mc, mems := l.mems, size := l.size, uA := l.uA, uc := l.uc, sums := l.sums, piece := l.piece, bA := l.bA, bc := l.bc, bs := l.bs }
def Let.o6 (l : Let) : Let := { l.base with last := l.last, piece := l.piece, yes := l.yes }
def Let.o7a (l : Let) : Let := { l.base with wA := l.wA, wc := l.wc, want := l.want }
def Let.o7b (l : Let) : Let := { l.base with last := l.last, piece := l.piece }
def Let.o8a (l : Let) : Let := { l.base with eA := l.eA, ec := l.ec, ents := l.ents, wA := l.wA, wc := l.wc, want := l.want }
def ok0 (l : Let) : Bool := inR l.frm 1 7 && ((inR l.too 1 7 && (l.too != l.frm)) && inR l.term 0 1099511627776)
def HasPost (d : Nat) (out : Let) (ok : Bool) (w : World) (e : Ending) (w' : World) : Prop := ∃ v, e = .returned (.tuple #[out.v, v]) ∧ Err d w' ok v ∧ Ext w w'
def HasMem (l o : Let) (w : World) (wx : World) : Prop := Ext w wx ∧ wx.heap[w.heap.size]? = some (.cells l.arr 35) ∧ wx.heap[w.heap.size + 1]? = some (.cells o.arr 35)
def HasRel (l : Let) (w : World) (s : Value) (wx : World) : Prop := Err 1 wx (ok0 l) s ∧ HasMem l l.base w wx
theorem wpList_build2 {ops : Array Oper} {rest : List Oper} {o : Oper} {a : Act} {Q : Exit → Act → World → Prop} (w : World) (hgd : o.guard = none) (x y : Operand)
    (ho : o.op = .buildSlice 224 2 #[(0, x), (1, y)]) (v1 v2 : Value) (hx : a.eval x = v1) (hy : a.eval y = v2) (h1 : v1.cells = #[v1]) (h2 : v2.cells = #[v2])
    (h : wpList Tryz.prog ops Q rest (a.put o.dst (.slice (some ⟨w.heap.size, 0, none⟩) 2 2)) (w.alloc (.cells #[v1, v2] 101))) : wpList Tryz.prog ops Q (o :: rest) a w := by
  refine wpList_plain hgd fun K hK => ?_
  subst hx hy
  unfold Oper.wp execOp
  simp only [ho, Sem.run_bind, List.map_toArray, List.map_cons, List.map_nil, build2 _ _ w h1 h2, Result.andThen_ok, Sem.run_pure]
  exact hK _ _ h
theorem infoLet : (Tryz.prog.info? 35).map (·.size) = some 23 := by kernel_rfl
theorem load_let (w : World) (b : Nat) (l : Let) (h : w.heap[b]? = some (.cells l.arr 35)) : (loadVar 35 ⟨b, 0, none⟩).run Tryz.prog w = .ok l.v w :=
  run_loadVar_row w b 35 35 l.arr (0, 0) _ h Tryz.underlying35 rfl (by rw [infoLet]; rfl)
theorem wpList_load_let {ops : Array Oper} {rest : List Oper} {o : Oper} {a : Act} {w : World} {Q : Exit → Act → World → Prop} (hgd : o.guard = none) (x : Operand) (ho : o.op = .load 35 x)
    (b : Nat) (l : Let) (hx : a.eval x = .pointer (some ⟨b, 0, none⟩)) (hg : w.heap[b]? = some (.cells l.arr 35))
    (h : wpList Tryz.prog ops Q rest (a.put o.dst l.v) w) : wpList Tryz.prog ops Q (o :: rest) a w :=
  wpList_load_row hgd 35 x ho b hx 35 l.arr (0, 0) _ hg Tryz.underlying35 rfl (by rw [infoLet]; rfl) h
theorem yields_load_let {o : Oper} {a : Act} {w : World} (x : Operand) (ho : o.op = .load 35 x) (b : Nat) (l : Let) (hx : a.eval x = .pointer (some ⟨b, 0, none⟩)) (hg : w.heap[b]? = some (.cells l.arr 35)) :
    Stab.yields Tryz.prog o a w (fun u w' => Ext w w' ∧ u = l.v) := by
  unfold Stab.yields execOp
  simp only [ho, hx, Instr.loadAt, Instr.sureAddr, Sem.run_bind, Sem.run_pure, Result.andThen_ok, load_let w b l hg, Stab.yieldsUpon_value]
  exact ⟨Ext.refl _, trivial⟩
theorem store_same {P : Program} {w : World} {b : Nat} {cs : Array Value} {t : TypeId} (h : w.heap[b]? = some (.cells cs t)) (h1 : ∀ u ∈ cs, u.oneCell' = true) :
    ∀ (vs : List Value) (i : Nat), (∀ j u, vs[j]? = some u → cs[i + j]? = some u) → (storeCells ⟨b, 0, none⟩ vs i).run P w = .ok () w := by
  intro vs
  induction vs with
  | nil => intro i _; rfl
  | cons v vs ih =>
    intro i hv
    have h0 := hv 0 v rfl
    rw [Nat.add_zero] at h0
    have hc : w.cell? ⟨b, i, none⟩ = some v := by rw [cell_of_heap h]; exact h0
    have ho : v.oneCell' = true := h1 v (Array.mem_of_getElem? h0)
    have hst := fun m => run_store P w ⟨b, i, none⟩ v m ho
    rw [hc, frozen_of_heap h i] at hst
    simp only [Bool.false_eq_true, if_false, setId h i v h0] at hst
    simp only [storeCells, Sem.run_bind, add_lit', Nat.zero_add, hst, Result.andThen_ok]
    exact ih (i + 1) (fun j u hj => by rw [Nat.add_assoc, Nat.add_comm 1 j]; exact hv (j + 1) u hj)
theorem Let.one (l : Let) : ∀ u ∈ l.arr, u.oneCell' = true := by
  intro u hu
  simp only [Let.arr, List.mem_toArray, List.mem_cons, List.not_mem_nil, or_false] at hu
  rcases hu with rfl | rfl | rfl | rfl | rfl | rfl | rfl | rfl | rfl | rfl | rfl | rfl | rfl | rfl | rfl | rfl | rfl | rfl | rfl | rfl | rfl | rfl | rfl <;> rfl
theorem storeVar_let (w : World) (b : Nat) (l : Let) (h : w.heap[b]? = some (.cells l.arr 35)) : (storeVar 35 ⟨b, 0, none⟩ l.v).run Tryz.prog w = .ok () w := by
  have h2 := store_same (P := Tryz.prog) h l.one l.arr.toList 0 (fun j u hj => by simpa using hj)
  have hi := infoLet
  cases hq : Tryz.prog.info? 35 with
  | none => rw [hq] at hi; cases hi
  | some i =>
    rw [hq] at hi
    have hs : i.size = 23 := by simpa using hi
    simp only [storeVar, Let.v, vcells, Sem.run_bind, sizeOf, typeInfo]
    simp [hq, hs, Let.asize, h2]
theorem wpList_store_let {ops : Array Oper} {rest : List Oper} {o : Oper} {a : Act} {w : World} {Q : Exit → Act → World → Prop} (hgd : o.guard = none) (x y : Operand) (ho : o.op = .store 35 x y) (hd : o.dst = none)
    (b : Nat) (l : Let) (hx : a.eval x = .pointer (some ⟨b, 0, none⟩)) (hy : a.eval y = l.v) (hg : w.heap[b]? = some (.cells l.arr 35))
    (h : wpList Tryz.prog ops Q rest a w) : wpList Tryz.prog ops Q (o :: rest) a w := by
  refine wpList_plain hgd fun K hK => ?_
  unfold Oper.wp execOp
  simp only [ho, hx, hy, Instr.storeAt, Instr.sureAddr, Sem.run_bind, Sem.run_pure, Result.andThen_ok, storeVar_let w b l hg]
  have h3 := hK a w h
  simp [Oper.upon, hd, Act.put, h3]

def Let.o5a (l : Let) : Let := { l.base with slast := l.slast, mA := l.mA, mc := l.mc, mems := l.mems, size := l.size, uA := l.uA, uc := l.uc, sums := l.sums }
def Let.o5b (l : Let) : Let := { l.o5a with piece := l.piece }
def Let.o8c (l : Let) : Let := { l.base with eA := l.eA, ec := l.ec, ents := l.ents }
def Let.o3a (l : Let) : Let := { l.base with prev := l.prev }
def Let.o3b (l : Let) : Let := { l.o3a with commit := l.commit }
def Let.o4i (l : Let) : Let := { l.base with index := l.index }
theorem Bad.keep {d : Nat} {w w' : World} {v : Value} (h : Bad d w v) (hk : ∀ b u, w.cell? ⟨b, 0, none⟩ = some u → w'.cell? ⟨b, 0, none⟩ = some u) : Bad d w' v := by
  induction d generalizing v with
  | zero => exact h
  | succ d ih =>
    rcases h with h | ⟨j, a, n, c, v0, h1, h2, h3, h4, h5⟩
    · exact .inl (ih h)
    · exact .inr ⟨j, a, n, c, v0, h1, hk _ _ h2, h3, hk _ _ h4, ih h5⟩
theorem Err.set {d : Nat} {w : World} {ok : Bool} {v u : Value} {b k : Nat} (hk : k ≠ 0) (h : Err d w ok v) : Err d (w.setCell ⟨b, k, none⟩ u) ok v := by
  cases ok
  · refine Bad.keep (d := d) h fun b' u' hc => ?_
    rw [World.cell?_setCell_other]
    · exact hc
    · simp
  · exact h
theorem results_has (tmps : Array Value) (w : World) (b : Nat) (l : Let) (e : Value) (h2 : tmps.getD 2 undef = .pointer (some ⟨b, 0, none⟩)) (h3 : tmps.getD 3 undef = e) (hg : w.heap[b]? = some (.cells l.arr 35)) :
    (results Tryz.f130 tmps).run Tryz.prog w = .ok (.tuple #[l.v, e]) w := by
  have h2' : tmps[2]?.getD undef = .pointer (some ⟨b, 0, none⟩) := by simpa using h2
  have h3' : tmps[3]?.getD undef = e := by simpa using h3
  simp [results, Tryz.results130, h2', h3', asAddr, load_let w b l hg]
def rowOk (l : Let) : Bool := decide ((l.ents.length : Int) ≤ 8) && (followsN l.prev l.ents == 0 && decide ((lastId Id.zero l.ents).t ≤ l.term))
theorem carried_v (l : Let) (w : World) (hin : l.inW w) : Calls Tryz.prog 158 #[l.v] w (ErrPost 2 (carriedOk l) w) := carried_any l w hin
end Go.Proofs.YtjnllilmimngoaaGreatDoor
