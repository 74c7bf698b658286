/-
  NetSmall.
  NetSmall: the law for every reading.
-/
import Derived.Test.YtjnllilmimngoaaGreatDoorM44
import Derived.Test.YtjnllilmimngoaaGreatDoorRows
import Derived.JoinedOf
import Derived.RowKit
import Derived.RowKitTokens
import Derived.LaidLaws
import Derived.LaidHandle
import Derived.Stop.Joined
import Derived.Lib.SmallJoins
namespace Go.Proofs.YtjnllilmimngoaaGreatDoor
open Go.RowKit

def NsRel (w : World) (i : Value) (wr : World) : Prop := ∃ k : Nat, k ≤ 1200 ∧ i = .int .i64 k ∧ Ext w wr
def SlV (n : Nat) (ls : List Let) (u : Value) (w : World) : Prop := ∃ b, u = .slice (some ⟨b, 0, none⟩) n n ∧ w.heap[b]? = some (.cells (flat ls).toArray 35)
theorem SlV.up {n : Nat} {ls : List Let} (u : Value) : Stab.Up Ext (SlV n ls u) := fun w w' h he => by
  obtain ⟨b, h1, h2⟩ := h
  exact ⟨b, h1, he.blk h2⟩
def SlD (b1 b2 q : Nat) (y : Int) (u : Value) (w : World) : Prop := ∃ b n, u = .slice (some ⟨b, 0, none⟩) 9 9 ∧ w.heap[b]? = some (.cells (NX.cells n) 38) ∧ n.b1 = b1 ∧ n.b2 = b2 ∧ n.q = q ∧ n.y = y
theorem SlD.up {b1 b2 q : Nat} {y : Int} (u : Value) : Stab.Up Ext (SlD b1 b2 q y u) := fun w w' h he => by
  obtain ⟨b, n, h1, h2, h3⟩ := h
  exact ⟨b, n, h1, he.blk h2, h3⟩
theorem yieldsP_build {o : Oper} {a : Act} {w : World} (n : Nat) (t e : TypeId) (parts : Array (Nat × Operand)) (ho : o.op = .buildSlice t n parts) (q : Array (Nat × Value)) (hq : (parts.map fun (i, x) => (i, a.eval x)) = q) (cs : Array Value)
    (hrun : (Instr.buildSlice t n q).run Tryz.prog w = .ok (.slice (some ⟨w.heap.size, 0, none⟩) n n) (w.alloc (.cells cs e))) (post : Value → World → Prop) (hp : post (.slice (some ⟨w.heap.size, 0, none⟩) n n) (w.alloc (.cells cs e))) :
    Stab.yields Tryz.prog o a w (fun u w' => Ext w w' ∧ post u w') := by
  subst hq
  unfold Stab.yields execOp
  simp only [ho, Sem.run_bind, hrun, Result.andThen_ok, Sem.run_pure, Stab.yieldsUpon_value]
  exact ⟨(Ext.refl _).alloc _, hp⟩
theorem buildV3 (w : World) : (Instr.buildSlice 22 3 #[(0, (voteL 1 2 0).v), (1, (voteL 2 3 1).v), (2, (voteL 3 1 2).v)]).run Tryz.prog w = .ok (.slice (some ⟨w.heap.size, 0, none⟩) 3 3) (w.alloc (.cells (flat three).toArray 35)) := by
  kernel_rfl
theorem buildV1 (y : Int) (w : World) : (Instr.buildSlice 22 1 #[(0, (voteL y 7 3).v)]).run Tryz.prog w = .ok (.slice (some ⟨w.heap.size, 0, none⟩) 1 1) (w.alloc (.cells (flat [voteL y 7 3]).toArray 35)) := by
  kernel_rfl
theorem buildD9 (n : NX) (w : World) : (Instr.buildSlice 39 9 #[(0, .agg #[.int .i64 0, .int .i64 0, .bool false, .slice (some ⟨n.b1, 0, none⟩) n.q 3]), (1, .agg #[.int .i64 5, .int .i64 n.x1, .bool true, .slice none 0 0]), (2, .agg #[.int .i64 n.x2, .int .i64 n.x3, .bool false, .slice none 0 0]), (3, .agg #[.int .i64 n.x4, .int .i64 n.x5, .bool false, .slice none 0 0]), (4, .agg #[.int .i64 0, .int .i64 0, .bool false, .slice (some ⟨n.b2, 0, none⟩) 1 1]), (5, .agg #[.int .i64 n.x6, .int .i64 n.x7, .bool false, .slice none 0 0]), (6, .agg #[.int .i64 5, .int .i64 n.x8, .bool false, .slice none 0 0]), (7, .agg #[.int .i64 n.x9, .int .i64 n.x10, .bool false, .slice none 0 0]), (8, .agg #[.int .i64 n.x11, .int .i64 n.x12, .bool false, .slice none 0 0])]).run Tryz.prog w = .ok (.slice (some ⟨w.heap.size, 0, none⟩) 9 9) (w.alloc (.cells n.cells 38)) := by
  kernel_rfl
def DeedsOk (b : Nat) (w : World) : Prop := ∃ n : NX, n.at_ b w
theorem DeedsOk.does {b : Nat} {w : World} (h : DeedsOk b w) (hg : ErrT w) : Calls Tryz.prog 5 #[.slice (some ⟨b, 0, none⟩) 9 9] w fun e w' => e = .returned (.bool true) ∧ Ext w w' := by
  obtain ⟨n, h⟩ := h
  obtain ⟨h1, h2⟩ := h.deeds
  exact netDoes_any (some ⟨b, 0, none⟩) 9 n.ds w h1 hg (by simp [NX.ds]) h2
set_option maxRecDepth 100000 in
set_option maxHeartbeats 8000000 in
theorem netSmall_any (w : World) (hg : ErrT w) : Calls Tryz.prog 3 #[] w fun e w' => e = .returned (.bool true) ∧ Ext w w' := by
  have HG := Lib.hid hg
  clear hg
  go_enter Tryz.func3, Tryz.ntmps3
  go_wp2_with fail
  go_loopw [1] (fun i wr => NsRel w i wr) (fun i _ => 1200 - (intOf i).toNat)
  case atStart => exact ⟨0, Nat.zero_le _, rfl, Ext.refl _⟩
  case round =>
    obtain ⟨k, hk, rfl, hE⟩ := hrel
    have HE := Lib.hid hE
    clear hE
    by_cases hlt : k < 1200
    · obtain ⟨q, hq, h4⟩ : ∃ q : Nat, (q : Int) ≤ 3 ∧ (k : Int).tmod 4 = (q : Int) := ⟨k % 4, by omega, by rw [Int.tmod_eq_emod_of_nonneg (by omega)]; omega⟩
      go_upto_region 4 with (fail)
      refine Stab.wp_region_ord [0, 1, 2, 24, 25, 26, 3, 4, 5, 6, 7, 8, 9, 10, 11, 12, 13, 14, 15, 16, 17, 18, 19, 20, 21, 22, 23, 27, 28, 29, 30, 31, 32, 33, 34, 35, 36, 37, 38, 39, 40, 41, 42] Ext (Ext wr) (fun _ => True) (by kernel_rfl) (by kernel_rfl) (fun _ _ h => h) (fun _ _ h k => Ext.trans h k) (fun _ _ _ _ => trivial) ((Ext.refl _).drew) trivial ?_
      simp only [Stab.pickL, List.getElem?_cons_zero, List.getElem?_cons_succ]
      iterate 3 (refine Stab.wpX_call1 rfl rfl (fun _ _ _ _ => trivial) ?_; apply Exists.intro; refine ⟨fun wx hC _ _ => ?_, ?_⟩; (go_simp; refine ⟨rfl, ?_⟩; refine (vote_any _ _ _ wx).mono ?_; rintro ev w9 ⟨rfl, hb9⟩; exact ⟨hb9, rfl⟩); simp only [Act.put, List.setIfInBounds_toArray, List.set_cons_zero, List.set_cons_succ])
      iterate 2 (refine Stab.wpX_val rfl rfl ?_; apply Exists.intro; refine ⟨fun wx hC _ => ?_, ?_⟩; (go_simp; exact ⟨Ext.refl _, rfl⟩); simp only [Act.put, List.setIfInBounds_toArray, List.set_cons_zero, List.set_cons_succ])
      iterate 1 (refine Stab.wpX_call1 rfl rfl (fun _ _ _ _ => trivial) ?_; apply Exists.intro; refine ⟨fun wx hC _ _ => ?_, ?_⟩; (go_simp; refine ⟨rfl, ?_⟩; refine (vote_any _ _ _ wx).mono ?_; rintro ev w9 ⟨rfl, hb9⟩; exact ⟨hb9, rfl⟩); simp only [Act.put, List.setIfInBounds_toArray, List.set_cons_zero, List.set_cons_succ])
      refine Stab.wpX_new (SlV 3 three) rfl rfl (by kernel_rfl) (SlV.up) (fun _ _ _ _ => trivial) ?_ ?_
      · intro wx hC _
        exact yieldsP_build 3 _ _ _ rfl _ (by simp only [List.map_toArray, List.map_cons, List.map_nil, Act.eval]; rfl) _ (buildV3 wx) (SlV 3 three) ⟨wx.heap.size, rfl, heap_alloc_new wx _⟩
      rintro ux ⟨_, _, ⟨b1, rfl, _⟩, _⟩
      simp only [Act.put, List.setIfInBounds_toArray, List.set_cons_zero, List.set_cons_succ]
      iterate 20 (refine Stab.wpX_val rfl rfl ?_; apply Exists.intro; refine ⟨fun wx hC _ => ?_, ?_⟩; (go_simp; exact ⟨Ext.refl _, rfl⟩); simp only [Act.put, List.setIfInBounds_toArray, List.set_cons_zero, List.set_cons_succ])
      refine Stab.wpX_new (SlV 1 [voteL ((k : Int).tmod 9) 7 3]) rfl rfl (by kernel_rfl) (SlV.up) (fun _ _ _ _ => trivial) ?_ ?_
      · intro wx hC _
        exact yieldsP_build 1 _ _ _ rfl _ (by simp only [List.map_toArray, List.map_cons, List.map_nil, Act.eval]; rfl) _ (buildV1 _ wx) (SlV 1 [voteL ((k : Int).tmod 9) 7 3]) ⟨wx.heap.size, rfl, heap_alloc_new wx _⟩
      rintro ux ⟨_, _, ⟨b2, rfl, _⟩, _⟩
      simp only [Act.put, List.setIfInBounds_toArray, List.set_cons_zero, List.set_cons_succ]
      iterate 13 (refine Stab.wpX_val rfl rfl ?_; apply Exists.intro; refine ⟨fun wx hC _ => ?_, ?_⟩; (go_simp; exact ⟨Ext.refl _, rfl⟩); simp only [Act.put, List.setIfInBounds_toArray, List.set_cons_zero, List.set_cons_succ])
      obtain ⟨n, hn⟩ : ∃ n : NX, n = ⟨b1, b2, q, (k : Int).tmod 9, (k : Int).tmod 9, IntKind.i64.wrap (2 + (k : Int).tmod 3), IntKind.i64.wrap ((k : Int).tmod 7 - 3), IntKind.i64.wrap (2 + (IntKind.i64.wrap ((k : Int) / 3)).tmod 3), (k : Int), IntKind.i64.wrap (2 + (IntKind.i64.wrap ((k : Int) / 9)).tmod 3), IntKind.i64.wrap (-(k : Int)), (k : Int).tmod 9, 2, 0, 4, 1, 0⟩ := ⟨_, rfl⟩
      refine Stab.wpX_new (SlD b1 b2 q ((k : Int).tmod 9)) rfl rfl (by kernel_rfl) (SlD.up) (fun _ _ _ _ => trivial) ?_ ?_
      · intro wx hC _
        refine yieldsP_build 9 _ _ _ rfl _ ?_ _ (buildD9 n wx) (SlD b1 b2 q ((k : Int).tmod 9)) ⟨wx.heap.size, n, rfl, heap_alloc_new wx _, by rw [hn], by rw [hn], by rw [hn], by rw [hn]⟩
        rw [hn]
        simp only [List.map_toArray, List.map_cons, List.map_nil, Act.eval]
        rfl
      clear hn n
      rintro ux ⟨_, _, ⟨bd, n, rfl, -, -⟩, _⟩
      simp only [Act.put, List.setIfInBounds_toArray, List.set_cons_zero, List.set_cons_succ]
      clear n
      iterate 1 (refine Stab.wpX_val rfl rfl ?_; apply Exists.intro; refine ⟨fun wx hC _ => ?_, ?_⟩; (go_simp; exact ⟨Ext.refl _, rfl⟩); simp only [Act.put, List.setIfInBounds_toArray, List.set_cons_zero, List.set_cons_succ])
      refine Stab.wpX_end fun w2 hC2 _ hF2 => ?_
      have hq3 : q ≤ 3 := by omega
      have HD := Lib.hid (show DeedsOk bd w2 from by
        obtain ⟨c1, i1, j1⟩ := (hF2 3).1.1.2 rfl
        obtain ⟨c2, i2, j2⟩ := (hF2 27).1.2 rfl
        obtain ⟨cd, n, id, jd, n1, n2, n3, n4⟩ := (hF2 41).2 rfl
        injection i1 with i1 _ _
        injection i1 with i1
        injection i1 with i1 _ _
        injection i2 with i2 _ _
        injection i2 with i2
        injection i2 with i2 _ _
        injection id with id _ _
        injection id with id
        injection id with id _ _
        subst i1 i2 id
        exact ⟨n, jd, by rw [n1]; exact j1, by rw [n2, n4]; exact j2, by rw [n3]; exact hq3⟩)
      have HE2 := Lib.hid (HE.out.trans hC2)
      clear hC2 hF2 h4 hq
      have HN := Lib.hid (HD.out.does (HG.out.ext HE2.out))
      go_wp2_with fail
      refine (HN.out).mono ?_
      rintro ev w3 ⟨rfl, hE3⟩
      have HE3 := Lib.hid (HE2.out.trans hE3)
      clear hE3
      go_wp2_with fail
      exact ⟨⟨k + 1, by omega, by go_num, HE3.out⟩, by simp [intOf]; omega⟩
    · obtain rfl : k = 1200 := by omega
      go_wp2_with fail
      refine (full_any wr (HG.out.ext HE.out)).mono ?_
      rintro ev w1 ⟨rfl, hE1⟩
      have HE1 := Lib.hid (HE.out.trans hE1)
      clear hE1
      go_wp2_with fail
      refine (none_any w1).mono ?_
      rintro ev w2 ⟨rfl, hE2⟩
      have HE2 := Lib.hid (HE1.out.trans hE2)
      clear hE2
      go_wp2_with fail
      refine (awake_any w2 (HG.out.ext HE2.out)).mono ?_
      rintro ev w3 ⟨rfl, hE3⟩
      have HE3 := Lib.hid (HE2.out.trans hE3)
      clear hE3
      go_wp2_with fail
      go_ret
      exact ⟨rfl, HE3.out⟩
end Go.Proofs.YtjnllilmimngoaaGreatDoor
namespace Go.Proofs.YtjnllilmimngoaaGreatDoor
open Go.ChangeShapes Go.WideShapes Go.ChangeAt Go.RowKit Go.Joins

namespace netSmallF
theorem own : ownKnob Tryz.prog.godebug = none := by kernel_rfl
theorem et : Tryz.prog.globalNamed "errors.errorType" = some 0 := by kernel_rfl
theorem rt : (Tryz.prog.cutTypes.find? (·.1 == "internal/reflectlite.rtype")).map (·.2) = some 216 := by kernel_rfl
theorem oneRow : ((List.range Tryz.prog.types.size).filter fun t => Tryz.prog.rowNamed t [101, 114, 114, 111, 114]) = [101] := by kernel_rfl

def laidL {H : Type} : List (String × DataW H) := [("errors.errorType", Rows.laid_errors_errorType)]
theorem errT_of_laid {W : World} (h : laidMetH Tryz.prog laidL W) : ErrT W := by
  have h' : laidMet Tryz.prog [] W ∧ handlesMet Tryz.prog laidL W := h
  obtain ⟨name, u, ty, e1, e2, e3, e4, e5⟩ := h'.2 _ (List.mem_singleton.2 rfl)
  have en : name = [101, 114, 114, 111, 114] := (Option.some.inj e1).symm
  subst en
  obtain rfl := Option.some.inj (rt.symm.trans e2)
  have hm : ty ∈ (List.range Tryz.prog.types.size).filter fun t => Tryz.prog.rowNamed t [101, 114, 114, 111, 114] := List.mem_filter.2 ⟨List.mem_range.2 e3, e4⟩
  rw [oneRow] at hm
  obtain rfl := List.mem_singleton.1 hm
  have hh : typeHandle Tryz.prog 101 = .pointer (some ⟨1, 101, none⟩) := by kernel_rfl
  rw [hh] at e5
  unfold ErrT
  simpa using World.var?_cell et e5 0

noncomputable def laidWorld (os : Os) : World :=
  let w0 := World.holding Tryz.prog os ⟨#[], #[], []⟩
  { w0 with heap := w0.heap.modify 0 fun
      | .cells _ t frozen => .cells #[.iface 216 (.agg #[.pointer (some ⟨1, 101, none⟩)])] t frozen
      | o => o }
theorem laidWorld_met (os : Os) (args : Array Value) : laidMetH Tryz.prog laidL ((laidWorld os).forCall (fun _ _ => 0) ⟨#[], args, []⟩).memory :=
  laidMetH_of_parts (laidMet_nil _ _) (by kernel_rfl)
set_option maxRecDepth 100000 in
theorem lifted (os : Os) (started : os.Started) (H : Type) (enc : TypeId × Value → H) :
    ReturnsInHanded {} Tryz.checked os 3 .any (fun w args => (Rows.netSmallSpec.pre enc Tryz.prog Tryz.f3 [] false w args ∧ laidMetH Tryz.prog laidL w) ∧ sizedMet enc Tryz.prog Tryz.f3 (OpenSpec.ofChange Rows.netSmallSpec) false w args)
      (Rows.netSmallSpec.post enc Tryz.prog Tryz.f3 false true false false) := by
  refine returnsInHanded_of_change_and (C := Tryz.checked) (X := fun w _ => laidMetH Tryz.prog laidL w) (fun _ _ _ hh h => h.of_heap hh) own started (by kernel_rfl) Tryz.func3
    (ChangeSpec.witness_at (enc := enc) (C := Tryz.checked) (os := os) (X := fun w _ => laidMetH Tryz.prog laidL w) false (laidWorld os) #[] 8 rfl (by kernel_rfl) (by kernel_rfl) (by kernel_rfl) (by kernel_rfl) (by kernel_rfl) (laidWorld_met os _)) ?_
  intro W base args ds gs before hval0 hW _ hk hL _
  have hW' := hW
  obtain ⟨p, q, hA0, hV, rfl, hfz, hnd⟩ := hW
  have hA : DataW.TrodAll enc Tryz.prog W 0 (fun _ => true) true Tryz.f3.params.toList args.toList ds p := hA0
  rw [Tryz.params3] at hA
  obtain ⟨rfl, rfl, rfl⟩ := trodAll_none hA
  obtain ⟨rfl, rfl⟩ := trodVars_none hV
  clear hA0 hval0
  refine (netSmall_any W (errT_of_laid hL)).mono fun e W' ⟨he, bel⟩ => ?_
  subst he
  exact ⟨_, rfl, _, _, _, [], _, [], hW', trodAll_mk1 (shut_bool Tryz.underlying4 _), trodAll_mk0, rfl, bel.below.frame _, fun h => by cases h⟩
theorem holds : Rows.NetSmallSaid :=
  OpenClaim.holds_of_wide 3 Tryz.f3 rfl rfl rfl rfl rfl rfl rfl ⟨rfl, rfl, rfl, rfl, rfl⟩ rfl rfl rfl rfl rfl (by kernel_rfl) Tryz.func3 (by kernel_rfl)
    (of_decide_eq_true (by kernel_rfl)) (by unfold Func.isWrapper; first | (rw [if_pos (by decide +kernel)]; kernel_rfl) | (rw [if_neg (by decide +kernel)]; exact ⟨rfl, rfl⟩))
    (fun os started H enc _ => lifted os started H enc)
end netSmallF
end Go.Proofs.YtjnllilmimngoaaGreatDoor
