/-
  Lists without elements, grown: what is known of memory.
  flatInts at lists without elements.
  flatLimbs at lists without elements.
-/
import Derived.Test.YtjnllilmimngoaaGreatDoorM37
import Derived.Test.YtjnllilmimngoaaGreatDoorM20
import Derived.Deep.CutBlock
import Derived.Test.YtjnllilmimngoaaGreatDoorM22
namespace Go.Proofs.YtjnllilmimngoaaGreatDoor
open Go.RowKit

structure F0 (sz : Nat) (e st : TypeId) (mc : Nat → Nat → List Value) (N gg : Nat) (w0 : World) (V : Nat → Value) (A' : Nat → Option Addr) (c' : Nat → Nat) (k sk : Nat) (w : World) : Prop where
  g : Own w gg st (some ⟨gg, 0, none⟩) N ((List.range N).map V)
  r : ∀ j, j < k → V j = .slice (A' j) 64 (c' j) ∧ OwnW sz w (gg + 1) e (A' j) 64 (c' j) (mkF mc j 64) ∧ ∀ i, blk (A' j) i → i < sk
  x : Ext w0 w
  s : w0.heap.size ≤ gg ∧ gg < sk ∧ sk ≤ w.heap.size
section
variable {sz : Nat} {e st : TypeId} {mc : Nat → Nat → List Value} {N gg k sk : Nat} {w0 w w2 : World} {V : Nat → Value} {A' : Nat → Option Addr} {c' : Nat → Nat}
theorem F0.ext (h : F0 sz e st mc N gg w0 V A' c' k sk w) (he : Ext w w2) : F0 sz e st mc N gg w0 V A' c' k sk w2 :=
  ⟨Own.ext h.g he, fun j hj => ⟨(h.r j hj).1, (h.r j hj).2.1.ext he, (h.r j hj).2.2⟩, h.x.trans he, h.s.1, h.s.2.1, Nat.le_trans h.s.2.2 he.sz⟩
theorem F0.grow {S : Nat → Prop} (h : F0 sz e st mc N gg w0 V A' c' k sk w) (hF : Fr S w w2) (hS : ∀ i, S i → sk ≤ i) : F0 sz e st mc N gg w0 V A' c' k sk w2 :=
  ⟨Own.fr h.g hF (fun i hi t => by
      have h1 : gg = i := by simpa [blk] using hi
      have h2 := hS i t
      have h3 := h.s.2.1
      omega), fun j hj => ⟨(h.r j hj).1, (h.r j hj).2.1.fr hF (fun i hi t => by
      have h1 := (h.r j hj).2.2 i hi
      have h2 := hS i t
      omega), (h.r j hj).2.2⟩, Fr.low h.x hF (fun i t => by
      have h1 := hS i t
      have h2 := h.s
      omega), h.s.1, h.s.2.1, Nat.le_trans h.s.2.2 hF.size⟩
theorem F0.mono (h : F0 sz e st mc N gg w0 V A' c' k sk w) {sk' : Nat} (h1 : sk ≤ sk') (h2 : sk' ≤ w.heap.size) : F0 sz e st mc N gg w0 V A' c' k sk' w :=
  ⟨h.g, fun j hj => ⟨(h.r j hj).1, (h.r j hj).2.1, fun i hi => Nat.lt_of_lt_of_le ((h.r j hj).2.2 i hi) h1⟩, h.x, h.s.1, Nat.lt_of_lt_of_le h.s.2.1 h1, h2⟩
theorem F0.zero (h : F0 sz e st mc N gg w0 V A' c' k sk w) : F0 sz e st mc N gg w0 V A' c' 0 sk w := ⟨h.g, fun j hj => by omega, h.x, h.s⟩
theorem own_nils (w : World) (st : TypeId) (N : Nat) (hN : N ≤ 100000) : Own (w.alloc (.cells (madeCells #[.slice none 0 0] N) st)) w.heap.size st (some ⟨w.heap.size, 0, none⟩) N ((List.range N).map fun _ => .slice none 0 0) := by
  refine Own.mk (Nat.le_refl _) (heap_alloc_new w _) (by simp) (by unfold maxLen; omega) (size_madeCells _ _) ?_
  rw [toList_madeCells_one]
  simp [List.map_const']
theorem F0.start (hE : Ext w0 w) (hN : N ≤ 100000) : F0 sz e st mc N w.heap.size w0 (fun _ => .slice none 0 0) (fun _ => none) (fun _ => 0) 0 (w.heap.size + 1) (w.alloc (.cells (madeCells #[.slice none 0 0] N) st)) :=
  ⟨own_nils w st N hN, fun j hj => by omega, hE.alloc _, hE.sz, by omega, by simp⟩
theorem set_range {N k : Nat} (V : Nat → Value) (v : Value) : ((List.range N).map V).set k v = (List.range N).map (upd V k v) := by
  apply List.ext_getElem?
  intro j
  rw [List.getElem?_set]
  by_cases hj : j < N
  · by_cases hjk : k = j
    · subst hjk; simp [upd_same, hj]
    · simp [hjk, hj, upd_ne V k _ (fun e => hjk e.symm)]
  · simp [hj]; intro t; omega
theorem F0.put (h : F0 sz e st mc N gg w0 V A' c' k sk w) {m : Nat} (hm : k ≤ m) (v : Value) : F0 sz e st mc N gg w0 (upd V m v) A' c' k sk (w.setCell ⟨gg, m, none⟩ v) := by
  have hF : Fr (isB gg) w (w.setCell ⟨gg, m, none⟩ v) := (Fr.refl (isB gg) w).set (p := ⟨gg, m, none⟩) (.inl rfl) _
  refine ⟨own_cong (h.g.set m v) (set_range V v), fun j hj => ?_, h.x.set (p := ⟨gg, m, none⟩) h.s.1 _, by simpa [World.setCell] using h.s⟩
  obtain ⟨h1, h2, h3⟩ := h.r j hj
  rw [upd_ne _ _ _ (by omega)]
  refine ⟨h1, h2.fr hF (fun i hi t => ?_), h3⟩
  have h4 := (h2.lt hi).1
  have h5 : i = gg := t
  omega
theorem F0.store {A2 : Option Addr} {c2 : Nat} (h : F0 sz e st mc N gg w0 V A' c' k sk w) (hO : OwnW sz w sk e A2 64 c2 (mkF mc k 64)) : F0 sz e st mc N gg w0 (upd V k (.slice A2 64 c2)) (upd A' k A2) (upd c' k c2) (k + 1) w.heap.size (w.setCell ⟨gg, k, none⟩ (.slice A2 64 c2)) := by
  have hF : Fr (isB gg) w (w.setCell ⟨gg, k, none⟩ (.slice A2 64 c2)) := (Fr.refl (isB gg) w).set (p := ⟨gg, k, none⟩) (.inl rfl) _
  have hs := h.s
  have h6 := h.put (Nat.le_refl k) (.slice A2 64 c2)
  refine ⟨h6.g, fun j hj => ?_, h6.x, hs.1, by omega, by simp [World.setCell]⟩
  by_cases hjk : j = k
  · subst hjk
    rw [upd_same, upd_same, upd_same]
    refine ⟨rfl, (hO.fr hF (fun i hi t => ?_)).raise (fun i hi => ?_), fun i hi => (hO.lt hi).2⟩
    · have h4 := (hO.lt hi).1
      have h5 : i = gg := t
      omega
    · have := (hO.lt hi).1
      omega
  · obtain ⟨h1, h2, h3⟩ := h6.r j (by omega)
    rw [upd_ne A' _ _ hjk, upd_ne c' _ _ hjk]
    exact ⟨h1, h2, fun i hi => Nat.lt_of_lt_of_le (h3 i hi) hs.2.2⟩
theorem F0.gcell (h : F0 sz e st mc N gg w0 V A' c' k sk w) {j : Nat} (hj : j < N) : w.cell? ⟨gg, j, none⟩ = some (V j) := Rd.at0 (Own.rd h.g) (by simp [hj])
theorem F0.gfz (h : F0 sz e st mc N gg w0 V A' c' k sk w) (j : Nat) : w.frozen? ⟨gg, j, none⟩ = false := Own.frozen h.g j
end
section
variable (sz : Nat) (e st : TypeId) (mc : Nat → Nat → List Value) (N gg : Nat) (w0 : World)
def Z1 (v : Value) (w : World) : Prop := ∃ k : Nat, k ≤ N ∧ v = .int .i64 k ∧ Ext w0 w
def Z2 (k : Nat) (w : World) : Prop := ∃ V A' c' sk, F0 sz e st mc N gg w0 V A' c' k sk w
def Z2R (v : Value) (w : World) : Prop := ∃ k : Nat, k ≤ N ∧ v = .int .i64 k ∧ Z2 sz e st mc N gg w0 k w
def Z3 (V : Nat → Value) (A' : Nat → Option Addr) (c' : Nat → Nat) (k sk : Nat) (v i : Value) (w : World) : Prop :=
  ∃ (t : Nat) (A2 : Option Addr) (c2 : Nat), t ≤ 64 ∧ i = .int .i64 t ∧ v = .slice A2 t c2 ∧ F0 sz e st mc N gg w0 V A' c' k sk w ∧ ((t = 0 ∧ c2 = 0 ∧ mkF mc k t = []) ∨ (0 < t ∧ OwnW sz w sk e A2 t c2 (mkF mc k t)))
def Z5R (v : Value) (w : World) : Prop := ∃ k : Nat, k ≤ N ∧ v = .int .i64 k ∧ Z2 sz e st mc N gg w0 N w
def Z6 (V : Nat → Value) (A' : Nat → Option Addr) (c' : Nat → Nat) (sk : Nat) (v : Value) (w : World) : Prop := ∃ t : Nat, t ≤ 64 ∧ v = .int .i64 t ∧ F0 sz e st mc N gg w0 V A' c' N sk w
def Z7R (v : Value) (w : World) : Prop := ∃ k : Nat, k ≤ N ∧ v = .int .i64 k ∧ Z2 sz e st mc N gg w0 0 w
def Z8 (V : Nat → Value) (A' : Nat → Option Addr) (c' : Nat → Nat) (k sk gm : Nat) (v : Value) (w : World) : Prop :=
  ∃ (t : Nat) (Y : List Value), t ≤ 64 ∧ v = .int .i64 t ∧ Y.length = 64 * sz ∧ Y.take (t * sz) = mkF mc (k + N) t ∧ F0 sz e st mc N gg w0 V A' c' 0 sk w ∧ OwnW sz w sk e (some ⟨gm, 0, none⟩) 64 64 Y
end
theorem yieldsP_row {o : Oper} {a : Act} {w : World} (T : TypeId) (cs : List Value) (x : Operand) (ho : o.op = .load T x) (b f : Nat) (hx : a.eval x = .pointer (some ⟨b, f, none⟩)) (hg : World.rangeAt w b f cs) {d : TypeDesc} (hu : Tryz.prog.underlying T = some d) (hd : d.isRow = true) (hi : (Tryz.prog.info? T).map (·.size) = some cs.length) :
    Stab.yields Tryz.prog o a w (fun u w' => Ext w w' ∧ u = .agg cs.toArray) := by
  simp only [Stab.yields, Stab.yieldsUpon, execOp, ho, hx, Instr.loadAt, Instr.sureAddr, Sem.run_bind, Sem.run_pure, Result.andThen_ok, run_loadVar_mid w b f T cs d hg hu hd hi]
  exact ⟨Ext.refl _, trivial⟩
theorem own64 (w : World) (e : TypeId) (z : Array Value) (sz sk : Nat) (_hz : z.size = sz) (hB : sk ≤ w.heap.size) : OwnW sz (w.alloc (.cells (madeCells z (64 * sz)) e)) sk e (some ⟨w.heap.size, 0, none⟩) 64 64 (madeCells z (64 * sz)).toList :=
  OwnW.mk hB (heap_alloc_new w _) (by simp) (by unfold maxLen; omega) (size_madeCells _ _) (List.take_of_length_le (by rw [Array.length_toList, size_madeCells]; exact Nat.le_refl _))
theorem rd_new (w : World) (cs : Array Value) (e : TypeId) : Rd (w.alloc (.cells cs e)) (some ⟨w.heap.size, 0, none⟩) cs.toList := fun j v hj => ⟨_, rfl, by
  rw [add_lit', Nat.zero_add, cell_of_heap (heap_alloc_new w _)]
  simpa using hj⟩
end Go.Proofs.YtjnllilmimngoaaGreatDoor
namespace Go.Proofs.YtjnllilmimngoaaGreatDoor
open Go.RowKit

def mcInts : Nat → Nat → List Value := fun k i => [.int .i64 (markI k i)]
theorem mcInts_len (k i : Nat) : (mcInts k i).length = 1 := rfl
theorem infInts : (Tryz.prog.info? 3).map (fun i => (i.zero.map (fun z => z.cells.size), i.size, i.bytes)) = some (some 1, 1, 8) := by kernel_rfl
theorem infzInts : (Tryz.prog.info? 3).map (fun i => (i.zero, i.size, i.bytes)) = some (some (.int .i64 0), 1, 8) := by kernel_rfl
theorem infrInts : (Tryz.prog.info? 29).map (fun i => (i.zero, i.size, i.bytes)) = some (some (.slice none 0 0), 1, 24) := by kernel_rfl
theorem rowsInts (N : Nat) (hn : N ≤ 100000) (w : World) : (Instr.makeSlice 83 (.int .i64 (N : Int)) (.int .i64 (N : Int))).run Tryz.prog w = .ok (.slice (some ⟨w.heap.size, 0, none⟩) N N) (w.alloc (.cells (madeCells #[.slice none 0 0] N) 29)) := by
  obtain ⟨i0, hi, hz0, hz1, hz2⟩ := info_parts infrInts
  exact run_mk0 (P := Tryz.prog) 83 29 i0 _ Tryz.underlying83 hi hz0 hz1 N N (N : Int) rfl (Nat.le_refl _) (by omega) (by omega) w
theorem mk64Ints (w : World) : (Instr.makeSlice 29 (.int .i64 64) (.int .i64 64)).run Tryz.prog w = .ok (.slice (some ⟨w.heap.size, 0, none⟩) 64 64) (w.alloc (.cells (madeCells #[.int .i64 0] (64 * 1)) 3)) := by
  obtain ⟨i0, hi, hz0, hz1, hz2⟩ := info_parts infzInts
  have hr := run_make (P := Tryz.prog) w 29 3 i0 _ Tryz.underlying29 hi hz0 .i64 .i64 64 64 (by omega) (by omega) (by rw [hz2]; omega) (by omega)
  rw [hz1] at hr
  exact hr
theorem oneInts (k i : Nat) : ∀ u ∈ mcInts k i, u.oneCell' = true := by
  intro u hu
  simp only [mcInts, List.mem_cons, List.not_mem_nil, or_false] at hu
  rcases hu with rfl
  rfl
theorem oneFInts (k n : Nat) : ∀ u ∈ mkF mcInts k n, u.oneCell' = true := by
  intro u hu
  obtain ⟨i, _, hi⟩ := List.mem_flatMap.1 hu
  exact oneInts k i u hi
set_option maxRecDepth 100000 in
set_option maxHeartbeats 4000000 in
theorem flatInts_0 (B : Nat) (L : Option Addr) (cl N : Nat) (A : Nat → Option Addr) (w : World) (hL : LsW 29 w B L cl N A (fun _ => 0) (fun _ => 0)) (hN : N ≤ 50000) :
    Calls Tryz.prog 71 #[.slice L N cl] w fun e w' => e = .returned (.bool true) ∧ Ext w w' := by
  have HL := Lib.hid hL
  clear hL
  go_enter Tryz.func71, Tryz.ntmps71
  go_upto_block 0 with (fail)
  go_cut [] (fun w' => Ext w w')
  case first =>
    go_wp2_with fail
    go_loopw [3] (fun v wr => Z1 N w v wr) (fun v _ => N - (intOf v).toNat)
    case atStart => exact ⟨0, Nat.zero_le _, rfl, Ext.refl _⟩
    case round =>
      obtain ⟨k, hk, rfl, hE⟩ := hrel
      have HE := Lib.hid hE
      clear hE
      by_cases hlt : k < N
      · obtain ⟨gl, rfl, hcl⟩ := (HL.out.ext HE.out).cell hlt
        go_wp2_with fail
        go_rounds 1
        go_wp2_with fail
        exact ⟨⟨k + 1, by omega, by go_num, HE.out⟩, by simp [intOf]; omega⟩
      · obtain rfl : k = N := by omega
        go_wp2_with fail
        go_meet
        case rel => exact HE.out
  case rest =>
    have hmk := rowsInts N (by omega)
    go_upto_block 4 with (fail)
    clear hmk
    have hS : F0 1 3 29 mcInts N wc.heap.size w (fun _ => .slice none 0 0) (fun _ => none) (fun _ => 0) 0 (wc.heap.size + 1) (wc.alloc (.cells (madeCells #[.slice none 0 0] N) 29)) := F0.start hcut (by omega)
    clear hcut
    generalize hgg : wc.heap.size = gg at *
    generalize wc.alloc (.cells (madeCells #[.slice none 0 0] N) 29) = w1 at *
    clear hgg
    go_cut [] (fun w' => Z2 1 3 29 mcInts N gg w N w')
    case first =>
      go_wp2_with fail
      go_loopw [6] (fun v wr => Z2R 1 3 29 mcInts N gg w v wr) (fun v _ => N - (intOf v).toNat)
      case atStart => exact ⟨0, Nat.zero_le _, rfl, _, _, _, _, hS⟩
      case round =>
        clear hS
        obtain ⟨k, hk, rfl, V, A', c', sk, hS⟩ := hrel
        by_cases hlt : k < N
        · obtain ⟨gl, rfl, hcl⟩ := (HL.out.ext hS.x).cell hlt
          have hS2 := hS.mono hS.s.2.2 (Nat.le_refl _)
          clear hS
          go_wp2_with fail
          obtain ⟨wo, rfl⟩ : ∃ wo : World, wo = wr := ⟨_, rfl⟩
          go_loopw [7, 8] (fun v i wr => Z3 1 3 29 mcInts N gg w V A' c' k wo.heap.size v i wr) (fun _ i _ => 64 - (intOf i).toNat)
          case atStart => exact ⟨0, _, _, Nat.zero_le _, rfl, rfl, hS2, .inl ⟨rfl, rfl, rfl⟩⟩
          case round =>
            clear hS2 hcl
            obtain ⟨t, A2, c2, ht, rfl, rfl, hS, hO⟩ := hrel
            obtain ⟨gl2, hgl2, hcl⟩ := (HL.out.ext hS.x).cell hlt
            injection hgl2 with hgl2
            injection hgl2 with hgl2
            subst hgl2
            by_cases hlt2 : t < 64
            · have x0 : (0 : Int) + (t : Int) = (t : Int) := by omega
              have HM := Lib.hid (fun wx => mark_any k t wx (by omega) (by omega))
              have HS := Lib.hid hS
              have HO := Lib.hid hO
              clear hS hO
              have hskw := HS.out.s.2.2
              go_wp2_with (first | (go_at_call 98; refine (HM.out _).mono ?_; rintro e w' ⟨rfl, rfl⟩) | (at_builtin; refine wpList_append_Z _ rfl _ _ 29 rfl 3 1 8 Tryz.underlying29 infInts (by omega) wo.heap.size _ _ _ (mkF mcInts k t) rfl (HO.out.imp id (fun h => ⟨h.1, h.2.ext ((Ext.refl _).alloc _)⟩)) _ _ _ (mcInts k t) rfl (mcInts_len k t) (rd_new _ _ _) (oneInts k t) (by omega) (by unfold maxLen; omega) (by omega) (by simp; omega) ?_; intro A3 c3 w3 hO3 hF3 hA3; have HO3 := Lib.hid hO3; have HF3 := Lib.hid hF3; have HSW := Lib.hid (HS.out.ext ((Ext.refl wr).alloc (.cells #[.int .i64 (markI k t)] 3))); clear hO3 hF3 hA3))
              have hS3 := HSW.out.grow HF3.out (fun i hi => by
                rcases HO.out with ⟨h0, _⟩ | ⟨_, h1⟩
                · exact absurd h0 hi.1
                · exact (h1.lt hi.2).1)
              exact ⟨⟨t + 1, _, _, by omega, by go_num, rfl, hS3, .inr ⟨by omega, by rw [mkF_succ]; exact HO3.out⟩⟩, by simp [intOf]; omega⟩
            · obtain rfl : t = 64 := by omega
              have hO2 : OwnW 1 wr wo.heap.size 3 A2 64 c2 (mkF mcInts k 64) := by
                rcases hO with ⟨h0, _⟩ | ⟨_, h1⟩
                · omega
                · exact h1
              have hgk := hS.gcell hlt
              have hgf := hS.gfz k
              have HS4 := Lib.hid (hS.store hO2)
              clear hS hO hO2
              go_wp2_with fail
              exact ⟨⟨k + 1, by omega, by go_num, _, _, _, _, HS4.out⟩, by simp [intOf]; omega⟩
        · obtain rfl : k = N := by omega
          go_wp2_with fail
          go_meet
          case rel => exact ⟨V, A', c', sk, hS⟩
    case rest =>
      clear hS
      have hS := hcut
      clear hcut
      go_upto_block 8 with (fail)
      go_cut [] (fun w' => Z2 1 3 29 mcInts N gg w N w')
      case first =>
        go_wp2_with fail
        go_loopw [9] (fun v wr => Z5R 1 3 29 mcInts N gg w v wr) (fun v _ => N - (intOf v).toNat)
        case atStart => exact ⟨0, Nat.zero_le _, rfl, hS⟩
        case round =>
          clear hS
          obtain ⟨k, hk, rfl, V, A', c', sk, hS⟩ := hrel
          by_cases hlt : k < N
          · go_wp2_with fail
            obtain ⟨wo, rfl⟩ : ∃ wo : World, wo = wr := ⟨_, rfl⟩
            go_loopw [10] (fun v wr => Z6 1 3 29 mcInts N gg w V A' c' sk v wr) (fun v _ => 64 - (intOf v).toNat)
            case atStart => exact ⟨0, Nat.zero_le _, rfl, hS⟩
            case round =>
              clear hS
              obtain ⟨t, ht, rfl, hS⟩ := hrel
              obtain ⟨hV, hO, _⟩ := hS.r k hlt
              have hgk := hS.gcell hlt
              rw [hV] at hgk
              obtain ⟨gl, rfl, hcl⟩ := (HL.out.ext hS.x).cell hlt
              by_cases hlt2 : t < 64
              · obtain ⟨g', hA'⟩ := hO.some_ (by omega)
                rw [hA'] at hgk hO
                have hc1 : wr.cell? ⟨g', t, none⟩ = some (.int .i64 (markI k t)) := by have h9 := Rd.at0 hO.rd (mkF_get mcInts_len hlt2 (j := 0) rfl); simpa using h9
                clear hA' hO hV
                have hdi : decide ((t : Int) < 0) = false := by simp
                go_wp2_with fail
                go_quiet ((go_at_call 98; exact Calls.quiet_of_same ((mark_any k t _ (by omega) (by omega)).mono fun _ _ h => ⟨h.1, h.2.symm⟩)))
                go_wp2_with fail
                exact ⟨⟨t + 1, by omega, by go_num, hS.ext ((Ext.refl _).drewN _)⟩, by simp [intOf]; omega⟩
              · obtain rfl : t = 64 := by omega
                go_wp2_with fail
                exact ⟨⟨k + 1, by omega, by go_num, V, A', c', sk, hS⟩, by simp [intOf]; omega⟩
          · obtain rfl : k = N := by omega
            go_wp2_with fail
            go_meet
            case rel => exact ⟨V, A', c', sk, hS⟩
      case rest =>
        clear hS
        obtain ⟨V, A', c', sk, hS⟩ := hcut
        go_upto_block 12 with (fail)
        go_cut [] (fun w' => Z2 1 3 29 mcInts N gg w 0 w')
        case first =>
          go_wp2_with fail
          go_loopw [11] (fun v wr => Z7R 1 3 29 mcInts N gg w v wr) (fun v _ => N - (intOf v).toNat)
          case atStart => exact ⟨0, Nat.zero_le _, rfl, _, _, _, _, hS.zero⟩
          case round =>
            clear hS V A' c' sk
            obtain ⟨k, hk, rfl, V, A', c', sk, hS⟩ := hrel
            by_cases hlt : k < N
            · have hmk := mk64Ints
              have hS2 := hS.mono hS.s.2.2 (Nat.le_refl _)
              clear hS
              go_wp2_with fail
              clear hmk
              obtain ⟨wo, rfl⟩ : ∃ wo : World, wo = wr := ⟨_, rfl⟩
              have hO0 := own64 wo 3 #[.int .i64 0] 1 wo.heap.size rfl (Nat.le_refl _)
              go_loopw [13] (fun v wr => Z8 1 3 29 mcInts N gg w V A' c' k wo.heap.size wo.heap.size v wr) (fun v _ => 64 - (intOf v).toNat)
              case atStart => exact ⟨0, _, Nat.zero_le _, rfl, by rw [Array.length_toList, size_madeCells], by simp [mkF], hS2.ext ((Ext.refl _).alloc _), hO0⟩
              case round =>
                clear hS2 hO0
                obtain ⟨t, Y, ht, rfl, hY, hYt, hS, hO⟩ := hrel
                have HS := Lib.hid hS
                have HO := Lib.hid hO
                have HY := Lib.hid hY
                have HYT := Lib.hid hYt
                clear hS hO hY hYt
                by_cases hlt2 : t < 64
                · have HM := Lib.hid (fun wx => mark_any (k + N) t wx (by omega) (by omega))
                  rw [Int.natCast_add] at HM
                  obtain ⟨⟨ux, hcx⟩, hfx⟩ := (HasRow.ofW HO.out).cell1 hlt2
                  go_wp2_with (go_at_call 98; refine (HM.out _).mono ?_; rintro e w' ⟨rfl, rfl⟩)
                  exact ⟨⟨t + 1, _, by omega, by go_num, (mark_next mcInts_len HY.out hlt2 HYT.out).1, (mark_next mcInts_len HY.out hlt2 HYT.out).2, HS.out.grow (Stored.one (w := wr) (g := wo.heap.size) (i := t) _).1 (fun i hi => by have h5 : i = wo.heap.size := hi; omega), HO.out.stored (Stored.one _) hlt2 rfl⟩, by simp [intOf]; omega⟩
                · obtain rfl : t = 64 := by omega
                  obtain rfl : Y = mkF mcInts (k + N) 64 := by have h := HYT.out; rw [List.take_of_length_le (by rw [HY.out]; omega)] at h; exact h
                  obtain ⟨gl, rfl, hcl⟩ := (HL.out.ext HS.out.x).cell hlt
                  have hskw := HS.out.s.2.2
                  go_wp2_with (at_builtin; refine wpList_append_Z _ rfl _ _ 29 rfl 3 1 8 Tryz.underlying29 infInts (by omega) wo.heap.size _ _ _ [] rfl (.inl ⟨rfl, rfl, rfl⟩) _ _ _ (mkF mcInts (k + N) 64) rfl (by rw [mkF_len mcInts_len]) HO.out.rd (oneFInts (k + N) 64) (by omega) (by unfold maxLen; omega) (by omega) (by omega) ?_; intro A3 c3 w3 hO3 hF3 hA3; have HS3 := Lib.hid (HS.out.grow hF3 (fun i hi => absurd rfl hi.1)); have hgk := HS3.out.gcell hlt; have hgf := HS3.out.gfz k; clear hO3 hF3 hA3)
                  exact ⟨⟨k + 1, by omega, by go_num, _, _, _, _, HS3.out.put (Nat.zero_le _) _⟩, by simp [intOf]; omega⟩
            · obtain rfl : k = N := by omega
              go_wp2_with fail
              go_meet
              case rel => exact ⟨V, A', c', sk, hS⟩
        case rest =>
          clear hS V A' c' sk
          obtain ⟨V, A', c', sk, hS⟩ := hcut
          go_wp2_with fail
          go_loopw [14] (fun v wr => Z1 N w v wr) (fun v _ => N - (intOf v).toNat)
          case atStart => exact ⟨0, Nat.zero_le _, rfl, hS.x⟩
          case round =>
            clear hS V A' c' sk
            obtain ⟨k, hk, rfl, hE⟩ := hrel
            by_cases hlt : k < N
            · obtain ⟨gl, rfl, hcl⟩ := (HL.out.ext hE).cell hlt
              go_wp2_with fail
              go_rounds 1
              go_wp2_with fail
              exact ⟨⟨k + 1, by omega, by go_num, hE⟩, by simp [intOf]; omega⟩
            · obtain rfl : k = N := by omega
              go_wp2_with fail
              go_ret
              exact ⟨rfl, hE⟩
end Go.Proofs.YtjnllilmimngoaaGreatDoor
namespace Go.Proofs.YtjnllilmimngoaaGreatDoor
open Go.RowKit

def mcLimbs : Nat → Nat → List Value := fun k i => [.int .u32 (IntKind.u32.wrap (markI k i))]
theorem mcLimbs_len (k i : Nat) : (mcLimbs k i).length = 1 := rfl
theorem infLimbs : (Tryz.prog.info? 145).map (fun i => (i.zero.map (fun z => z.cells.size), i.size, i.bytes)) = some (some 1, 1, 4) := by kernel_rfl
theorem infzLimbs : (Tryz.prog.info? 145).map (fun i => (i.zero, i.size, i.bytes)) = some (some (.int .u32 0), 1, 4) := by kernel_rfl
theorem infrLimbs : (Tryz.prog.info? 30).map (fun i => (i.zero, i.size, i.bytes)) = some (some (.slice none 0 0), 1, 24) := by kernel_rfl
theorem rowsLimbs (N : Nat) (hn : N ≤ 100000) (w : World) : (Instr.makeSlice 81 (.int .i64 (N : Int)) (.int .i64 (N : Int))).run Tryz.prog w = .ok (.slice (some ⟨w.heap.size, 0, none⟩) N N) (w.alloc (.cells (madeCells #[.slice none 0 0] N) 30)) := by
  obtain ⟨i0, hi, hz0, hz1, hz2⟩ := info_parts infrLimbs
  exact run_mk0 (P := Tryz.prog) 81 30 i0 _ Tryz.underlying81 hi hz0 hz1 N N (N : Int) rfl (Nat.le_refl _) (by omega) (by omega) w
theorem mk64Limbs (w : World) : (Instr.makeSlice 30 (.int .i64 64) (.int .i64 64)).run Tryz.prog w = .ok (.slice (some ⟨w.heap.size, 0, none⟩) 64 64) (w.alloc (.cells (madeCells #[.int .u32 0] (64 * 1)) 145)) := by
  obtain ⟨i0, hi, hz0, hz1, hz2⟩ := info_parts infzLimbs
  have hr := run_make (P := Tryz.prog) w 30 145 i0 _ Tryz.underlying30 hi hz0 .i64 .i64 64 64 (by omega) (by omega) (by rw [hz2]; omega) (by omega)
  rw [hz1] at hr
  exact hr
theorem oneLimbs (k i : Nat) : ∀ u ∈ mcLimbs k i, u.oneCell' = true := by
  intro u hu
  simp only [mcLimbs, List.mem_cons, List.not_mem_nil, or_false] at hu
  rcases hu with rfl
  rfl
theorem oneFLimbs (k n : Nat) : ∀ u ∈ mkF mcLimbs k n, u.oneCell' = true := by
  intro u hu
  obtain ⟨i, _, hi⟩ := List.mem_flatMap.1 hu
  exact oneLimbs k i u hi
set_option maxRecDepth 100000 in
set_option maxHeartbeats 4000000 in
theorem flatLimbs_0 (B : Nat) (L : Option Addr) (cl N : Nat) (A : Nat → Option Addr) (w : World) (hL : LsW 30 w B L cl N A (fun _ => 0) (fun _ => 0)) (hN : N ≤ 50000) :
    Calls Tryz.prog 69 #[.slice L N cl] w fun e w' => e = .returned (.bool true) ∧ Ext w w' := by
  have HL := Lib.hid hL
  clear hL
  go_enter Tryz.func69, Tryz.ntmps69
  go_upto_block 0 with (fail)
  go_cut [] (fun w' => Ext w w')
  case first =>
    go_wp2_with fail
    go_loopw [3] (fun v wr => Z1 N w v wr) (fun v _ => N - (intOf v).toNat)
    case atStart => exact ⟨0, Nat.zero_le _, rfl, Ext.refl _⟩
    case round =>
      obtain ⟨k, hk, rfl, hE⟩ := hrel
      have HE := Lib.hid hE
      clear hE
      by_cases hlt : k < N
      · obtain ⟨gl, rfl, hcl⟩ := (HL.out.ext HE.out).cell hlt
        go_wp2_with fail
        go_rounds 1
        go_wp2_with fail
        exact ⟨⟨k + 1, by omega, by go_num, HE.out⟩, by simp [intOf]; omega⟩
      · obtain rfl : k = N := by omega
        go_wp2_with fail
        go_meet
        case rel => exact HE.out
  case rest =>
    have hmk := rowsLimbs N (by omega)
    go_upto_block 4 with (fail)
    clear hmk
    have hS : F0 1 145 30 mcLimbs N wc.heap.size w (fun _ => .slice none 0 0) (fun _ => none) (fun _ => 0) 0 (wc.heap.size + 1) (wc.alloc (.cells (madeCells #[.slice none 0 0] N) 30)) := F0.start hcut (by omega)
    clear hcut
    generalize hgg : wc.heap.size = gg at *
    generalize wc.alloc (.cells (madeCells #[.slice none 0 0] N) 30) = w1 at *
    clear hgg
    go_cut [] (fun w' => Z2 1 145 30 mcLimbs N gg w N w')
    case first =>
      go_wp2_with fail
      go_loopw [6] (fun v wr => Z2R 1 145 30 mcLimbs N gg w v wr) (fun v _ => N - (intOf v).toNat)
      case atStart => exact ⟨0, Nat.zero_le _, rfl, _, _, _, _, hS⟩
      case round =>
        clear hS
        obtain ⟨k, hk, rfl, V, A', c', sk, hS⟩ := hrel
        by_cases hlt : k < N
        · obtain ⟨gl, rfl, hcl⟩ := (HL.out.ext hS.x).cell hlt
          have hS2 := hS.mono hS.s.2.2 (Nat.le_refl _)
          clear hS
          go_wp2_with fail
          obtain ⟨wo, rfl⟩ : ∃ wo : World, wo = wr := ⟨_, rfl⟩
          go_loopw [7, 8] (fun v i wr => Z3 1 145 30 mcLimbs N gg w V A' c' k wo.heap.size v i wr) (fun _ i _ => 64 - (intOf i).toNat)
          case atStart => exact ⟨0, _, _, Nat.zero_le _, rfl, rfl, hS2, .inl ⟨rfl, rfl, rfl⟩⟩
          case round =>
            clear hS2 hcl
            obtain ⟨t, A2, c2, ht, rfl, rfl, hS, hO⟩ := hrel
            obtain ⟨gl2, hgl2, hcl⟩ := (HL.out.ext hS.x).cell hlt
            injection hgl2 with hgl2
            injection hgl2 with hgl2
            subst hgl2
            by_cases hlt2 : t < 64
            · have x0 : (0 : Int) + (t : Int) = (t : Int) := by omega
              have HM := Lib.hid (fun wx => mark_any k t wx (by omega) (by omega))
              have HS := Lib.hid hS
              have HO := Lib.hid hO
              clear hS hO
              have hskw := HS.out.s.2.2
              go_wp2_with (first | (go_at_call 98; refine (HM.out _).mono ?_; rintro e w' ⟨rfl, rfl⟩) | (at_builtin; refine wpList_append_Z _ rfl _ _ 30 rfl 145 1 4 Tryz.underlying30 infLimbs (by omega) wo.heap.size _ _ _ (mkF mcLimbs k t) rfl (HO.out.imp id (fun h => ⟨h.1, h.2.ext ((Ext.refl _).alloc _)⟩)) _ _ _ (mcLimbs k t) rfl (mcLimbs_len k t) (rd_new _ _ _) (oneLimbs k t) (by omega) (by unfold maxLen; omega) (by omega) (by simp; omega) ?_; intro A3 c3 w3 hO3 hF3 hA3; have HO3 := Lib.hid hO3; have HF3 := Lib.hid hF3; have HSW := Lib.hid (HS.out.ext ((Ext.refl wr).alloc (.cells #[.int .u32 (IntKind.u32.wrap (markI k t))] 145))); clear hO3 hF3 hA3))
              have hS3 := HSW.out.grow HF3.out (fun i hi => by
                rcases HO.out with ⟨h0, _⟩ | ⟨_, h1⟩
                · exact absurd h0 hi.1
                · exact (h1.lt hi.2).1)
              exact ⟨⟨t + 1, _, _, by omega, by go_num, rfl, hS3, .inr ⟨by omega, by rw [mkF_succ]; exact HO3.out⟩⟩, by simp [intOf]; omega⟩
            · obtain rfl : t = 64 := by omega
              have hO2 : OwnW 1 wr wo.heap.size 145 A2 64 c2 (mkF mcLimbs k 64) := by
                rcases hO with ⟨h0, _⟩ | ⟨_, h1⟩
                · omega
                · exact h1
              have hgk := hS.gcell hlt
              have hgf := hS.gfz k
              have HS4 := Lib.hid (hS.store hO2)
              clear hS hO hO2
              go_wp2_with fail
              exact ⟨⟨k + 1, by omega, by go_num, _, _, _, _, HS4.out⟩, by simp [intOf]; omega⟩
        · obtain rfl : k = N := by omega
          go_wp2_with fail
          go_meet
          case rel => exact ⟨V, A', c', sk, hS⟩
    case rest =>
      clear hS
      have hS := hcut
      clear hcut
      go_upto_block 8 with (fail)
      go_cut [] (fun w' => Z2 1 145 30 mcLimbs N gg w N w')
      case first =>
        go_wp2_with fail
        go_loopw [9] (fun v wr => Z5R 1 145 30 mcLimbs N gg w v wr) (fun v _ => N - (intOf v).toNat)
        case atStart => exact ⟨0, Nat.zero_le _, rfl, hS⟩
        case round =>
          clear hS
          obtain ⟨k, hk, rfl, V, A', c', sk, hS⟩ := hrel
          by_cases hlt : k < N
          · go_wp2_with fail
            obtain ⟨wo, rfl⟩ : ∃ wo : World, wo = wr := ⟨_, rfl⟩
            go_loopw [10] (fun v wr => Z6 1 145 30 mcLimbs N gg w V A' c' sk v wr) (fun v _ => 64 - (intOf v).toNat)
            case atStart => exact ⟨0, Nat.zero_le _, rfl, hS⟩
            case round =>
              clear hS
              obtain ⟨t, ht, rfl, hS⟩ := hrel
              obtain ⟨hV, hO, _⟩ := hS.r k hlt
              have hgk := hS.gcell hlt
              rw [hV] at hgk
              obtain ⟨gl, rfl, hcl⟩ := (HL.out.ext hS.x).cell hlt
              by_cases hlt2 : t < 64
              · obtain ⟨g', hA'⟩ := hO.some_ (by omega)
                rw [hA'] at hgk hO
                have hc1 : wr.cell? ⟨g', t, none⟩ = some (.int .u32 (IntKind.u32.wrap (markI k t))) := by have h9 := Rd.at0 hO.rd (mkF_get mcLimbs_len hlt2 (j := 0) rfl); simpa using h9
                clear hA' hO hV
                have hdi : decide ((t : Int) < 0) = false := by simp
                go_wp2_with fail
                go_quiet ((go_at_call 98; exact Calls.quiet_of_same ((mark_any k t _ (by omega) (by omega)).mono fun _ _ h => ⟨h.1, h.2.symm⟩)))
                go_wp2_with fail
                exact ⟨⟨t + 1, by omega, by go_num, hS.ext ((Ext.refl _).drewN _)⟩, by simp [intOf]; omega⟩
              · obtain rfl : t = 64 := by omega
                go_wp2_with fail
                exact ⟨⟨k + 1, by omega, by go_num, V, A', c', sk, hS⟩, by simp [intOf]; omega⟩
          · obtain rfl : k = N := by omega
            go_wp2_with fail
            go_meet
            case rel => exact ⟨V, A', c', sk, hS⟩
      case rest =>
        clear hS
        obtain ⟨V, A', c', sk, hS⟩ := hcut
        go_upto_block 12 with (fail)
        go_cut [] (fun w' => Z2 1 145 30 mcLimbs N gg w 0 w')
        case first =>
          go_wp2_with fail
          go_loopw [11] (fun v wr => Z7R 1 145 30 mcLimbs N gg w v wr) (fun v _ => N - (intOf v).toNat)
          case atStart => exact ⟨0, Nat.zero_le _, rfl, _, _, _, _, hS.zero⟩
          case round =>
            clear hS V A' c' sk
            obtain ⟨k, hk, rfl, V, A', c', sk, hS⟩ := hrel
            by_cases hlt : k < N
            · have hmk := mk64Limbs
              have hS2 := hS.mono hS.s.2.2 (Nat.le_refl _)
              clear hS
              go_wp2_with fail
              clear hmk
              obtain ⟨wo, rfl⟩ : ∃ wo : World, wo = wr := ⟨_, rfl⟩
              have hO0 := own64 wo 145 #[.int .u32 0] 1 wo.heap.size rfl (Nat.le_refl _)
              go_loopw [13] (fun v wr => Z8 1 145 30 mcLimbs N gg w V A' c' k wo.heap.size wo.heap.size v wr) (fun v _ => 64 - (intOf v).toNat)
              case atStart => exact ⟨0, _, Nat.zero_le _, rfl, by rw [Array.length_toList, size_madeCells], by simp [mkF], hS2.ext ((Ext.refl _).alloc _), hO0⟩
              case round =>
                clear hS2 hO0
                obtain ⟨t, Y, ht, rfl, hY, hYt, hS, hO⟩ := hrel
                have HS := Lib.hid hS
                have HO := Lib.hid hO
                have HY := Lib.hid hY
                have HYT := Lib.hid hYt
                clear hS hO hY hYt
                by_cases hlt2 : t < 64
                · have HM := Lib.hid (fun wx => mark_any (k + N) t wx (by omega) (by omega))
                  rw [Int.natCast_add] at HM
                  obtain ⟨⟨ux, hcx⟩, hfx⟩ := (HasRow.ofW HO.out).cell1 hlt2
                  go_wp2_with (go_at_call 98; refine (HM.out _).mono ?_; rintro e w' ⟨rfl, rfl⟩)
                  exact ⟨⟨t + 1, _, by omega, by go_num, (mark_next mcLimbs_len HY.out hlt2 HYT.out).1, (mark_next mcLimbs_len HY.out hlt2 HYT.out).2, HS.out.grow (Stored.one (w := wr) (g := wo.heap.size) (i := t) _).1 (fun i hi => by have h5 : i = wo.heap.size := hi; omega), HO.out.stored (Stored.one _) hlt2 rfl⟩, by simp [intOf]; omega⟩
                · obtain rfl : t = 64 := by omega
                  obtain rfl : Y = mkF mcLimbs (k + N) 64 := by have h := HYT.out; rw [List.take_of_length_le (by rw [HY.out]; omega)] at h; exact h
                  obtain ⟨gl, rfl, hcl⟩ := (HL.out.ext HS.out.x).cell hlt
                  have hskw := HS.out.s.2.2
                  go_wp2_with (at_builtin; refine wpList_append_Z _ rfl _ _ 30 rfl 145 1 4 Tryz.underlying30 infLimbs (by omega) wo.heap.size _ _ _ [] rfl (.inl ⟨rfl, rfl, rfl⟩) _ _ _ (mkF mcLimbs (k + N) 64) rfl (by rw [mkF_len mcLimbs_len]) HO.out.rd (oneFLimbs (k + N) 64) (by omega) (by unfold maxLen; omega) (by omega) (by omega) ?_; intro A3 c3 w3 hO3 hF3 hA3; have HS3 := Lib.hid (HS.out.grow hF3 (fun i hi => absurd rfl hi.1)); have hgk := HS3.out.gcell hlt; have hgf := HS3.out.gfz k; clear hO3 hF3 hA3)
                  exact ⟨⟨k + 1, by omega, by go_num, _, _, _, _, HS3.out.put (Nat.zero_le _) _⟩, by simp [intOf]; omega⟩
            · obtain rfl : k = N := by omega
              go_wp2_with fail
              go_meet
              case rel => exact ⟨V, A', c', sk, hS⟩
        case rest =>
          clear hS V A' c' sk
          obtain ⟨V, A', c', sk, hS⟩ := hcut
          go_wp2_with fail
          go_loopw [14] (fun v wr => Z1 N w v wr) (fun v _ => N - (intOf v).toNat)
          case atStart => exact ⟨0, Nat.zero_le _, rfl, hS.x⟩
          case round =>
            clear hS V A' c' sk
            obtain ⟨k, hk, rfl, hE⟩ := hrel
            by_cases hlt : k < N
            · obtain ⟨gl, rfl, hcl⟩ := (HL.out.ext hE).cell hlt
              go_wp2_with fail
              go_rounds 1
              go_wp2_with fail
              exact ⟨⟨k + 1, by omega, by go_num, hE⟩, by simp [intOf]; omega⟩
            · obtain rfl : k = N := by omega
              go_wp2_with fail
              go_ret
              exact ⟨rfl, hE⟩
end Go.Proofs.YtjnllilmimngoaaGreatDoor
