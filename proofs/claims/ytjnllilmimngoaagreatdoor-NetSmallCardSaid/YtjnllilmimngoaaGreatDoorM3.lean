/-
  errors.Is at the letters' own errors.
  Errors that are joined: errors.Is finds the number.
  errors.Join: nil, or one error that holds all that are not nil.
  The letters' small tests: within, holds, right, someones.
  Members: entry.Right.
  Members of bytes; what a good entry is.
-/
import Derived.Test.YtjnllilmimngoaaGreatDoorM2
import Derived.Test.YtjnllilmimngoaaGreatDoorRows
import Derived.WalkKit
import Derived.WalkSpells
import Derived.WalkLawsBesides
import Derived.LaidEql
import Derived.Stop.Asserts
import Derived.RowKitTokens
import Derived.Laws.StructEq
namespace Go.Proofs.YtjnllilmimngoaaGreatDoor
open Go.RowKit Go.Extern.Stop Go.Stop Go.Extern

namespace Er
theorem typeOfN (v : Value) (w : World) : (Extern.ReflectliteType.typeOf #[.iface 147 v]).run Tryz.prog w = .ok (.iface 216 (.agg #[.pointer (some ⟨1, 147, none⟩)])) w := by kernel_rfl
theorem noIsP (v : Value) (xT : TypeId) (w : World) : (Instr.typeAssert (.iface 240 v) xT 218 true).run Tryz.prog w = .ok (.tuple #[.nilIface, .bool false]) w := run_typeAssert_lacksB Tryz.underlying218 (by kernel_rfl) (by kernel_rfl) v xT w
theorem hasUnwrapP (v : Value) (xT : TypeId) (w : World) : (Instr.typeAssert (.iface 240 v) xT 221 true).run Tryz.prog w = .ok (.tuple #[.iface 240 v, .bool true]) w := run_typeAssert_hasB Tryz.underlying221 (by kernel_rfl) v xT w
theorem methodUnwrapP (v : Value) (w : World) : (Go.method 393 240 v "Unwrap").run Tryz.prog w = .ok (220, v) w := by kernel_rfl
theorem eqN (w : World) : (binOp .eql 101 (.iface 147 (.int .i64 2)) (.iface 147 (.int .i64 2))).run Tryz.prog w = .ok (.bool true) w := by kernel_rfl
end Er

def partV (s : ByteArray) : Value := .iface 240 (.agg #[.string s, .int .i64 2])
def argV : Value := .iface 147 (.int .i64 2)

theorem unwrapP (s : ByteArray) (w : World) : Calls Tryz.prog 220 #[.agg #[.string s, .int .i64 2]] w fun e w' => e = .returned (.iface 147 (.int .i64 2)) ∧ Ext w w' := by
  go_enter Tryz.func220, Tryz.ntmps220
  go_wp2
  go_ret
  exact ⟨rfl, (Ext.refl w).alloc _⟩
set_option maxRecDepth 100000 in
theorem is_part (s : ByteArray) (w : World) :
    Calls Tryz.prog 94 #[partV s, argV, .bool true] w fun e w' => e = .returned (.bool true) ∧ Ext w w' := by
  have nP := Er.noIsP
  have uP := Er.hasUnwrapP
  have mP := Er.methodUnwrapP
  have heq := Er.eqN
  have hty := run_eql_iface_types (P := Tryz.prog) 240 147 (.agg #[.string s, .int .i64 2]) (.int .i64 2) Tryz.underlying101 (by decide) w
  unfold partV argV
  go_enter Tryz.func94, Tryz.ntmps94
  go_wp2
  refine wp_loop_rounds 2 ?_
  rw [rounds_succ]
  go_wp2_with (go_at_call 220; refine (unwrapP s _).mono ?_; rintro e w1 ⟨rfl, hE1⟩)
  rw [rounds_succ]
  go_wp2
  go_ret
  exact ⟨rfl, hE1⟩
end Go.Proofs.YtjnllilmimngoaaGreatDoor
namespace Go.Proofs.YtjnllilmimngoaaGreatDoor
open Go.RowKit Go.Extern.Stop Go.Stop Go.Extern

namespace Er
theorem noIsJ (v : Value) (xT : TypeId) (w : World) : (Instr.typeAssert (.iface 236 v) xT 218 true).run Tryz.prog w = .ok (.tuple #[.nilIface, .bool false]) w := run_typeAssert_lacksB Tryz.underlying218 (by kernel_rfl) (by kernel_rfl) v xT w
theorem noUnwrapJ (v : Value) (xT : TypeId) (w : World) : (Instr.typeAssert (.iface 236 v) xT 221 true).run Tryz.prog w = .ok (.tuple #[.nilIface, .bool false]) w := run_typeAssert_lacksB Tryz.underlying221 (by kernel_rfl) (by kernel_rfl) v xT w
theorem hasUnwrapsJ (v : Value) (xT : TypeId) (w : World) : (Instr.typeAssert (.iface 236 v) xT 223 true).run Tryz.prog w = .ok (.tuple #[.iface 236 v, .bool true]) w := run_typeAssert_hasB Tryz.underlying223 (by kernel_rfl) v xT w
theorem methodUnwrapJ (v : Value) (w : World) : (Go.method 393 236 v "Unwrap").run Tryz.prog w = .ok (218, v) w := by kernel_rfl
end Er

def Bad : Nat → World → Value → Prop
  | 0, _, v => ∃ s, v = partV s
  | d + 1, w, v => Bad d w v ∨ ∃ j a n c v0, v = .iface 236 (.pointer (some ⟨j, 0, none⟩)) ∧ w.cell? ⟨j, 0, none⟩ = some (.slice (some ⟨a, 0, none⟩) n c) ∧ 1 ≤ n ∧ w.cell? ⟨a, 0, none⟩ = some v0 ∧ Bad d w v0
theorem Bad.up {d : Nat} {w : World} {v : Value} (h : Bad d w v) : ∀ k, Bad (d + k) w v
  | 0 => h
  | k + 1 => .inl (h.up k)
theorem Bad.le {d k : Nat} {w : World} {v : Value} (h : Bad d w v) (hk : d ≤ k) : Bad k w v := by
  have := h.up (k - d)
  rwa [show d + (k - d) = k by omega] at this
theorem Bad.ext {d : Nat} {w w' : World} {v : Value} (h : Bad d w v) (he : Ext w w') : Bad d w' v := by
  induction d generalizing v with
  | zero => exact h
  | succ d ih =>
    rcases h with h | ⟨j, a, n, c, v0, h1, h2, h3, h4, h5⟩
    · exact .inl (ih h)
    · exact .inr ⟨j, a, n, c, v0, h1, he.cell h2, h3, he.cell h4, ih h5⟩

theorem unwrapJ (j a n c : Nat) (w : World) (h : w.cell? ⟨j, 0, none⟩ = some (.slice (some ⟨a, 0, none⟩) n c)) : Calls Tryz.prog 218 #[.pointer (some ⟨j, 0, none⟩)] w fun e w' => e = .returned (.slice (some ⟨a, 0, none⟩) n c) ∧ Ext w w' := by
  go_enter Tryz.func218, Tryz.ntmps218
  go_wp2
  go_ret
  exact ⟨rfl, Ext.refl w⟩

set_option maxRecDepth 100000 in
set_option maxHeartbeats 1000000 in
theorem is_bad (d : Nat) : ∀ (v : Value) (w : World), Bad d w v → Calls Tryz.prog 94 #[v, argV, .bool true] w fun e w' => e = .returned (.bool true) ∧ Ext w w' := by
  induction d with
  | zero => rintro v w ⟨s, rfl⟩; exact is_part s w
  | succ d ih =>
    rintro v w (h | ⟨j, a, n, c, v0, rfl, h2, h3, h4, h5⟩)
    · exact ih v w h
    have nP := Er.noIsJ
    have uP := Er.noUnwrapJ
    have uP' := Er.hasUnwrapsJ
    have mP := Er.methodUnwrapJ
    have hty := run_eql_iface_types (P := Tryz.prog) 236 147 (.pointer (some ⟨j, 0, none⟩)) (.int .i64 2) Tryz.underlying101 (by decide)
    have hih := fun w' (he : Ext w w') => ih v0 w' (h5.ext he)
    clear ih h5
    unfold argV at hih ⊢
    go_enter Tryz.func94, Tryz.ntmps94
    go_wp2
    refine wp_loop_rounds 1 ?_
    rw [rounds_succ]
    go_wp2_with (go_at_call 218; refine (unwrapJ j a n c _ h2).mono ?_; rintro e w1 ⟨rfl, hE1⟩)
    refine wp_loop_rounds 1 ?_
    rw [rounds_succ]
    have h4' := hE1.cell h4
    go_wp2_with (go_at_call 94; refine (hih _ hE1).mono ?_; rintro e w2 ⟨rfl, hE2⟩)
    go_ret
    exact ⟨rfl, hE1.trans hE2⟩
end Go.Proofs.YtjnllilmimngoaaGreatDoor
namespace Go.Proofs.YtjnllilmimngoaaGreatDoor
open Go.RowKit Go.Extern.Stop Go.Stop Go.Extern

def isNil : Value → Bool
  | .nilIface => true
  | _ => false
def errsOf (vs : List Value) : List Value := vs.filter (fun v => !isNil v)
def NilOr (v : Value) : Prop := v = .nilIface ∨ ∃ T x, v = .iface T x
theorem errsOf_nil {vs : List Value} {k : Nat} (h : vs[k]? = some .nilIface) : errsOf (vs.take (k + 1)) = errsOf (vs.take k) := by
  rw [take_snoc' h]
  simp [errsOf, isNil]
theorem errsOf_err {vs : List Value} {k : Nat} {T : TypeId} {x : Value} (h : vs[k]? = some (.iface T x)) : errsOf (vs.take (k + 1)) = errsOf (vs.take k) ++ [.iface T x] := by
  rw [take_snoc' h]
  simp [errsOf, isNil]
theorem errsOf_le (vs : List Value) (k : Nat) : (errsOf (vs.take k)).length ≤ (errsOf vs).length := by
  have h : errsOf vs = errsOf (vs.take k) ++ errsOf (vs.drop k) := by
    unfold errsOf
    rw [← List.filter_append, List.take_append_drop]
  rw [h, List.length_append]
  omega

theorem Tryz.infoErr : (Tryz.prog.info? 101).map (fun i => (i.zero, i.size, i.bytes)) = some (some .nilIface, 1, 16) := by kernel_rfl
theorem mkErrs (n : Nat) (hn : n ≤ 1000000000) (w : World) : (Instr.makeSlice 224 (.int .i64 0) (.int .i64 (n : Int))).run Tryz.prog w = .ok (.slice (some ⟨w.heap.size, 0, none⟩) 0 n) (w.alloc (.cells (madeCells #[.nilIface] n) 101)) := by
  obtain ⟨i0, hi, hz0, hz1, hz2⟩ := info_parts Tryz.infoErr
  exact run_mk0 (P := Tryz.prog) 224 101 i0 _ Tryz.underlying224 hi hz0 hz1 0 n (n : Int) rfl (by omega) (by omega) (by omega) w

theorem appendErr {ops : Array Oper} {rest : List Oper} {o : Oper} {a : Act} {Q : Exit → Act → World → Prop} (w : World) (hgd : o.guard = none) (s x : Operand)
    (ho : o.op = .call { callee := .builtin .append, args := #[s, x], argTypes := #[224, 224] })
    (B : Nat) (A : Option Addr) (n c : Nat) (xs : List Value) (hs : a.eval s = .slice A n c) (hn : n = xs.length) (hown : Own w B 101 A c xs)
    (D : Option Addr) (cc : Nat) (v : Value) (hx : a.eval x = .slice D 1 cc) (hr : Rd w D [v]) (h1 : v.oneCell' = true)
    (h63 : xs.length ≤ 100000000000) (hbase : B ≤ w.heap.size)
    (h : ∀ A' c' m' w', m' = (xs ++ [v]).length → Own w' B 101 A' c' (xs ++ [v]) → Fr (blk A) w w' → (∀ i, blk A' i → blk A i ∨ w.heap.size ≤ i) → wpList Tryz.prog ops Q rest (a.put o.dst (.slice A' m' c')) w') : wpList Tryz.prog ops Q (o :: rest) a w := by
  obtain ⟨i0, hi, hz0, hz1, hz2⟩ := info_parts Tryz.infoErr
  refine wpList_append_rd w hgd s x 224 ho 101 i0 _ 16 Tryz.underlying224 hi hz0 hz1 hz2 rfl B A n c xs hs hn hown D 1 cc [v] hx rfl hr (fun u hu => by simp at hu; subst hu; exact h1) (by unfold maxLen; simp; omega) (by simp; omega) hbase ?_
  intro A' c' w' h1 h2 h3
  exact h A' c' _ w' rfl h1 h2 h3

theorem rdAt {w : World} {A : Option Addr} {vs : List Value} (h : Rd w A vs) {k : Nat} (hk : k < vs.length) (hv : ∀ v ∈ vs, NilOr v) :
    ∃ ad, A = some ad ∧ ((w.cell? (ad.add k) = some .nilIface ∧ vs[k]? = some .nilIface) ∨ ∃ T x, w.cell? (ad.add k) = some (.iface T x) ∧ vs[k]? = some (.iface T x)) := by
  obtain ⟨ad, ha, hc⟩ := h.at_ hk
  refine ⟨ad, ha, ?_⟩
  rcases hv _ (List.getElem_mem hk) with h1 | ⟨T, x, h1⟩
  · exact .inl ⟨by rw [hc, h1], by rw [List.getElem?_eq_getElem hk, h1]⟩
  · exact .inr ⟨T, x, by rw [hc, h1], by rw [List.getElem?_eq_getElem hk, h1]⟩

set_option maxHeartbeats 1000000 in
theorem join_none (A : Option Addr) (c : Nat) (vs : List Value) (w : World) (hA : Rd w A vs) (hl : vs.length ≤ 1000000) (hv : ∀ v ∈ vs, v = .nilIface) :
    Calls Tryz.prog 131 #[.slice A vs.length c] w fun e w' => e = .returned .nilIface ∧ Ext w w' := by
  go_enter Tryz.func131, Tryz.ntmps131
  go_wp2
  go_loop [3, 11] (fun n i => ∃ k : Nat, k ≤ vs.length ∧ n = .int .i64 0 ∧ i = .int .i64 k) (fun _ i => vs.length - (intOf i).toNat)
  case atStart => exact ⟨0, Nat.zero_le _, rfl, rfl⟩
  case round =>
    obtain ⟨k, hk, rfl, rfl⟩ := hrel
    by_cases hlt : k < vs.length
    · obtain ⟨ad, ha, hc⟩ := hA.at_ hlt
      rw [hv _ (List.getElem_mem hlt)] at hc
      subst ha
      go_wp2
      go_round
      case rel => exact ⟨k + 1, by omega, rfl, by go_num⟩
      case measure => simp [intOf]; omega
    · go_wp2
      go_ret
      exact ⟨rfl, Ext.refl _⟩

/-- What an error that is joined is: a block that holds the slice of all that are not nil. -/
def Joined (errs : List Value) (w : World) (e : Ending) (w' : World) : Prop :=
  ∃ j a c, e = .returned (.iface 236 (.pointer (some ⟨j, 0, none⟩))) ∧ w'.cell? ⟨j, 0, none⟩ = some (.slice (some ⟨a, 0, none⟩) errs.length c) ∧ Rd w' (some ⟨a, 0, none⟩) errs ∧ Ext w w'

def JoinRel (vs : List Value) (w0 : World) (g : Nat) (i : Value) (wr : World) : Prop :=
  ∃ (k c : Nat) (A : Option Addr), k ≤ vs.length ∧ i = .int .i64 k ∧ wr.heap[g]? = some (.cells #[.slice A (errsOf (vs.take k)).length c] 238) ∧ Own wr w0.heap.size 101 A c (errsOf (vs.take k)) ∧ Ext w0 wr

set_option maxHeartbeats 1000000 in
theorem join_some (A : Option Addr) (c : Nat) (vs : List Value) (w : World) (hA : Rd w A vs) (hl : vs.length ≤ 1000000) (hv : ∀ v ∈ vs, NilOr v) (hne : 0 < (errsOf vs).length) :
    Calls Tryz.prog 131 #[.slice A vs.length c] w (Joined (errsOf vs) w) := by
  have hle := errsOf_le vs
  have hall : (errsOf vs).length ≤ vs.length := List.length_filter_le _ _
  have HLE := Lib.hid hle
  clear hle
  go_enter Tryz.func131, Tryz.ntmps131
  go_wp2
  go_loop [3, 11] (fun n i => ∃ k m : Nat, k ≤ vs.length ∧ m = (errsOf (vs.take k)).length ∧ m ≤ k ∧ n = .int .i64 m ∧ i = .int .i64 k) (fun _ i => vs.length - (intOf i).toNat)
  case atStart => exact ⟨0, 0, Nat.zero_le _, rfl, Nat.le_refl _, rfl, rfl⟩
  case round =>
    obtain ⟨k, m, hk, hm, hmk, rfl, rfl⟩ := hrel
    have HM := Lib.hid hm
    clear hm
    by_cases hlt : k < vs.length
    · obtain ⟨ad, ha, h | ⟨T, x, h⟩⟩ := rdAt hA hlt hv
      · obtain ⟨hc, hg⟩ := h
        have HG := Lib.hid hg
        clear hg
        subst ha
        go_wp2
        go_round
        case rel => exact ⟨k + 1, m, by omega, by rw [errsOf_nil HG.out]; exact HM.out, by omega, rfl, by go_num⟩
        case measure => simp [intOf]; omega
      · obtain ⟨hc, hg⟩ := h
        have HG := Lib.hid hg
        clear hg
        subst ha
        go_wp2
        go_round
        case rel => exact ⟨k + 1, m + 1, by omega, by rw [errsOf_err HG.out, List.length_append]; simpa using HM.out, by omega, by go_num, by go_num⟩
        case measure => simp [intOf]; omega
    · obtain rfl : k = vs.length := by omega
      have hm0 : ((m : Int) == 0) = false := by have h := HM.out; rw [List.take_length] at h; simp; omega
      have hm9 : m ≤ 1000000000 := by omega
      have hmk := mkErrs m hm9
      go_wp2
      go_loopw [28] (fun i wr => JoinRel vs w (w.heap.size + 1) i wr) (fun i _ => vs.length - (intOf i).toNat)
      case atStart => exact ⟨0, m, some ⟨w.heap.size, 0, none⟩, Nat.zero_le _, rfl, by have h := heap_alloc_new (w.alloc (.cells (madeCells #[.nilIface] m) 101)) (.cells #[.slice (some ⟨w.heap.size, 0, none⟩) 0 m] 238); simpa [errsOf] using h, (Own.made w w.heap.size 101 .nilIface m (Nat.le_refl _) (by omega)).ext ((Ext.refl _).alloc _), ((Ext.refl _).alloc _).alloc _⟩
      case round =>
        obtain ⟨k, c2, A2, hk2, rfl, hg, hown, hE⟩ := hrel
        have hgc := cell_of_heap hg 0
        have hgf := frozen_of_heap hg 0
        have HG := Lib.hid hg
        have HE := Lib.hid hE
        have hlt2 : w.heap.size + 1 < wr.heap.size := World.block_lt_of_cell? wr _ hgc
        clear hg
        by_cases hlt : k < vs.length
        · obtain ⟨ad, ha, h | ⟨T, x, h⟩⟩ := rdAt (hA.ext hE) hlt hv
          · obtain ⟨hc, hq⟩ := h
            have HQ := Lib.hid hq
            clear hq hE
            subst ha
            go_wp2
            go_roundw
            case rel => exact ⟨k + 1, c2, A2, by omega, by go_num, by rw [errsOf_nil HQ.out]; exact HG.out, by rw [errsOf_nil HQ.out]; exact hown, HE.out⟩
            case measure => simp [intOf]; omega
          · obtain ⟨hc, hq⟩ := h
            have HQ := Lib.hid hq
            clear hq hE
            subst ha
            have hne := hown.ne_blk HG.out (by decide)
            have hke : (errsOf (vs.take k)).length ≤ 1000000 := by have := HLE.out k; omega
            have HNE := Lib.hid hne
            clear hne
            go_wp2_with (at_builtin; (refine appendErr _ rfl _ _ rfl w.heap.size A2 _ c2 (errsOf (vs.take k)) rfl rfl (hown.ext ((Ext.refl _).alloc _)) _ 1 (.iface T x) rfl (rd_one _ _ _) rfl (by omega) (by simp only [World.size_alloc]; omega) ?_; intro A3 c3 m3 w3 hm3 hown3 hF3 hA3; have HM3 := Lib.hid hm3; have HF3 := Lib.hid hF3; have HA3 := Lib.hid hA3; clear hm3 hF3 hA3; have hg3 := (HF3.out.block (w.heap.size + 1) (by simp only [World.size_alloc]; omega) HNE.out).trans ((heap_alloc_old _ _ hlt2).trans HG.out); have hgc3 := cell_of_heap hg3 0; have hgf3 := frozen_of_heap hg3 0; have HG3 := Lib.hid hg3; clear hg3))
            go_roundw
            case rel =>
              refine ⟨k + 1, c3, A3, by omega, by go_num, ?_, ?_, ?_⟩
              · rw [errsOf_err HQ.out, heap_set HG3.out, ← HM3.out]; rfl
              · rw [errsOf_err HQ.out]
                exact hown3.keep fun i hi _ => Below.heap_setCell _ _ _ i (fun e => hown3.ne_blk HG3.out (by decide) (by subst e; exact hi))
              · exact (own_fresh (hown.ext ((Ext.refl _).alloc _)) (HE.out.alloc _) HF3.out).set (by simp) _
            case measure => simp [intOf]; omega
        · obtain rfl : k = vs.length := by omega
          go_wp2
          go_ret
          rw [List.take_length] at hown
          have h1 := HG.out
          rw [List.take_length] at h1
          obtain ⟨a, rfl⟩ := hown.some_ hne
          exact ⟨w.heap.size + 1, a, c2, rfl, cell_of_heap h1 0, hown.rd, HE.out⟩
end Go.Proofs.YtjnllilmimngoaaGreatDoor
namespace Go.Proofs.YtjnllilmimngoaaGreatDoor
open Go.RowKit

def inR (n lo hi : Int) : Bool := decide (lo ≤ n) && decide (n ≤ hi)
theorem inR_iff {n lo hi : Int} : inR n lo hi = true ↔ lo ≤ n ∧ n ≤ hi := by simp [inR]
theorem within_any (n lo hi : Int) (w : World) : Calls Tryz.prog 154 #[.int .i64 n, .int .i64 lo, .int .i64 hi] w fun e w' => e = .returned (.bool (inR n lo hi)) ∧ w = w' := by
  by_cases h1 : lo ≤ n
  · have hd1 : decide (lo ≤ n) = true := by simpa using h1
    by_cases h2 : n ≤ hi
    · have hd2 : decide (n ≤ hi) = true := by simpa using h2
      have hv : Hid (inR n lo hi = true) := Lib.hid (by simp [inR, h1, h2])
      go_enter Tryz.func154, Tryz.ntmps154
      go_wp2
      go_ret
      exact ⟨by rw [hv.out]; rfl, rfl⟩
    · have hd2 : decide (n ≤ hi) = false := by simpa using h2
      have hv : Hid (inR n lo hi = false) := Lib.hid (by simp [inR, h1, h2])
      go_enter Tryz.func154, Tryz.ntmps154
      go_wp2
      go_ret
      exact ⟨by rw [hv.out]; rfl, rfl⟩
  · have hd1 : decide (lo ≤ n) = false := by simpa using h1
    have hv : Hid (inR n lo hi = false) := Lib.hid (by simp [inR, h1])
    go_enter Tryz.func154, Tryz.ntmps154
    go_wp2
    go_ret
    exact ⟨by rw [hv.out]; rfl, rfl⟩

/-- What holds tells. -/
def holdsV (s : ByteArray) (ok : Bool) : Value := if ok = true then .nilIface else partV s
theorem holds_part (s : ByteArray) (ok : Bool) (w : World) : Calls Tryz.prog 132 #[.string s, .bool ok] w fun e w' => e = .returned (holdsV s ok) ∧ w = w' := by
  cases ok
  all_goals
    go_enter Tryz.func132, Tryz.ntmps132
    go_wp2
    go_ret
    exact ⟨rfl, rfl⟩

def idV (i t k : Int) : Value := .agg #[.int .i64 i, .int .i64 t, .int .i64 k]
def zeroId (i t k : Int) : Bool := i == 0 && (t == 0 && k == 0)
theorem eqId (i t k i' t' k' : Int) (w : World) : (binOp .eql 26 (.agg #[.int .i64 i, .int .i64 t, .int .i64 k]) (.agg #[.int .i64 i', .int .i64 t', .int .i64 k'])).run Tryz.prog w = .ok (.bool (i == i' && (t == t' && k == k'))) w := by
  have hf : Tryz.prog.fieldsOf 26 = Tryz.prog.fieldsOf 26 := rfl
  cases h1 : i == i' <;> cases h2 : t == t' <;> cases h3 : k == k'
  all_goals simp [go_sem, h1, h2, h3, Tryz.underlying26, Tryz.underlying3, Tryz.underlying24]

def rightI (i t k : Int) : Bool := zeroId i t k || (inR i 1 1099511627776 && (inR t 0 1099511627776 && (decide (1 ≤ k) && decide (k ≤ 3))))
set_option maxHeartbeats 600000 in
theorem rightId_any (i t k : Int) (w : World) : Calls Tryz.prog 155 #[idV i t k] w fun e w' => e = .returned (.bool (rightI i t k)) ∧ Ext w w' := by
  have heq := eqId i t k 0 0 0
  unfold idV
  cases h0 : zeroId i t k with
  | true =>
    have hz : (i == 0 && (t == 0 && k == 0)) = true := h0
    have hv : Hid (rightI i t k = true) := Lib.hid (by simp [rightI, h0])
    rw [hz] at heq
    clear hz h0
    go_enter Tryz.func155, Tryz.ntmps155
    go_wp2_with (go_at_call 154; refine (within_any _ _ _ _).mono ?_; rintro e w' ⟨rfl, rfl⟩)
    go_ret
    exact ⟨by rw [hv.out]; rfl, (Ext.refl _).alloc _⟩
  | false =>
    have hz : (i == 0 && (t == 0 && k == 0)) = false := h0
    rw [hz] at heq
    clear hz
    cases h1 : inR i 1 1099511627776 with
    | false =>
      have hv : Hid (rightI i t k = false) := Lib.hid (by simp [rightI, h0, h1])
      clear h0
      go_enter Tryz.func155, Tryz.ntmps155
      go_wp2_with (go_at_call 154; refine (within_any _ _ _ _).mono ?_; rintro e w' ⟨rfl, rfl⟩)
      go_ret
      exact ⟨by rw [hv.out]; rfl, (Ext.refl _).alloc _⟩
    | true =>
      cases h2 : inR t 0 1099511627776 with
      | false =>
        have hv : Hid (rightI i t k = false) := Lib.hid (by simp [rightI, h0, h1, h2])
        clear h0
        go_enter Tryz.func155, Tryz.ntmps155
        go_wp2_with (go_at_call 154; refine (within_any _ _ _ _).mono ?_; rintro e w' ⟨rfl, rfl⟩)
        go_ret
        exact ⟨by rw [hv.out]; rfl, (Ext.refl _).alloc _⟩
      | true =>
        cases h3 : decide (1 ≤ k) with
        | false =>
          have hv : Hid (rightI i t k = false) := Lib.hid (by simp [rightI, h0, h1, h2, h3])
          clear h0
          go_enter Tryz.func155, Tryz.ntmps155
          go_wp2_with (go_at_call 154; refine (within_any _ _ _ _).mono ?_; rintro e w' ⟨rfl, rfl⟩)
          go_ret
          exact ⟨by rw [hv.out]; rfl, (Ext.refl _).alloc _⟩
        | true =>
          cases h4 : decide (k ≤ 3) with
          | false =>
            have hv : Hid (rightI i t k = false) := Lib.hid (by simp [rightI, h0, h1, h2, h3, h4])
            clear h0
            go_enter Tryz.func155, Tryz.ntmps155
            go_wp2_with (go_at_call 154; refine (within_any _ _ _ _).mono ?_; rintro e w' ⟨rfl, rfl⟩)
            go_ret
            exact ⟨by rw [hv.out]; rfl, (Ext.refl _).alloc _⟩
          | true =>
            have hv : Hid (rightI i t k = true) := Lib.hid (by simp [rightI, h0, h1, h2, h3, h4])
            clear h0
            go_enter Tryz.func155, Tryz.ntmps155
            go_wp2_with (go_at_call 154; refine (within_any _ _ _ _).mono ?_; rintro e w' ⟨rfl, rfl⟩)
            go_ret
            exact ⟨by rw [hv.out]; rfl, (Ext.refl _).alloc _⟩

def someI (i t k : Int) : Bool := inR i 1 1099511627776 && rightI i t k
set_option maxHeartbeats 600000 in
theorem someones_any (i t k : Int) (w : World) : Calls Tryz.prog 159 #[idV i t k] w fun e w' => e = .returned (.bool (someI i t k)) ∧ Ext w w' := by
  have hR := fun w => rightId_any i t k w
  unfold idV at hR ⊢
  have HR := Lib.hid hR
  clear hR
  cases h1 : inR i 1 1099511627776 with
  | false =>
    have hv : Hid (someI i t k = false) := Lib.hid (by simp [someI, h1])
    go_enter Tryz.func159, Tryz.ntmps159
    go_wp2_with (go_at_call 154; refine (within_any _ _ _ _).mono ?_; rintro e w' ⟨rfl, rfl⟩)
    go_ret
    exact ⟨by rw [hv.out]; rfl, (Ext.refl _).alloc _⟩
  | true =>
    have hv : Hid (someI i t k = rightI i t k) := Lib.hid (by simp [someI, h1])
    go_enter Tryz.func159, Tryz.ntmps159
    go_wp2_with (first | (go_at_call 154; refine (within_any _ _ _ _).mono ?_; rintro e w' ⟨rfl, rfl⟩) | (go_at_call 155; refine (HR.out _).mono ?_; rintro e w1 ⟨rfl, hE1⟩))
    go_ret
    exact ⟨by rw [hv.out]; rfl, ((Ext.refl _).alloc _).trans hE1⟩
end Go.Proofs.YtjnllilmimngoaaGreatDoor
namespace Go.Proofs.YtjnllilmimngoaaGreatDoor
open Go.RowKit

def memAt (ms : List Int) (k : Nat) : Bool := inR (ms.getD k 0) 1 7 && (decide (k = 0) || decide (ms.getD (k - 1) 0 < ms.getD k 0))
def memR (ms : List Int) : Bool := decide (0 < ms.length) && (List.range ms.length).all (memAt ms)
theorem memR_yes {ms : List Int} (h0 : 0 < ms.length) (h : ∀ j, j < ms.length → memAt ms j = true) : memR ms = true := by
  simp only [memR, Bool.and_eq_true, decide_eq_true_eq, List.all_eq_true, List.mem_range]
  exact ⟨h0, h⟩
theorem memR_no {ms : List Int} {k : Nat} (hk : k < ms.length) (h : memAt ms k = false) : memR ms = false := by
  rw [Bool.eq_false_iff]
  intro hm
  simp only [memR, Bool.and_eq_true, decide_eq_true_eq, List.all_eq_true, List.mem_range] at hm
  rw [hm.2 k hk] at h
  cases h
theorem getD_of {α : Type} {l : List α} {k : Nat} {x d : α} (h : l[k]? = some x) : l.getD k d = x := by simp [List.getD, h]

set_option maxHeartbeats 1000000 in
theorem members_any (A : Option Addr) (c : Nat) (ms : List Int) (w : World) (hA : Rd w A (ms.map (.int .i64))) (hl : ms.length ≤ maxLen) :
    Calls Tryz.prog 177 #[.slice A ms.length c] w fun e w' => e = .returned (.bool (memR ms)) ∧ w = w' := by
  unfold maxLen at hl
  go_enter Tryz.func177, Tryz.ntmps177
  go_wp2
  go_loop [7] (fun i => ∃ k : Nat, k ≤ ms.length ∧ i = .int .i64 k ∧ ∀ j, j < k → memAt ms j = true) (fun i => ms.length - (intOf i).toNat)
  case atStart => exact ⟨0, Nat.zero_le _, rfl, fun j hj => by omega⟩
  case round =>
    obtain ⟨k, hk, rfl, hr⟩ := hrel
    have HR := Lib.hid hr
    clear hr
    by_cases hlt : k < ms.length
    · obtain ⟨ad, x, rfl, hc, hx⟩ := hA.int hlt
      have HX := Lib.hid (getD_of (d := 0) hx)
      clear hx
      by_cases h1 : 1 ≤ x
      · have d1 : decide (x < 1) = false := by simp; omega
        by_cases h7 : x ≤ 7
        · have d7 : decide (7 < x) = false := by simp; omega
          rcases k with _ | q
          · have hc0 : w.cell? ad = some (.int .i64 x) := by simpa [Addr.add] using hc
            have hM : Hid (memAt ms 0 = true) := Lib.hid (by unfold memAt; rw [HX.out]; simp [inR, h1, h7])
            go_wp2
            go_round
            case rel => exact ⟨1, by omega, by go_num, fun j hj => by obtain rfl : j = 0 := (by omega); exact hM.out⟩
            case measure => simp [intOf]; omega
          · have hc1 : w.cell? ⟨ad.block, ad.off + (q + 1), none⟩ = some (.int .i64 x) := by simpa [Addr.add] using hc
            obtain ⟨ad', y, ha, hcy, hy⟩ := hA.int (i := q) (by omega)
            injection ha with ha
            subst ha
            have HY := Lib.hid (getD_of (d := 0) hy)
            clear hy
            by_cases hp : y < x
            · have dp : decide (x ≤ y) = false := by simp; omega
              have hM : Hid (memAt ms (q + 1) = true) := Lib.hid (by unfold memAt; rw [Nat.add_sub_cancel, HX.out, HY.out]; simp [inR, h1, h7, hp])
              go_wp2
              go_round
              case rel => exact ⟨q + 1 + 1, by omega, by go_num, fun j hj => by
                by_cases e : j = q + 1
                · subst e; exact hM.out
                · exact HR.out j (by omega)⟩
              case measure => simp [intOf]; omega
            · have dp : decide (x ≤ y) = true := by simp; omega
              have hM : Hid (memR ms = false) := Lib.hid (memR_no hlt (by unfold memAt; rw [Nat.add_sub_cancel, HX.out, HY.out]; simp [hp]))
              go_wp2
              go_ret
              exact ⟨by rw [hM.out]; rfl, rfl⟩
        · have d7 : decide (7 < x) = true := by simp; omega
          have hM : Hid (memR ms = false) := Lib.hid (memR_no hlt (by unfold memAt; rw [HX.out]; simp [inR, h7]))
          go_wp2
          go_ret
          exact ⟨by rw [hM.out]; rfl, rfl⟩
      · have d1 : decide (x < 1) = true := by simp; omega
        have hM : Hid (memR ms = false) := Lib.hid (memR_no hlt (by unfold memAt; rw [HX.out]; simp [inR, h1]))
        go_wp2
        go_ret
        exact ⟨by rw [hM.out]; rfl, rfl⟩
    · obtain rfl : k = ms.length := by omega
      by_cases h0 : 0 < ms.length
      · have d0 : decide (0 < ms.length) = true := by simpa using h0
        have hM : Hid (memR ms = true) := Lib.hid (memR_yes h0 HR.out)
        go_wp2
        go_ret
        exact ⟨by rw [hM.out]; rfl, rfl⟩
      · have hM : Hid (memR ms = false) := Lib.hid (by simp [memR, h0])
        have d0 : decide (0 < ms.length) = false := by simpa using h0
        go_wp2
        go_ret
        exact ⟨by rw [hM.out]; rfl, rfl⟩
end Go.Proofs.YtjnllilmimngoaaGreatDoor
namespace Go.Proofs.YtjnllilmimngoaaGreatDoor
open Go.RowKit

theorem mkInts (n : Nat) (hn : n ≤ 1000000000) (w : World) : (Instr.makeSlice 29 (.int .i64 (n : Int)) (.int .i64 (n : Int))).run Tryz.prog w = .ok (.slice (some ⟨w.heap.size, 0, none⟩) n n) (w.alloc (.cells (madeCells #[.int .i64 0] n) 3)) := by
  obtain ⟨i0, hi, hz0, hz1, hz2⟩ := info_parts Tryz.infoEInts
  exact run_mk0 (P := Tryz.prog) 29 3 i0 _ Tryz.underlying29 hi hz0 hz1 n n (n : Int) rfl (by omega) (by omega) (by omega) w
theorem own_ints (w : World) (n : Nat) (hn : n ≤ 1000000000) : Own (w.alloc (.cells (madeCells #[.int .i64 0] n) 3)) w.heap.size 3 (some ⟨w.heap.size, 0, none⟩) n ((List.replicate n 0).map (.int .i64)) := by
  refine Own.mk (Nat.le_refl _) (heap_alloc_new w _) (by simp) (by unfold maxLen; omega) (size_madeCells _ _) ?_
  rw [toList_madeCells_one]
  simp

def okBytes (bs : List Int) : Prop := ∀ x ∈ bs, 0 ≤ x ∧ x ≤ 255
def memsB (bs : List Int) : Bool := decide (bs.length ≤ 7) && memR bs
def MemRel (bs : List Int) (w0 : World) (g : Nat) (i : Value) (wr : World) : Prop :=
  ∃ k : Nat, k ≤ bs.length ∧ i = .int .i64 k ∧ Own wr w0.heap.size 3 (some ⟨g, 0, none⟩) bs.length ((bs.take k ++ List.replicate (bs.length - k) 0).map (.int .i64)) ∧ Ext w0 wr
theorem fill_step {bs : List Int} {k : Nat} {x : Int} (hk : k < bs.length) (hx : bs[k]? = some x) :
    ((bs.take k ++ List.replicate (bs.length - k) 0).map (Value.int .i64)).set k (.int .i64 x) = (bs.take (k + 1) ++ List.replicate (bs.length - (k + 1)) 0).map (Value.int .i64) := by
  rw [take_snoc' hx]
  obtain ⟨m, hm⟩ : ∃ m, bs.length - k = m + 1 := ⟨bs.length - k - 1, by omega⟩
  have hm' : bs.length - (k + 1) = m := by omega
  rw [hm, hm', List.replicate_succ, List.map_append, List.map_append, List.map_append]
  rw [set_app0 (l := List.map (Value.int .i64) (bs.take k)) (by simp; omega)]
  simp
def MemPost (ok : Bool) (w : World) (e : Ending) (w' : World) : Prop := ∃ v, e = .returned (.tuple #[v, .int .i64 (if ok = true then 0 else 4)]) ∧ Ext w w'
set_option maxHeartbeats 1000000 in
theorem ofBytes_any (A : Option Addr) (c : Nat) (bs : List Int) (w : World) (hA : Rd w A (bs.map (.int .u8))) (hb : okBytes bs) (hl : bs.length ≤ maxLen) :
    Calls Tryz.prog 180 #[.slice A bs.length c] w (MemPost (memsB bs) w) := by
  unfold maxLen at hl
  by_cases h7 : bs.length ≤ 7
  · have d7 : decide (7 < (bs.length : Int)) = false := by simp; omega
    have hmk := mkInts bs.length (by omega)
    have hb' : Hid (okBytes bs) := Lib.hid hb
    clear hb
    go_enter Tryz.func180, Tryz.ntmps180
    go_wp2
    go_loopw [15] (fun i wr => MemRel bs w w.heap.size i wr) (fun i _ => bs.length - (intOf i).toNat)
    case atStart => exact ⟨0, Nat.zero_le _, rfl, by simpa using own_ints w bs.length (by omega), (Ext.refl w).alloc _⟩
    case round =>
      obtain ⟨k, hk, rfl, hown, hE⟩ := hrel
      have hf := fun j => hown.frozen j
      by_cases hlt : k < bs.length
      · obtain ⟨ad, x, rfl, hc, hx⟩ := (hA.ext hE).int hlt
        have hb2 := hb'.out x (List.mem_of_getElem? hx)
        obtain ⟨hb3, hb4⟩ := hb2
        have HX := Lib.hid hx
        have HE := Lib.hid hE
        obtain ⟨ad2, ha2, hc2⟩ := hown.rd.at_ (k := k) (by simp; omega)
        injection ha2 with ha2
        subst ha2
        rw [add_lit', Nat.zero_add] at hc2
        clear hx hE
        have hfk := hf k
        clear hf
        go_wp2
        go_roundw
        case rel =>
          refine ⟨k + 1, by omega, by go_num, ?_, HE.out.set (Nat.le_refl _) _⟩
          rw [← fill_step hlt HX.out]
          exact hown.set k _
        case measure => simp [intOf]; omega
      · obtain rfl : k = bs.length := by omega
        rw [List.take_length, Nat.sub_self, List.replicate_zero, List.append_nil] at hown
        have HE := Lib.hid hE
        clear hE hf
        cases hm : memR bs with
        | true =>
          have hv : Hid (memsB bs = true) := Lib.hid (by simp [memsB, h7, hm])
          go_wp2_with (go_at_call 177; refine (members_any _ _ bs _ hown.rd (by unfold maxLen; omega)).mono ?_; rintro e w' ⟨rfl, rfl⟩)
          go_ret2
          exact ⟨_, by rw [hv.out]; rfl, HE.out⟩
        | false =>
          have hv : Hid (memsB bs = false) := Lib.hid (by simp [memsB, hm])
          go_wp2_with (go_at_call 177; refine (members_any _ _ bs _ hown.rd (by unfold maxLen; omega)).mono ?_; rintro e w' ⟨rfl, rfl⟩)
          go_ret2
          exact ⟨_, by rw [hv.out]; rfl, HE.out⟩
  · have d7 : decide (7 < (bs.length : Int)) = true := by simp; omega
    have hv : Hid (memsB bs = false) := Lib.hid (by simp [memsB, h7])
    go_enter Tryz.func180, Tryz.ntmps180
    go_wp2
    go_ret2
    exact ⟨_, by rw [hv.out]; rfl, Ext.refl _⟩

/-- Whether an entry is good. -/
def goodE (i t k : Int) (bs : List Int) : Bool := rightE i t k bs.length && (if k = 1 then decide (bs.length = 0) else if k = 2 then true else memsB bs)
set_option maxHeartbeats 1000000 in
theorem good_any (i t k : Int) (D : Option Addr) (d : Nat) (bs : List Int) (w : World) (hD : Rd w D (bs.map (.int .u8))) (hb : okBytes bs) (hl : bs.length ≤ maxLen) :
    Calls Tryz.prog 175 #[.agg #[.int .i64 i, .int .i64 t, .int .i64 k, .slice D bs.length d]] w fun e w' => e = .returned (.bool (goodE i t k bs)) ∧ Ext w w' := by
  cases hR : rightE i t k bs.length with
  | false =>
    have hv : Hid (goodE i t k bs = false) := Lib.hid (by simp [goodE, hR])
    clear hb hl
    go_enter Tryz.func175, Tryz.ntmps175
    go_wp2_with (go_at_call 179; refine (right_any _ _ _ _ _ _ _).mono ?_; rintro e w1 ⟨rfl, hE1⟩; have hb := cell_of_heap (hE1.below.block w.heap.size (by simp) |>.trans (heap_alloc_new w _)); have hc2 := hb 2; have hc3 := hb 3; clear hb; simp at hc2 hc3; have HE1 := Lib.hid hE1; clear hE1)
    go_ret
    exact ⟨by rw [hv.out]; rfl, ((Ext.refl _).alloc _).trans HE1.out⟩
  | true =>
    by_cases h1 : k = 1
    · subst h1
      by_cases h0 : bs.length = 0
      · obtain rfl : bs = [] := List.eq_nil_of_length_eq_zero h0
        have hv : Hid (goodE i t 1 [] = true) := Lib.hid (by simp [goodE]; exact hR)
        have hR0 : rightE i t 1 0 = true := hR
        clear hb hl h0
        go_enter Tryz.func175, Tryz.ntmps175
        go_wp2_with (go_at_call 179; refine (right_any _ _ _ _ _ _ _).mono ?_; rintro e w1 ⟨rfl, hE1⟩; have hb := cell_of_heap (hE1.below.block w.heap.size (by simp) |>.trans (heap_alloc_new w _)); have hc2 := hb 2; have hc3 := hb 3; clear hb; simp at hc2 hc3; have HE1 := Lib.hid hE1; clear hE1)
        go_ret
        exact ⟨by rw [hv.out]; rfl, ((Ext.refl _).alloc _).trans HE1.out⟩
      · have d0 : decide (0 < bs.length) = true := by simp; omega
        have hv : Hid (goodE i t 1 bs = false) := Lib.hid (by simp [goodE]; intro _ h; subst h; exact h0 rfl)
        clear hb hl h0
        go_enter Tryz.func175, Tryz.ntmps175
        go_wp2_with (go_at_call 179; refine (right_any _ _ _ _ _ _ _).mono ?_; rintro e w1 ⟨rfl, hE1⟩; have hb := cell_of_heap (hE1.below.block w.heap.size (by simp) |>.trans (heap_alloc_new w _)); have hc2 := hb 2; have hc3 := hb 3; clear hb; simp at hc2 hc3; have HE1 := Lib.hid hE1; clear hE1)
        go_ret
        exact ⟨by rw [hv.out]; rfl, ((Ext.refl _).alloc _).trans HE1.out⟩
    · have e1 : (k == 1) = false := by simpa using h1
      by_cases h2 : k = 2
      · subst h2
        have hv : Hid (goodE i t 2 bs = true) := Lib.hid (by simp [goodE, hR])
        clear hb hl h1 e1
        go_enter Tryz.func175, Tryz.ntmps175
        go_wp2_with (go_at_call 179; refine (right_any _ _ _ _ _ _ _).mono ?_; rintro e w1 ⟨rfl, hE1⟩; have hb := cell_of_heap (hE1.below.block w.heap.size (by simp) |>.trans (heap_alloc_new w _)); have hc2 := hb 2; have hc3 := hb 3; clear hb; simp at hc2 hc3; have HE1 := Lib.hid hE1; clear hE1)
        go_ret
        exact ⟨by rw [hv.out]; rfl, ((Ext.refl _).alloc _).trans HE1.out⟩
      · have e2 : (k == 2) = false := by simpa using h2
        have hv : Hid (goodE i t k bs = memsB bs) := Lib.hid (by simp [goodE, hR, h1, h2])
        clear h1 h2
        cases hm : memsB bs with
        | true =>
          go_enter Tryz.func175, Tryz.ntmps175
          go_wp2_with (first | (go_at_call 179; refine (right_any _ _ _ _ _ _ _).mono ?_; rintro e w1 ⟨rfl, hE1⟩; have hb := cell_of_heap (hE1.below.block w.heap.size (by simp) |>.trans (heap_alloc_new w _)); have hc2 := hb 2; have hc3 := hb 3; clear hb; simp at hc2 hc3; have HE1 := Lib.hid hE1; clear hE1) | (go_at_call 180; refine (ofBytes_any D d bs _ (hD.ext (((Ext.refl w).alloc _).trans HE1.out)) hb hl).mono ?_; rintro e w2 ⟨v, rfl, hE2⟩; have HE2 := Lib.hid hE2; clear hE2))
          go_ret
          exact ⟨by rw [hv.out, hm]; rfl, (((Ext.refl _).alloc _).trans HE1.out).trans HE2.out⟩
        | false =>
          go_enter Tryz.func175, Tryz.ntmps175
          go_wp2_with (first | (go_at_call 179; refine (right_any _ _ _ _ _ _ _).mono ?_; rintro e w1 ⟨rfl, hE1⟩; have hb := cell_of_heap (hE1.below.block w.heap.size (by simp) |>.trans (heap_alloc_new w _)); have hc2 := hb 2; have hc3 := hb 3; clear hb; simp at hc2 hc3; have HE1 := Lib.hid hE1; clear hE1) | (go_at_call 180; refine (ofBytes_any D d bs _ (hD.ext (((Ext.refl w).alloc _).trans HE1.out)) hb hl).mono ?_; rintro e w2 ⟨v, rfl, hE2⟩; have HE2 := Lib.hid hE2; clear hE2))
          go_ret
          exact ⟨by rw [hv.out, hm]; rfl, (((Ext.refl _).alloc _).trans HE1.out).trans HE2.out⟩
end Go.Proofs.YtjnllilmimngoaaGreatDoor
