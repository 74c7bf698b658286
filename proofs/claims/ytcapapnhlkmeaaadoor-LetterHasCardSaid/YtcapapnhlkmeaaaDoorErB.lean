/-
  Errors that are joined: errors.Is finds the number.
-/
import Derived.Test.YtcapapnhlkmeaaaDoorErA
namespace Go.Proofs.YtcapapnhlkmeaaaDoor
open Go.RowKit Go.Extern.Stop Go.Stop Go.Extern

namespace Er
theorem noIsJ (v : Value) (xT : TypeId) (w : World) : (Instr.typeAssert (.iface 123 v) xT 110 true).run Tryd.prog w = .ok (.tuple #[.nilIface, .bool false]) w := run_typeAssert_lacksB Tryd.underlying110 (by kernel_rfl) (by kernel_rfl) v xT w
theorem noUnwrapJ (v : Value) (xT : TypeId) (w : World) : (Instr.typeAssert (.iface 123 v) xT 113 true).run Tryd.prog w = .ok (.tuple #[.nilIface, .bool false]) w := run_typeAssert_lacksB Tryd.underlying113 (by kernel_rfl) (by kernel_rfl) v xT w
theorem hasUnwrapsJ (v : Value) (xT : TypeId) (w : World) : (Instr.typeAssert (.iface 123 v) xT 115 true).run Tryd.prog w = .ok (.tuple #[.iface 123 v, .bool true]) w := run_typeAssert_hasB Tryd.underlying115 (by kernel_rfl) v xT w
theorem methodUnwrapJ (v : Value) (w : World) : (Go.method 272 123 v "Unwrap").run Tryd.prog w = .ok (100, v) w := by kernel_rfl
end Er

def Bad : Nat → World → Value → Prop
  | 0, _, v => ∃ s, v = partV s
  | d + 1, w, v => Bad d w v ∨ ∃ j a n c v0, v = .iface 123 (.pointer (some ⟨j, 0, none⟩)) ∧ w.cell? ⟨j, 0, none⟩ = some (.slice (some ⟨a, 0, none⟩) n c) ∧ 1 ≤ n ∧ w.cell? ⟨a, 0, none⟩ = some v0 ∧ Bad d w v0
theorem Bad.up {d : Nat} {w : World} {v : Value} (h : Bad d w v) : ∀ k, Bad (d + k) w v
  | 0 => h
  | k + 1 => .inl (h.up k)
theorem Bad.le {d k : Nat} {w : World} {v : Value} (h : Bad d w v) (hk : d ≤ k) : Bad k w v := by
  have := h.up (k - d)
  rwa [show d + (k - d) = k by omega] at this
theorem Bad.ext {d : Nat} {w w' : World} {v : Value} (h : Bad d w v) (he : Ext w w') : Bad d w' v := by
  induction d generalizing v with
  | zero => exact h
  | succ d ih =>
    rcases h with h | ⟨j, a, n, c, v0, h1, h2, h3, h4, h5⟩
    · exact .inl (ih h)
    · exact .inr ⟨j, a, n, c, v0, h1, he.cell h2, h3, he.cell h4, ih h5⟩

theorem unwrapJ (j a n c : Nat) (w : World) (h : w.cell? ⟨j, 0, none⟩ = some (.slice (some ⟨a, 0, none⟩) n c)) : Calls Tryd.prog 100 #[.pointer (some ⟨j, 0, none⟩)] w fun e w' => e = .returned (.slice (some ⟨a, 0, none⟩) n c) ∧ Ext w w' := by
  go_enter Tryd.func100, Tryd.ntmps100
  go_wp2
  go_ret
  exact ⟨rfl, Ext.refl w⟩

set_option maxRecDepth 100000 in
set_option maxHeartbeats 1000000 in
theorem is_bad (d : Nat) : ∀ (v : Value) (w : World), Bad d w v → Calls Tryd.prog 21 #[v, argV, .bool true] w fun e w' => e = .returned (.bool true) ∧ Ext w w' := by
  induction d with
  | zero => rintro v w ⟨s, rfl⟩; exact is_part s w
  | succ d ih =>
    rintro v w (h | ⟨j, a, n, c, v0, rfl, h2, h3, h4, h5⟩)
    · exact ih v w h
    have nP := Er.noIsJ
    have uP := Er.noUnwrapJ
    have uP' := Er.hasUnwrapsJ
    have mP := Er.methodUnwrapJ
    have hty := run_eql_iface_types (P := Tryd.prog) 123 50 (.pointer (some ⟨j, 0, none⟩)) (.int .i64 2) Tryd.underlying48 (by decide)
    have hih := fun w' (he : Ext w w') => ih v0 w' (h5.ext he)
    clear ih h5
    unfold argV at hih ⊢
    go_enter Tryd.func21, Tryd.ntmps21
    go_wp2
    refine wp_loop_rounds 1 ?_
    rw [rounds_succ]
    go_wp2_with (go_at_call 100; refine (unwrapJ j a n c _ h2).mono ?_; rintro e w1 ⟨rfl, hE1⟩)
    refine wp_loop_rounds 1 ?_
    rw [rounds_succ]
    have h4' := hE1.cell h4
    go_wp2_with (go_at_call 21; refine (hih _ hE1).mono ?_; rintro e w2 ⟨rfl, hE2⟩)
    go_ret
    exact ⟨rfl, hE1.trans hE2⟩
end Go.Proofs.YtcapapnhlkmeaaaDoor
