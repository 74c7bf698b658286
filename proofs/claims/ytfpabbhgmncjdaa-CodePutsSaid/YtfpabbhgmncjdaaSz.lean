/-
  The parts that come in; size.
-/
import Derived.Test.YtfpabbhgmncjdaaFlD
namespace Go.Proofs.Ytfpabbhgmncjdaa
open Go.RowKit

/-- A part, and where its rows lie. -/
structure Pt where
  kind : Int
  width : Int
  nA : Option Addr
  nc : Nat
  ns : List Int
  tA : Option Addr
  tc : Nat
  ts : List Int
  i : Int
  t : Int
  k : Int
  bA : Option Addr
  bc : Nat
  bs : List Int
  most : Int
def Pt.cells (p : Pt) : List Value := [.int .i64 p.kind, .int .i64 p.width, .slice p.nA p.ns.length p.nc, .slice p.tA p.ts.length p.tc, .int .i64 p.i, .int .i64 p.t, .int .i64 p.k, .slice p.bA p.bs.length p.bc, .int .i64 p.most]
def Pt.inW (p : Pt) (w : World) : Prop := Rd w p.nA (p.ns.map (.int .i64)) ∧ Rd w p.tA (p.ts.map (.int .u8)) ∧ Rd w p.bA (p.bs.map (.int .u8))
def PtsIn (w : World) (A : Option Addr) (ps : List Pt) : Prop := ∀ j p, ps[j]? = some p → ∃ b f, A = some ⟨b, f, none⟩ ∧ (∀ o u, p.cells[o]? = some u → w.cell? ⟨b, f + j * 9 + o, none⟩ = some u) ∧ p.inW w ∧ p.ns.length ≤ 140737488355328 ∧ p.ts.length ≤ 140737488355328 ∧ p.bs.length ≤ 140737488355328
theorem PtsIn.ext {w w' : World} {A : Option Addr} {ps : List Pt} (h : PtsIn w A ps) (he : Ext w w') : PtsIn w' A ps := fun j p hj => by
  obtain ⟨b, f, ha, h1, ⟨h2, h3, h4⟩, h5⟩ := h j p hj
  exact ⟨b, f, ha, fun o u ho => he.cell (h1 o u ho), ⟨h2.ext he, h3.ext he, h4.ext he⟩, h5⟩
def Pt.len (p : Pt) : Nat := p.ns.length + p.ts.length + p.bs.length
def lens (ps : List Pt) : Nat := (ps.map Pt.len).sum

theorem PtsIn.at_ {w : World} {A : Option Addr} {ps : List Pt} (h : PtsIn w A ps) {k : Nat} (hk : k < ps.length) : ∃ b f p, A = some ⟨b, f, none⟩ ∧ ps[k]? = some p ∧
    w.cell? ⟨b, f + k * 9, none⟩ = some (.int .i64 p.kind) ∧ w.cell? ⟨b, f + k * 9 + 1, none⟩ = some (.int .i64 p.width) ∧ w.cell? ⟨b, f + k * 9 + 2, none⟩ = some (.slice p.nA p.ns.length p.nc) ∧ w.cell? ⟨b, f + k * 9 + 3, none⟩ = some (.slice p.tA p.ts.length p.tc) ∧
    w.cell? ⟨b, f + k * 9 + 4, none⟩ = some (.int .i64 p.i) ∧ w.cell? ⟨b, f + k * 9 + 5, none⟩ = some (.int .i64 p.t) ∧ w.cell? ⟨b, f + k * 9 + 6, none⟩ = some (.int .i64 p.k) ∧ w.cell? ⟨b, f + k * 9 + 7, none⟩ = some (.slice p.bA p.bs.length p.bc) ∧ p.inW w ∧
    p.ns.length ≤ 140737488355328 ∧ p.ts.length ≤ 140737488355328 ∧ p.bs.length ≤ 140737488355328 := by
  obtain ⟨b, f, ha, h1, h2, h3⟩ := h k _ (List.getElem?_eq_getElem hk)
  exact ⟨b, f, ps[k], ha, List.getElem?_eq_getElem hk, h1 0 _ rfl, h1 1 _ rfl, h1 2 _ rfl, h1 3 _ rfl, h1 4 _ rfl, h1 5 _ rfl, h1 6 _ rfl, h1 7 _ rfl, h2, h3⟩

theorem lens_take {ps : List Pt} {k : Nat} {p : Pt} (h : ps[k]? = some p) : lens (ps.take (k + 1)) = lens (ps.take k) + p.len := by
  rw [take_snoc' h]; simp [lens]

def SzRel (N : Nat) (ps : List Pt) (w : World) (n i : Value) (wr : World) : Prop :=
  ∃ k m : Nat, k ≤ N ∧ i = .int .i64 k ∧ n = .int .i64 m ∧ m = N + lens (ps.take k) ∧ m ≤ 900000000000000 ∧ Ext w wr

set_option maxHeartbeats 600000 in
theorem size_any (A : Option Addr) (c : Nat) (ps : List Pt) (w : World) (hA : PtsIn w A ps) (hl : ps.length ≤ 140737488355328) :
    Calls Try.prog 4 #[.slice A ps.length c] w fun e w' => (∃ n : Nat, e = .returned (.int .i64 n) ∧ (n ≤ 3000 → ps.length + lens ps ≤ 3000)) ∧ Ext w w' := by
  go_enter Try.func4, Try.ntmps4
  go_wp2
  go_loopw [3, 4] (fun n i wr => SzRel ps.length ps w n i wr) (fun _ i _ => ps.length - (intOf i).toNat)
  case atStart => exact ⟨0, ps.length, Nat.zero_le _, rfl, rfl, by simp [lens], by omega, Ext.refl _⟩
  case round =>
    obtain ⟨k, m, hk, rfl, rfl, hm, hm2, hE⟩ := hrel
    have HM := Lib.hid hm
    clear hm
    by_cases hlt : k < ps.length
    · by_cases h3 : m ≤ 3000
      · obtain ⟨b, f, p, rfl, hp, c0, c1, c2, c3, c4, c5, c6, c7, hin, b1, b2, b3⟩ := (hA.ext hE).at_ hlt
        have HP := Lib.hid (lens_take hp)
        clear hp c0 c1 c4 c5 c6 hin
        have hd : decide ((m : Int) ≤ 3000) = true := by simp; omega
        go_wp2
        go_quiet (fail)
        go_wp2
        have hbd : m + p.len ≤ 900000000000000 := by unfold Pt.len; omega
        exact ⟨⟨k + 1, m + p.len, by omega, by go_num, by simp [Pt.len]; omega, by rw [HM.out, HP.out]; omega, hbd, hE.drewN _⟩, by simp [intOf]; omega⟩
      · have hd : decide ((m : Int) ≤ 3000) = false := by simp; omega
        go_wp2
        go_ret
        exact ⟨⟨m, rfl, fun h => by omega⟩, hE⟩
    · obtain rfl : k = ps.length := by omega
      go_wp2
      go_ret
      exact ⟨⟨m, rfl, fun h => by have := HM.out; rw [List.take_length] at this; omega⟩, hE⟩
end Go.Proofs.Ytfpabbhgmncjdaa
