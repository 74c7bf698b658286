import Derived.Test.YtbknabgimjkcoaaPlanH
import Derived.Laws.StructEq
namespace Go.Proofs.Ytbknabgimjkcoaa
open Go.RowKit

/-- A slice that reads as a row of cells. -/
def RowC (w : World) (v : Value) (l : List Cell) : Prop :=
  (v = .slice none 0 0 ∧ l = []) ∨ ∃ g cap, v = .slice (some ⟨g, 0, none⟩) l.length cap ∧ ∀ k (hk : k < l.length), w.cell? ⟨g, k * 3, none⟩ = some (.int .i64 l[k].1) ∧ w.cell? ⟨g, k * 3 + 1, none⟩ = some (.int .i64 l[k].2.1) ∧ w.cell? ⟨g, k * 3 + 2, none⟩ = some (.int .i64 l[k].2.2)

theorem cellsVs_get (l : List Cell) : ∀ k (hk : k < l.length), (cellsVs l)[k * 3]? = some (.int .i64 l[k].1) ∧ (cellsVs l)[k * 3 + 1]? = some (.int .i64 l[k].2.1) ∧ (cellsVs l)[k * 3 + 2]? = some (.int .i64 l[k].2.2) := by
  induction l with
  | nil => intro k hk; simp at hk
  | cons c l ih =>
    intro k hk
    cases k with
    | zero => simp [cellsVs, cellVs]
    | succ k =>
      have := ih k (by simpa using hk)
      have e : ∀ j, (cellsVs (c :: l))[(k + 1) * 3 + j]? = (cellsVs l)[k * 3 + j]? := fun j => by
        have : cellsVs (c :: l) = [.int .i64 c.1, .int .i64 c.2.1, .int .i64 c.2.2] ++ cellsVs l := by simp [cellsVs, cellVs]
        rw [this, List.getElem?_append_right (by simp; omega)]
        congr 1; simp; omega
      have e0 := e 0
      simp only [Nat.add_zero] at e0
      rw [e0, e 1, e 2]
      simpa using this

theorem CInv.row {w : World} {l : List Cell} {v : Value} {wr : World} (h : CInv w l v wr) : RowC wr v l := by
  obtain ⟨⟨hl, h⟩, _⟩ := h
  rcases h with ⟨hv, hn⟩ | ⟨g, cap, cur, hv, hg, hh, hn, hm, hc, ht⟩
  · exact .inl ⟨hv, List.eq_nil_of_length_eq_zero hn⟩
  · refine .inr ⟨g, cap, hv, fun k hk => ?_⟩
    obtain ⟨g0, g1, g2⟩ := cellsVs_get l k hk
    have e : ∀ j, j < l.length * 3 → wr.cell? ⟨g, j, none⟩ = (cellsVs l)[j]? := fun j hj => by
      rw [← ht, List.getElem?_take, if_pos hj]
      simp [World.cell?, hh]
    exact ⟨by rw [e _ (by omega)]; exact g0, by rw [e _ (by omega)]; exact g1, by rw [e _ (by omega)]; exact g2⟩

theorem RowC.ext {w w' : World} (hE : Ext w w') {v : Value} {l : List Cell} (h : RowC w v l) : RowC w' v l := by
  rcases h with h | ⟨g, cap, hv, hc⟩
  · exact .inl h
  · exact .inr ⟨g, cap, hv, fun k hk => ⟨hE.cell (hc k hk).1, hE.cell (hc k hk).2.1, hE.cell (hc k hk).2.2⟩⟩

def isC (x y z : Int) (c : Cell) : Bool := ((c.1 : Int) == x) && ((c.2.1 : Int) == y) && ((c.2.2 : Int) == z)
def findF (l : List Cell) (x y z : Int) : Int := match l.findIdx? (isC x y z) with | some i => i | none => -1

/-- The document's cells of any shape. -/
def cellsF (s r p : Int) : List Cell := if rightB s r p then cellsL s.toNat r.toNat p.toNat else []

theorem cellsL_length (s r p : Nat) : (cellsL s r p).length = 6 + s * (r + 2) + 2 * (p + 1) := by
  simp only [cellsL, List.length_append, segsL_length, aresL_length]; rfl
theorem cellsF_length (s r p : Int) : ((cellsF s r p).length : Int) = blocksF s r p := by
  unfold cellsF blocksF
  split
  · rename_i h
    obtain ⟨⟨hs1, hs2⟩, ⟨hr1, hr2⟩, hp1, hp2⟩ := rightB_true.1 h
    obtain ⟨S, rfl⟩ := Int.eq_ofNat_of_zero_le (show 0 ≤ s by omega)
    obtain ⟨R, rfl⟩ := Int.eq_ofNat_of_zero_le (show 0 ≤ r by omega)
    obtain ⟨Q, rfl⟩ := Int.eq_ofNat_of_zero_le (show 0 ≤ p by omega)
    simp only [Int.toNat_natCast, cellsL_length]
    push_cast; rfl
  · rfl
theorem cellsF_le (s r p : Int) : (cellsF s r p).length ≤ 1000000 := by
  have h1 := cellsF_length s r p
  have h2 := (blocks_le s r p).1
  omega

theorem cells_any (s r p : Int) (w : World) :
    Calls Try.prog 32 #[.agg #[.int .i64 s, .int .i64 r, .int .i64 p]] w fun e w' => ∃ v, e = .returned v ∧ Ext w w' ∧ RowC w' v (cellsF s r p) := by
  cases hR : rightB s r p with
  | true =>
    obtain ⟨⟨hs1, hs2⟩, ⟨hr1, hr2⟩, hp1, hp2⟩ := rightB_true.1 hR
    obtain ⟨S, rfl⟩ := Int.eq_ofNat_of_zero_le (show 0 ≤ s by omega)
    obtain ⟨R, rfl⟩ := Int.eq_ofNat_of_zero_le (show 0 ≤ r by omega)
    obtain ⟨Q, rfl⟩ := Int.eq_ofNat_of_zero_le (show 0 ≤ p by omega)
    refine (cells_yes S R Q w hR).mono fun e w' ⟨v, w1, he, h1, h2⟩ => ⟨v, he, h1.trans h2.2, ?_⟩
    unfold cellsF
    rw [hR]
    exact h2.row
  | false =>
    have hv : Hid (cellsF s r p = []) := by show _ = _; simp [cellsF, hR]
    go_enter Try.func32, Try.ntmps32
    go_wp2_with fail
    go_call (rright_any s r p) as e w1 ⟨rfl, hb⟩
    go_wp2
    go_ret
    exact ⟨_, rfl, ((Ext.refl _).alloc _).trans hb, .inl ⟨rfl, hv.out⟩⟩

theorem Try.plain45 : Try.prog.stoodInHeld 45 = false := by kernel_rfl
theorem Try.guard45 : Try.prog.eqGuardType Try.prog.depth 45 = false := by kernel_rfl

theorem find_at (l : List Cell) (x y z : Int) (k : Nat) (hk : k < l.length) (hno : ∀ j (hj : j < l.length), j < k → isC x y z l[j] = false) (hy : isC x y z l[k] = true) : findF l x y z = k := by
  have : l.findIdx? (isC x y z) = some k := by
    rw [List.findIdx?_eq_some_iff_getElem]
    exact ⟨hk, hy, fun j hj => by simp [hno j (by omega) hj]⟩
  unfold findF; rw [this]
theorem find_none (l : List Cell) (x y z : Int) (hno : ∀ j (hj : j < l.length), isC x y z l[j] = false) : findF l x y z = -1 := by
  have : l.findIdx? (isC x y z) = none := by
    rw [List.findIdx?_eq_none_iff]
    intro c hc
    obtain ⟨j, hj, rfl⟩ := List.mem_iff_getElem.1 hc
    simp [hno j hj]
  unfold findF; rw [this]

set_option maxHeartbeats 2000000 in
theorem find_any (s r p x y z : Int) (w : World) :
    Calls Try.prog 35 #[.agg #[.int .i64 s, .int .i64 r, .int .i64 p], .agg #[.int .i64 x, .int .i64 y, .int .i64 z]] w fun e w' => e = .returned (.int .i64 (findF (cellsF s r p) x y z)) ∧ Ext w w' := by
  have hlen := cellsF_le s r p
  generalize hl : cellsF s r p = l at *
  have HL := Lib.hid hl
  clear hl
  go_enter Try.func35, Try.ntmps35
  go_wp2_with fail
  have c0 : ((w.alloc (.cells #[.int .i64 s, .int .i64 r, .int .i64 p] 23)).alloc (.cells #[.int .i64 x, .int .i64 y, .int .i64 z] 45)).cell? ⟨w.heap.size + 1, 0, none⟩ = some (.int .i64 x) := by simp [go_sem]
  have c1 : ((w.alloc (.cells #[.int .i64 s, .int .i64 r, .int .i64 p] 23)).alloc (.cells #[.int .i64 x, .int .i64 y, .int .i64 z] 45)).cell? ⟨w.heap.size + 1, 1, none⟩ = some (.int .i64 y) := by simp [go_sem]
  have c2 : ((w.alloc (.cells #[.int .i64 s, .int .i64 r, .int .i64 p] 23)).alloc (.cells #[.int .i64 x, .int .i64 y, .int .i64 z] 45)).cell? ⟨w.heap.size + 1, 2, none⟩ = some (.int .i64 z) := by simp [go_sem]
  have hE : Ext w ((w.alloc (.cells #[.int .i64 s, .int .i64 r, .int .i64 p] 23)).alloc (.cells #[.int .i64 x, .int .i64 y, .int .i64 z] 45)) := ((Ext.refl _).alloc _).alloc _
  go_call (cells_any s r p) as e w1 ⟨v, rfl, hx, hrow⟩
  rw [HL.out] at hrow
  replace c0 := hx.cell c0
  replace c1 := hx.cell c1
  replace c2 := hx.cell c2
  replace hE := hE.trans hx
  clear hx HL
  rcases hrow with ⟨rfl, rfl⟩ | ⟨g, cap, rfl, hc⟩
  · go_wp2_with fail
    refine wp_loop_rounds 1 ?_
    rw [rounds_succ]
    go_wp2_with fail
    go_ret
    exact ⟨rfl, hE⟩
  · have HC := Lib.hid hc
    clear hc
    go_wp2_with fail
    go_loopw [6] (fun i wr => ∃ k : Nat, k ≤ l.length ∧ i = .int .i64 k ∧ (∀ j (hj : j < l.length), j < k → isC x y z l[j] = false) ∧ Ext w1 wr) (fun i _ => l.length - (intOf i).toNat)
    case atStart => exact ⟨0, Nat.zero_le _, rfl, fun j _ hj => by omega, Ext.refl _⟩
    case round =>
      obtain ⟨k, hk, rfl, hno, hEr⟩ := hrel
      have HN := Lib.hid hno
      clear hno
      by_cases hlt : k < l.length
      · obtain ⟨g0, g1, g2⟩ := HC.out k hlt
        replace g0 := hEr.cell g0
        replace g1 := hEr.cell g1
        replace g2 := hEr.cell g2
        have e0 := hEr.cell c0
        have e1 := hEr.cell c1
        have e2 := hEr.cell c2
        have hi1 : (k : Int) < (l.length : Int) := by omega
        have hi0 : (0 : Int) ≤ (k : Int) := by omega
        have s1 := Try.plain45
        have s2 := Try.guard45
        have HY : Hid (isC x y z l[k] = (((l[k].1 : Int) == x) && ((l[k].2.1 : Int) == y) && ((l[k].2.2 : Int) == z))) := rfl
        generalize (l[k].1 : Int) = a at *
        generalize (l[k].2.1 : Int) = b at *
        generalize (l[k].2.2 : Int) = c at *
        cases b0 : (a == x) with
        | false =>
          have HZ : Hid (isC x y z l[k] = false) := by show _ = _; rw [HY.out, b0]; rfl
          clear HY
          go_wp2_with fail
          go_quiet (fail)
          go_wp2_with fail
          go_roundw
          case rel => exact ⟨k + 1, by omega, by go_num, fun j hj hjk => if h : j = k then by subst h; exact HZ.out else HN.out j hj (by omega), hEr.trans ⟨rfl, rfl, rfl, Nat.le_refl _, fun _ _ => rfl⟩⟩
          case measure => simp [intOf]; omega
        | true =>
        cases b1 : (b == y) with
        | false =>
          have HZ : Hid (isC x y z l[k] = false) := by show _ = _; rw [HY.out, b0, b1]; rfl
          clear HY
          go_wp2_with fail
          go_quiet (fail)
          go_wp2_with fail
          go_roundw
          case rel => exact ⟨k + 1, by omega, by go_num, fun j hj hjk => if h : j = k then by subst h; exact HZ.out else HN.out j hj (by omega), hEr.trans ⟨rfl, rfl, rfl, Nat.le_refl _, fun _ _ => rfl⟩⟩
          case measure => simp [intOf]; omega
        | true =>
        cases b2 : (c == z) with
        | false =>
          have HZ : Hid (isC x y z l[k] = false) := by show _ = _; rw [HY.out, b0, b1, b2]; rfl
          clear HY
          go_wp2_with fail
          go_quiet (fail)
          go_wp2_with fail
          go_roundw
          case rel => exact ⟨k + 1, by omega, by go_num, fun j hj hjk => if h : j = k then by subst h; exact HZ.out else HN.out j hj (by omega), hEr.trans ⟨rfl, rfl, rfl, Nat.le_refl _, fun _ _ => rfl⟩⟩
          case measure => simp [intOf]; omega
        | true =>
          have HZ : Hid (findF l x y z = k) := find_at l x y z k hlt HN.out (by rw [HY.out, b0, b1, b2]; rfl)
          clear HY
          go_wp2_with fail
          go_quiet (fail)
          go_wp2_with fail
          go_ret
          exact ⟨by rw [HZ.out]; rfl, hE.trans (hEr.trans ⟨rfl, rfl, rfl, Nat.le_refl _, fun _ _ => rfl⟩)⟩
      · have HZ : Hid (findF l x y z = -1) := find_none l x y z (fun j hj => HN.out j hj (by omega))
        go_wp2_with fail
        go_ret
        exact ⟨by rw [HZ.out]; rfl, hE.trans hEr⟩

end Go.Proofs.Ytbknabgimjkcoaa
