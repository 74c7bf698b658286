import Derived.Test.YtbknabgimjkcoaaPlanE
import Derived.Deep.AppendLies
namespace Go.Proofs.Ytbknabgimjkcoaa
open Go.RowKit

set_option maxHeartbeats 1000000 in
theorem rright_any (s r p : Int) (w : World) :
    Calls Try.prog 16 #[.agg #[.int .i64 s, .int .i64 r, .int .i64 p]] w fun e w' => e = .returned (.bool (rightB s r p)) ∧ Ext w w' := by
  by_cases h1 : 2 ≤ s
  · by_cases h2 : s ≤ 16
    · by_cases h3 : 1 ≤ r
      · by_cases h4 : r ≤ 32
        · by_cases h5 : 1 ≤ p
          · by_cases h6 : p ≤ 48
            · have hv : rightB s r p = true := rightB_true.2 ⟨⟨h1, h2⟩, ⟨h3, h4⟩, h5, h6⟩
              rw [hv]
              clear hv
              go_enter Try.func16, Try.ntmps16
              go_wp2
              go_ret
              exact ⟨rfl, (Ext.refl _).alloc _⟩
            · have hv : rightB s r p = false := by rw [Bool.eq_false_iff, ne_eq, rightB_true]; omega
              rw [hv]
              clear hv
              go_enter Try.func16, Try.ntmps16
              go_wp2
              go_ret
              exact ⟨rfl, (Ext.refl _).alloc _⟩
          · have hv : rightB s r p = false := by rw [Bool.eq_false_iff, ne_eq, rightB_true]; omega
            rw [hv]
            clear hv
            go_enter Try.func16, Try.ntmps16
            go_wp2
            go_ret
            exact ⟨rfl, (Ext.refl _).alloc _⟩
        · have hv : rightB s r p = false := by rw [Bool.eq_false_iff, ne_eq, rightB_true]; omega
          rw [hv]
          clear hv
          go_enter Try.func16, Try.ntmps16
          go_wp2
          go_ret
          exact ⟨rfl, (Ext.refl _).alloc _⟩
      · have hv : rightB s r p = false := by rw [Bool.eq_false_iff, ne_eq, rightB_true]; omega
        rw [hv]
        clear hv
        go_enter Try.func16, Try.ntmps16
        go_wp2
        go_ret
        exact ⟨rfl, (Ext.refl _).alloc _⟩
    · have hv : rightB s r p = false := by rw [Bool.eq_false_iff, ne_eq, rightB_true]; omega
      rw [hv]
      clear hv
      go_enter Try.func16, Try.ntmps16
      go_wp2
      go_ret
      exact ⟨rfl, (Ext.refl _).alloc _⟩
  · have hv : rightB s r p = false := by rw [Bool.eq_false_iff, ne_eq, rightB_true]; omega
    rw [hv]
    clear hv
    go_enter Try.func16, Try.ntmps16
    go_wp2
    go_ret
    exact ⟨rfl, (Ext.refl _).alloc _⟩

/-! ### The document's row of cells -/
abbrev Cell := Nat × Nat × Nat
def cellVs (c : Cell) : List Value := [.int .i64 c.1, .int .i64 c.2.1, .int .i64 c.2.2]
def cellsVs (l : List Cell) : List Value := l.flatMap cellVs
theorem cellsVs_length (l : List Cell) : (cellsVs l).length = l.length * 3 := by
  induction l with
  | nil => rfl
  | cons c l ih => simp [cellsVs, cellVs] at *; omega
theorem cellsVs_snoc (l : List Cell) (c : Cell) : cellsVs (l ++ [c]) = cellsVs l ++ cellVs c := by simp [cellsVs]

def preL : List Cell := [(1, 0, 0), (1, 0, 1), (2, 0, 0), (2, 0, 1), (3, 0, 0), (3, 0, 1)]
def recL (i k : Nat) : List Cell := (List.range k).map fun x => (5, i, x)
def pieL (i k : Nat) : List Cell := (List.range k).map fun x => (7, i, x)
def segL (r i : Nat) : List Cell := ((4, i, 0) :: recL i r) ++ [(6, i, 0)]
def areL (p i : Nat) : List Cell := (8, i, 0) :: pieL i p
def segsL (r i : Nat) : List Cell := (List.range i).flatMap (segL r)
def aresL (p i : Nat) : List Cell := (List.range i).flatMap (areL p)
def cellsL (s r p : Nat) : List Cell := preL ++ segsL r s ++ aresL p 2
theorem recL_succ (i k : Nat) : recL i (k + 1) = recL i k ++ [(5, i, k)] := by simp [recL, List.range_succ]
theorem pieL_succ (i k : Nat) : pieL i (k + 1) = pieL i k ++ [(7, i, k)] := by simp [pieL, List.range_succ]
theorem segsL_succ (r i : Nat) : segsL r (i + 1) = segsL r i ++ segL r i := by simp [segsL, List.range_succ]
theorem aresL_succ (p i : Nat) : aresL p (i + 1) = aresL p i ++ areL p i := by simp [aresL, List.range_succ]
theorem segL_length (r i : Nat) : (segL r i).length = r + 2 := by simp [segL, recL]
theorem areL_length (p i : Nat) : (areL p i).length = p + 1 := by simp [areL, pieL]
theorem segsL_length (r i : Nat) : (segsL r i).length = i * (r + 2) := by
  induction i with
  | zero => simp [segsL]
  | succ i ih => rw [segsL_succ, List.length_append, ih, segL_length, Nat.add_mul]; omega
theorem aresL_length (p i : Nat) : (aresL p i).length = i * (p + 1) := by
  induction i with
  | zero => simp [aresL]
  | succ i ih => rw [aresL_succ, List.length_append, ih, areL_length, Nat.add_mul]; omega

theorem Try.info45 : (Try.prog.info? 45).map (fun i => (i.zero, i.size, i.bytes)) = some (some (.agg #[.int .i64 0, .int .i64 0, .int .i64 0]), 3, 24) := by kernel_rfl

/-- The row that is being made: it lies behind w; nothing that was there has turned. -/
def CInv (w : World) (l : List Cell) (v : Value) (wr : World) : Prop := wr.ownsRow w.heap.size 45 3 v l.length (cellsVs l) ∧ Ext w wr

theorem append_cell {ops : Array Oper} {rest : List Oper} {o : Oper} {a : Act} {Q : Exit → Act → World → Prop} (w1 wr : World) (c : Cell) (l : List Cell) (v : Value) (s x : Operand) (hgd : o.guard = none)
    (ho : o.op = .call { callee := .builtin .append, args := #[s, x], argTypes := #[42, 42] }) (hs : a.eval s = v) (hx : a.eval x = .slice (some ⟨wr.heap.size, 0, none⟩) 1 1) (hI : CInv w1 l v wr) (hl : l.length ≤ 1000)
    (h : ∀ v' w', CInv w1 (l ++ [c]) v' w' → wpList Try.prog ops Q rest (a.put o.dst v') w') : wpList Try.prog ops Q (o :: rest) a (wr.alloc (.cells #[.int .i64 c.1, .int .i64 c.2.1, .int .i64 c.2.2] 45)) := by
  obtain ⟨i0, hi, hz0, hz1, hz2⟩ := info_parts Try.info45
  obtain ⟨hown, hE⟩ := hI
  have hsz := hE.sz
  refine wpList_append_own _ hgd s x 42 ho w1.heap.size 45 i0 _ 3 24 Try.underlying42 hi hz0 hz1 hz2 rfl (by omega) v l.length (cellsVs l) hs (hown.alloc _) ⟨wr.heap.size, 0, none⟩ 1 1 (cellVs c) hx rfl ?_ ?_ (by unfold maxLen; omega) (by omega) (by simp; omega) ?_
  · exact World.news_of_block (cs := #[.int .i64 c.1, .int .i64 c.2.1, .int .i64 c.2.2]) (t := 45) (fr := (0, 0)) (heap_alloc_new wr _)
  · intro u hu; simp [cellVs] at hu; rcases hu with rfl | rfl | rfl <;> rfl
  · intro v' w' hown' hg _
    refine h v' w' ⟨?_, ?_⟩
    · rw [cellsVs_snoc, List.length_append]; exact hown'
    · refine Below.grown (hE.alloc _) hg (by simp; omega) fun k hk => ?_
      rcases hown.2 with ⟨hv, _⟩ | ⟨g, cap, cur, hv, hbg, _⟩
      · rw [hv] at hk; cases hk
      · rw [hv] at hk; cases hk; exact hbg

theorem len1 (s r i : Nat) (hs : s ≤ 16) (hr : r ≤ 32) (hi : i ≤ s) : (preL ++ segsL r i).length ≤ 600 := by
  rw [List.length_append, segsL_length]
  have : i * (r + 2) ≤ 16 * 34 := Nat.mul_le_mul (by omega) (by omega)
  simp [preL]; omega

set_option maxHeartbeats 4000000 in
theorem cells_yes (s r p : Nat) (w : World) (hR : rightB s r p = true) :
    Calls Try.prog 32 #[.agg #[.int .i64 s, .int .i64 r, .int .i64 p]] w fun e w' => ∃ v w1, e = .returned v ∧ Ext w w1 ∧ CInv w1 (cellsL s r p) v w' := by
  obtain ⟨⟨hs1, hs2⟩, ⟨hr1, hr2⟩, hp1, hp2⟩ := rightB_true.1 hR
  go_enter Try.func32, Try.ntmps32
  go_wp2_with fail
  have c0 : (w.alloc (.cells #[.int .i64 s, .int .i64 r, .int .i64 p] 23)).cell? ⟨w.heap.size, 0, none⟩ = some (.int .i64 s) := by simp [go_sem]
  have c1 : (w.alloc (.cells #[.int .i64 s, .int .i64 r, .int .i64 p] 23)).cell? ⟨w.heap.size, 1, none⟩ = some (.int .i64 r) := by simp [go_sem]
  have c2 : (w.alloc (.cells #[.int .i64 s, .int .i64 r, .int .i64 p] 23)).cell? ⟨w.heap.size, 2, none⟩ = some (.int .i64 p) := by simp [go_sem]
  have hE : Ext w (w.alloc (.cells #[.int .i64 s, .int .i64 r, .int .i64 p] 23)) := (Ext.refl _).alloc _
  go_call (rright_any s r p) as e w1 ⟨rfl, hx⟩
  rw [hR]
  replace c0 := hx.cell c0
  replace c1 := hx.cell c1
  replace c2 := hx.cell c2
  replace hE := hE.trans hx
  clear hx hR
  go_wp2_with fail
  go_loopw [3, 4] (fun v i wr => ∃ k : Nat, k ≤ s ∧ i = .int .i64 k ∧ CInv w1 (preL ++ segsL r k) v wr) (fun _ i _ => s - (intOf i).toNat)
  case atStart =>
    refine ⟨0, Nat.zero_le _, rfl, ⟨by simp [preL, segsL, cellsVs, cellVs], .inr ⟨w1.heap.size, 6, _, rfl, Nat.le_refl _, heap_alloc_new w1 _, by simp [preL, segsL], by unfold maxLen; omega, by simp, by simp [preL, segsL, cellsVs, cellVs]⟩⟩, (Ext.refl _).alloc _⟩
  case round =>
    obtain ⟨k, hk, rfl, hI⟩ := hrel
    have d0 := hI.2.cell c0
    have d1 := hI.2.cell c1
    have hl1 := len1 s r k (by omega) (by omega) hk
    by_cases hlt : k < s
    · go_wp2_with (at_builtin; refine append_cell w1 wr (4, k, 0) _ _ _ _ rfl rfl rfl rfl hI (by omega) ?_; intro v1 wa hIa)
      clear d0 d1
      go_loopw [3, 5] (fun v j wb => ∃ m : Nat, m ≤ r ∧ j = .int .i64 m ∧ CInv w1 (preL ++ segsL r k ++ [(4, k, 0)] ++ recL k m) v wb) (fun _ j _ => r - (intOf j).toNat)
      case atStart => exact ⟨0, Nat.zero_le _, rfl, by simpa [recL] using hIa⟩
      case round =>
        obtain ⟨m, hm, rfl, hJ⟩ := hrel
        have d1 := hJ.2.cell c1
        have d0 := hJ.2.cell c0
        have hl2 : (preL ++ segsL r k ++ [(4, k, 0)] ++ recL k m).length ≤ 700 := by
          simp only [List.length_append, List.length_singleton, recL, List.length_map, List.length_range] at hl1 ⊢; omega
        by_cases hlt2 : m < r
        · go_wp2_with (at_builtin; refine append_cell w1 wr (5, k, m) _ _ _ _ rfl rfl rfl rfl hJ (by omega) ?_; intro v2 wb hIb)
          go_roundw
          case rel => exact ⟨m + 1, by omega, by go_num, by rw [recL_succ, ← List.append_assoc]; exact hIb⟩
          case measure => simp [intOf]; omega
        · have hmr : m = r := by omega
          subst hmr
          go_wp2_with (at_builtin; refine append_cell w1 wr (6, k, 0) _ _ _ _ rfl rfl rfl rfl hJ (by omega) ?_; intro v2 wb hIb)
          go_roundw
          case rel =>
            refine ⟨k + 1, by omega, by go_num, ?_⟩
            have : preL ++ segsL m (k + 1) = preL ++ segsL m k ++ [(4, k, 0)] ++ recL k m ++ [(6, k, 0)] := by rw [segsL_succ]; simp [segL]
            rw [this]; exact hIb
          case measure => simp [intOf]; omega
    · have hks : k = s := by omega
      subst hks
      go_wp2_with fail
      clear d0 d1
      go_loopw [3, 6] (fun v j wb => ∃ m : Nat, m ≤ 2 ∧ j = .int .i64 m ∧ CInv w1 (preL ++ segsL r k ++ aresL p m) v wb) (fun _ j _ => 2 - (intOf j).toNat)
      case atStart => exact ⟨0, Nat.zero_le _, rfl, by simpa [aresL] using hI⟩
      case round =>
        obtain ⟨m, hm, rfl, hJ⟩ := hrel
        have hl2 : (preL ++ segsL r k ++ aresL p m).length ≤ 700 := by
          have : m * (p + 1) ≤ 2 * 49 := Nat.mul_le_mul hm (by omega)
          rw [List.length_append, aresL_length]; omega
        by_cases hlt2 : m < 2
        · go_wp2_with (at_builtin; refine append_cell w1 wr (8, m, 0) _ _ _ _ rfl rfl rfl rfl hJ (by omega) ?_; intro v2 wb hIb)
          go_loopw [3, 7] (fun v j wb => ∃ q : Nat, q ≤ p ∧ j = .int .i64 q ∧ CInv w1 (preL ++ segsL r k ++ aresL p m ++ [(8, m, 0)] ++ pieL m q) v wb) (fun _ j _ => p - (intOf j).toNat)
          case atStart => exact ⟨0, Nat.zero_le _, rfl, by simpa [pieL] using hIb⟩
          case round =>
            obtain ⟨q, hq, rfl, hK⟩ := hrel
            have d2 := hK.2.cell c2
            have hl3 : (preL ++ segsL r k ++ aresL p m ++ [(8, m, 0)] ++ pieL m q).length ≤ 800 := by
              simp only [List.length_append, List.length_singleton, pieL, List.length_map, List.length_range] at hl2 ⊢; omega
            by_cases hlt3 : q < p
            · go_wp2_with (at_builtin; refine append_cell w1 wr (7, m, q) _ _ _ _ rfl rfl rfl rfl hK (by omega) ?_; intro v3 wc hIc)
              go_roundw
              case rel => exact ⟨q + 1, by omega, by go_num, by rw [pieL_succ, ← List.append_assoc]; exact hIc⟩
              case measure => simp [intOf]; omega
            · have hqp : q = p := by omega
              subst hqp
              go_wp2_with fail
              go_roundw
              case rel =>
                refine ⟨m + 1, by omega, by go_num, ?_⟩
                have : preL ++ segsL r k ++ aresL q (m + 1) = preL ++ segsL r k ++ aresL q m ++ [(8, m, 0)] ++ pieL m q := by rw [aresL_succ]; simp [areL]
                rw [this]; exact hK
              case measure => simp [intOf]; omega
        · have hm2 : m = 2 := by omega
          subst hm2
          go_wp2_with fail
          go_ret
          exact ⟨_, w1, rfl, hE, hJ⟩

end Go.Proofs.Ytbknabgimjkcoaa
