/-
  The writer of package code: number.
-/
import Derived.Test.YtfpabbhgmncjdaaWr
namespace Go.Proofs.Ytfpabbhgmncjdaa
open Go.RowKit

/-- The lowest bytes first. -/
def leB : Nat → Int → List Int
  | 0, _ => []
  | k + 1, n => n % 256 :: leB k (n / 256)
theorem leB_length (k : Nat) (n : Int) : (leB k n).length = k := by
  induction k generalizing n with
  | zero => rfl
  | succ k ih => simp [leB, ih]
theorem leB1 (n : Int) : leB 1 n = [n % 256] := rfl
theorem leB2 (n : Int) : leB 2 n = [n % 256, n / 256 % 256] := rfl
theorem leB4 (n : Int) : leB 4 n = [n % 256, n / 256 % 256, n / 65536 % 256, n / 16777216 % 256] := by
  simp only [leB, Int.ediv_ediv_of_nonneg (show (0 : Int) ≤ 256 by decide)]
  simp [Int.ediv_ediv_of_nonneg]
theorem leB6 (n : Int) : leB 6 n = [n % 256, n / 256 % 256, n / 65536 % 256, n / 16777216 % 256, n / 4294967296 % 256, n / 1099511627776 % 256] := by
  simp [leB, Int.ediv_ediv_of_nonneg]

theorem set_app {l r : List Value} {n : Nat} (hn : n = l.length) (j : Nat) (u : Value) : (l ++ r).set (n + j) u = l ++ r.set j u := by
  subst hn
  rw [List.set_append_right _ _ (by omega)]
  simp
theorem set_app0 {l r : List Value} {n : Nat} (hn : n = l.length) (u : Value) : (l ++ r).set n u = l ++ r.set 0 u := set_app hn 0 u

theorem Try.infoE8 : (Try.prog.info? 5).map (fun i => (i.zero, i.size, i.bytes)) = some (some (.int .u8 0), 1, 1) := by kernel_rfl
theorem appendMake {ops : Array Oper} {rest : List Oper} {o : Oper} {a : Act} {Q : Exit → Act → World → Prop} (w : World) (hgd : o.guard = none) (s x : Operand)
    (ho : o.op = .call { callee := .builtin .append, args := #[s, x], argTypes := #[25, 3] })
    (B : Nat) (A : Option Addr) (n c : Nat) (xs : List Int) (hs : a.eval s = .slice A n c) (hn : n = xs.length) (hown : Own w B 5 A c (xs.map (.int .u8)))
    (m : Nat) (hx : a.eval x = .int .i64 (m : Int)) (hm : 0 < m) (h63 : xs.length + m ≤ 10000000000000) (hbase : B ≤ w.heap.size)
    (h : ∀ A' c' m' w', m' = xs.length + m → Own w' B 5 A' c' (xs.map (.int .u8) ++ List.replicate m (.int .u8 0)) → Fr (blk A) w w' → (∀ i, blk A' i → blk A i ∨ w.heap.size ≤ i) → wpList Try.prog ops Q rest (a.put o.dst (.slice A' m' c')) w') : wpList Try.prog ops Q (o :: rest) a w := by
  obtain ⟨i0, hi, hz0, hz1, hz2⟩ := info_parts Try.infoE8
  refine wpList_append_make w hgd s x 25 3 ho 5 .i64 i0 _ 1 Try.underlying25 Try.underlying3 hi hz0 hz1 hz2 rfl rfl B A n c (xs.map (.int .u8)) hs (by simpa using hn) hown m hx hm (by unfold maxLen; simp; omega) (by simp; omega) hbase ?_
  intro A' c' w' h1 h2 h3
  exact h A' c' _ w' (by simp) h1 h2 h3

/-- The state behind the append of number: the row with zeros, and the writer's block with the new slice. -/
theorem Wr.grow {B wb c c1 m : Nat} {A : Option Addr} {g : Nat} {w w1 : World} {bs : List Int} {sp : Bool} (h : Wr 37 B w wb A c bs sp)
    (hf : Fr (blk A) w w1) (hown : Own w1 B 5 (some ⟨g, 0, none⟩) c1 (bs.map (.int .u8) ++ List.replicate m (.int .u8 0))) :
    w1.heap[wb]? = some (.cells #[.slice A bs.length c, .bool sp] 37) ∧ g ≠ wb ∧ (∀ j, w1.frozen? ⟨g, j, none⟩ = false) ∧ (∀ j, j < m → w1.cell? ⟨g, bs.length + j, none⟩ = some (.int .u8 0)) ∧ bs.length + m ≤ c1 := by
  have h0 : w1.heap[wb]? = some (.cells #[.slice A bs.length c, .bool sp] 37) := (hf.block wb h.lt (h.far (by decide))).trans h.1
  refine ⟨h0, fun e => hown.ne_blk h0 (by decide) (by subst e; rfl), fun j => hown.frozen j, fun j hj => ?_, by simpa using hown.cap.1⟩
  obtain ⟨ad, ha, hc⟩ := hown.rd (bs.length + j) (.int .u8 0) (by rw [List.getElem?_append_right (by simp)]; simp [hj])
  injection ha with ha
  subst ha
  rw [add_lit', Nat.zero_add] at hc
  exact hc

theorem Own.cong {w : World} {B : Nat} {e : TypeId} {A : Option Addr} {c : Nat} {xs ys : List Value} (h : Own w B e A c xs) (hx : xs = ys) : Own w B e A c ys := hx ▸ h

/-- The end of number: all stores are done. -/
theorem Wr.done {B wb c c1 : Nat} {A : Option Addr} {g : Nat} {w w1 w2 : World} {bs bs' : List Int} {sp : Bool} (h : Wr 37 B w wb A c bs sp)
    (hf : Fr (blk A) w w1) (hA : ∀ i, blk (some ⟨g, 0, none⟩) i → blk A i ∨ w.heap.size ≤ i)
    (hb : w2.heap[wb]? = some (.cells #[.slice (some ⟨g, 0, none⟩) bs'.length c1, .bool sp] 37)) (hown : Own w2 B 5 (some ⟨g, 0, none⟩) c1 (bs'.map (.int .u8)))
    (hf2 : Fr (touched wb (some ⟨g, 0, none⟩)) w1 w2) : WStep 37 B wb A w bs' sp w2 :=
  ⟨_, _, ⟨hb, h.2.1, hown⟩, (hf.mono (fun i _ hi => Or.inr hi)).trans hf2 (touched_sub hA), hA⟩

set_option maxHeartbeats 1000000 in
theorem number_1 (B wb : Nat) (A : Option Addr) (c : Nat) (bs : List Int) (sp : Bool) (n : Int) (w : World) (hW : Wr 37 B w wb A c bs sp) (hB : B ≤ w.heap.size) (hl : bs.length ≤ 1000000000000) (hn0 : 0 ≤ n) (hn : n ≤ 1099511627776) :
    Calls Try.prog 30 #[.pointer (some ⟨wb, 0, none⟩), .int .i64 1, .int .i64 n] w fun e w' => e = .returned (.tuple #[]) ∧ WStep 37 B wb A w (bs ++ leB 1 n) sp w' := by
  have h0 := hW.c0
  have hlt := hW.lt
  have hfz := hW.f 0
  go_enter Try.func30, Try.ntmps30
  go_wp2_with (at_builtin; refine appendMake _ rfl _ _ rfl B _ _ _ bs rfl rfl hW.2.2 1 rfl (by omega) (by omega) hB ?_; intro A1 c1 m1 w1 hm1 hown hfr hA1; obtain ⟨g, rfl⟩ := hown.some_ (by simp); obtain rfl := hm1; obtain ⟨hb1, hne, hfg, hcg, hc1⟩ := hW.grow hfr hown; have HB1 := Lib.hid hb1; have HF := Lib.hid hfr; have HA := Lib.hid hA1; have hcw := cell_of_heap hb1 0; have hfw := frozen_of_heap hb1 0; have hc0 := hcg 0 (by omega); have hne2 : wb ≠ g := fun e => hne e.symm; rw [Nat.add_zero] at hc0; clear hb1 hfr hA1 hcg; simp at hcw)
  go_end0
  refine ⟨rfl, hW.done HF.out HA.out (c1 := c1) (bs' := bs ++ leB 1 n) ?_ ?_ (((Fr.refl _ _).set (.inl (.inl rfl)) _).set (.inl (.inr rfl)) _)⟩
  · repeat (refine (Below.heap_setCell _ _ _ _ (by simpa using hne2)).trans ?_)
    rw [heap_set HB1.out]
    simp [leB_length]
  · refine Own.cong ((hown.keep (w' := w1.setCell ⟨wb, 0, none⟩ _) (fun i hi _ => Below.heap_setCell _ _ _ i (by simp [blk] at hi; simp; omega))).set bs.length _) ?_
    rw [leB1]
    simp [set_app, set_app0, List.replicate]
set_option maxHeartbeats 1000000 in
theorem number_2 (B wb : Nat) (A : Option Addr) (c : Nat) (bs : List Int) (sp : Bool) (n : Int) (w : World) (hW : Wr 37 B w wb A c bs sp) (hB : B ≤ w.heap.size) (hl : bs.length ≤ 1000000000000) (hn0 : 0 ≤ n) (hn : n ≤ 1099511627776) :
    Calls Try.prog 30 #[.pointer (some ⟨wb, 0, none⟩), .int .i64 2, .int .i64 n] w fun e w' => e = .returned (.tuple #[]) ∧ WStep 37 B wb A w (bs ++ leB 2 n) sp w' := by
  have h0 := hW.c0
  have hlt := hW.lt
  have hfz := hW.f 0
  go_enter Try.func30, Try.ntmps30
  go_wp2_with (at_builtin; refine appendMake _ rfl _ _ rfl B _ _ _ bs rfl rfl hW.2.2 2 rfl (by omega) (by omega) hB ?_; intro A1 c1 m1 w1 hm1 hown hfr hA1; obtain ⟨g, rfl⟩ := hown.some_ (by simp); obtain rfl := hm1; obtain ⟨hb1, hne, hfg, hcg, hc1⟩ := hW.grow hfr hown; have HB1 := Lib.hid hb1; have HF := Lib.hid hfr; have HA := Lib.hid hA1; have hcw := cell_of_heap hb1 0; have hfw := frozen_of_heap hb1 0; have hc1 := hcg 1 (by omega); have hc0 := hcg 0 (by omega); have hne2 : wb ≠ g := fun e => hne e.symm; rw [Nat.add_zero] at hc0; clear hb1 hfr hA1 hcg; simp at hcw)
  go_end0
  refine ⟨rfl, hW.done HF.out HA.out (c1 := c1) (bs' := bs ++ leB 2 n) ?_ ?_ ((((Fr.refl _ _).set (.inl (.inl rfl)) _).set (.inl (.inr rfl)) _).set (.inl (.inr rfl)) _)⟩
  · repeat (refine (Below.heap_setCell _ _ _ _ (by simpa using hne2)).trans ?_)
    rw [heap_set HB1.out]
    simp [leB_length]
  · refine Own.cong ((((hown.keep (w' := w1.setCell ⟨wb, 0, none⟩ _) (fun i hi _ => Below.heap_setCell _ _ _ i (by simp [blk] at hi; simp; omega))).set (bs.length + 1) _)).set bs.length _) ?_
    rw [leB2]
    simp [set_app, set_app0, List.replicate]
set_option maxHeartbeats 1000000 in
theorem number_4 (B wb : Nat) (A : Option Addr) (c : Nat) (bs : List Int) (sp : Bool) (n : Int) (w : World) (hW : Wr 37 B w wb A c bs sp) (hB : B ≤ w.heap.size) (hl : bs.length ≤ 1000000000000) (hn0 : 0 ≤ n) (hn : n ≤ 1099511627776) :
    Calls Try.prog 30 #[.pointer (some ⟨wb, 0, none⟩), .int .i64 4, .int .i64 n] w fun e w' => e = .returned (.tuple #[]) ∧ WStep 37 B wb A w (bs ++ leB 4 n) sp w' := by
  have h0 := hW.c0
  have hlt := hW.lt
  have hfz := hW.f 0
  go_enter Try.func30, Try.ntmps30
  go_wp2_with (at_builtin; refine appendMake _ rfl _ _ rfl B _ _ _ bs rfl rfl hW.2.2 4 rfl (by omega) (by omega) hB ?_; intro A1 c1 m1 w1 hm1 hown hfr hA1; obtain ⟨g, rfl⟩ := hown.some_ (by simp); obtain rfl := hm1; obtain ⟨hb1, hne, hfg, hcg, hc1⟩ := hW.grow hfr hown; have HB1 := Lib.hid hb1; have HF := Lib.hid hfr; have HA := Lib.hid hA1; have hcw := cell_of_heap hb1 0; have hfw := frozen_of_heap hb1 0; have hc3 := hcg 3 (by omega); have hc2 := hcg 2 (by omega); have hc1 := hcg 1 (by omega); have hc0 := hcg 0 (by omega); have hne2 : wb ≠ g := fun e => hne e.symm; rw [Nat.add_zero] at hc0; clear hb1 hfr hA1 hcg; simp at hcw)
  go_end0
  refine ⟨rfl, hW.done HF.out HA.out (c1 := c1) (bs' := bs ++ leB 4 n) ?_ ?_ ((((((Fr.refl _ _).set (.inl (.inl rfl)) _).set (.inl (.inr rfl)) _).set (.inl (.inr rfl)) _).set (.inl (.inr rfl)) _).set (.inl (.inr rfl)) _)⟩
  · repeat (refine (Below.heap_setCell _ _ _ _ (by simpa using hne2)).trans ?_)
    rw [heap_set HB1.out]
    simp [leB_length]
  · refine Own.cong ((((((((hown.keep (w' := w1.setCell ⟨wb, 0, none⟩ _) (fun i hi _ => Below.heap_setCell _ _ _ i (by simp [blk] at hi; simp; omega))).set (bs.length + 3) _)).set (bs.length + 2) _)).set (bs.length + 1) _)).set bs.length _) ?_
    rw [leB4]
    simp [set_app, set_app0, List.replicate]
set_option maxHeartbeats 1000000 in
theorem number_6 (B wb : Nat) (A : Option Addr) (c : Nat) (bs : List Int) (sp : Bool) (n : Int) (w : World) (hW : Wr 37 B w wb A c bs sp) (hB : B ≤ w.heap.size) (hl : bs.length ≤ 1000000000000) (hn0 : 0 ≤ n) (hn : n ≤ 1099511627776) :
    Calls Try.prog 30 #[.pointer (some ⟨wb, 0, none⟩), .int .i64 6, .int .i64 n] w fun e w' => e = .returned (.tuple #[]) ∧ WStep 37 B wb A w (bs ++ leB 6 n) sp w' := by
  have h0 := hW.c0
  have hlt := hW.lt
  have hfz := hW.f 0
  go_enter Try.func30, Try.ntmps30
  go_wp2_with (at_builtin; refine appendMake _ rfl _ _ rfl B _ _ _ bs rfl rfl hW.2.2 6 rfl (by omega) (by omega) hB ?_; intro A1 c1 m1 w1 hm1 hown hfr hA1; obtain ⟨g, rfl⟩ := hown.some_ (by simp); obtain rfl := hm1; obtain ⟨hb1, hne, hfg, hcg, hc1⟩ := hW.grow hfr hown; have HB1 := Lib.hid hb1; have HF := Lib.hid hfr; have HA := Lib.hid hA1; have hcw := cell_of_heap hb1 0; have hfw := frozen_of_heap hb1 0; have hc5 := hcg 5 (by omega); have hc4 := hcg 4 (by omega); have hc3 := hcg 3 (by omega); have hc2 := hcg 2 (by omega); have hc1 := hcg 1 (by omega); have hc0 := hcg 0 (by omega); have hne2 : wb ≠ g := fun e => hne e.symm; rw [Nat.add_zero] at hc0; clear hb1 hfr hA1 hcg; simp at hcw)
  go_end0
  refine ⟨rfl, hW.done HF.out HA.out (c1 := c1) (bs' := bs ++ leB 6 n) ?_ ?_ ((((((((Fr.refl _ _).set (.inl (.inl rfl)) _).set (.inl (.inr rfl)) _).set (.inl (.inr rfl)) _).set (.inl (.inr rfl)) _).set (.inl (.inr rfl)) _).set (.inl (.inr rfl)) _).set (.inl (.inr rfl)) _)⟩
  · repeat (refine (Below.heap_setCell _ _ _ _ (by simpa using hne2)).trans ?_)
    rw [heap_set HB1.out]
    simp [leB_length]
  · refine Own.cong ((((((((((((hown.keep (w' := w1.setCell ⟨wb, 0, none⟩ _) (fun i hi _ => Below.heap_setCell _ _ _ i (by simp [blk] at hi; simp; omega))).set (bs.length + 5) _)).set (bs.length + 4) _)).set (bs.length + 3) _)).set (bs.length + 2) _)).set (bs.length + 1) _)).set bs.length _) ?_
    rw [leB6]
    simp [set_app, set_app0, List.replicate]; omega

theorem number_any (B wb : Nat) (A : Option Addr) (c : Nat) (bs : List Int) (sp : Bool) (wd n : Int) (w : World) (hW : Wr 37 B w wb A c bs sp) (hB : B ≤ w.heap.size) (hl : bs.length ≤ 1000000000000) (hn0 : 0 ≤ n) (hn : n ≤ topI wd) :
    Calls Try.prog 30 #[.pointer (some ⟨wb, 0, none⟩), .int .i64 wd, .int .i64 n] w fun e w' => e = .returned (.tuple #[]) ∧ WStep 37 B wb A w (bs ++ leB wd.toNat n) sp w' := by
  rcases topI_cases wd with ⟨rfl, h⟩ | ⟨rfl, h⟩ | ⟨rfl, h⟩ | ⟨rfl, h⟩ | ⟨_, h⟩
  · exact number_1 B wb A c bs sp n w hW hB hl hn0 (by omega)
  · exact number_2 B wb A c bs sp n w hW hB hl hn0 (by omega)
  · exact number_4 B wb A c bs sp n w hW hB hl hn0 (by omega)
  · exact number_6 B wb A c bs sp n w hW hB hl hn0 (by omega)
  · omega
end Go.Proofs.Ytfpabbhgmncjdaa
