/-
  The writer of package code: what it holds, and its inner steps.
  The writer of package code: number.
  The writer of package code: Field, Text, Row.
-/
import Derived.Test.YtcapapnhlkmeaaaGreatDoorM4
namespace Go.Proofs.YtcapapnhlkmeaaaGreatDoor
open Go.RowKit

def topI (w : Int) : Int := if w = 1 then 255 else if w = 2 then 65535 else if w = 4 then 4294967295 else if w = 6 then 1099511627776 else -1

theorem topI_none {w : Int} (h1 : w ≠ 1) (h2 : w ≠ 2) (h4 : w ≠ 4) (h6 : w ≠ 6) : topI w = -1 := by simp [topI, h1, h2, h4, h6]
theorem topI_cases (w : Int) : (w = 1 ∧ topI w = 255) ∨ (w = 2 ∧ topI w = 65535) ∨ (w = 4 ∧ topI w = 4294967295) ∨ (w = 6 ∧ topI w = 1099511627776) ∨ ((w ≠ 1 ∧ w ≠ 2 ∧ w ≠ 4 ∧ w ≠ 6) ∧ topI w = -1) := by
  by_cases h1 : w = 1
  · subst h1; exact .inl ⟨rfl, rfl⟩
  by_cases h2 : w = 2
  · subst h2; exact .inr (.inl ⟨rfl, rfl⟩)
  by_cases h4 : w = 4
  · subst h4; exact .inr (.inr (.inl ⟨rfl, rfl⟩))
  by_cases h6 : w = 6
  · subst h6; exact .inr (.inr (.inr (.inl ⟨rfl, rfl⟩)))
  exact .inr (.inr (.inr (.inr ⟨⟨h1, h2, h4, h6⟩, topI_none h1 h2 h4 h6⟩)))
theorem topI_bd (w : Int) : -1 ≤ topI w ∧ topI w ≤ 1099511627776 := by
  rcases topI_cases w with ⟨_, h⟩ | ⟨_, h⟩ | ⟨_, h⟩ | ⟨_, h⟩ | ⟨_, h⟩ <;> omega

theorem top_any (x : Int) (w : World) : Calls Tryz.prog 65 #[.int .i64 x] w fun e w' => e = .returned (.int .i64 (topI x)) ∧ w = w' := by
  rcases topI_cases x with ⟨rfl, h⟩ | ⟨rfl, h⟩ | ⟨rfl, h⟩ | ⟨rfl, h⟩ | ⟨⟨h1, h2, h4, h6⟩, h⟩
  · go_enter Tryz.func65, Tryz.ntmps65
    go_wp2
    go_ret
    exact ⟨rfl, rfl⟩
  · go_enter Tryz.func65, Tryz.ntmps65
    go_wp2
    go_ret
    exact ⟨rfl, rfl⟩
  · go_enter Tryz.func65, Tryz.ntmps65
    go_wp2
    go_ret
    exact ⟨rfl, rfl⟩
  · go_enter Tryz.func65, Tryz.ntmps65
    go_wp2
    go_ret
    exact ⟨rfl, rfl⟩
  · rw [h]
    have b1 : (x == 1) = false := by simpa using h1
    have b2 : (x == 2) = false := by simpa using h2
    have b4 : (x == 4) = false := by simpa using h4
    have b6 : (x == 6) = false := by simpa using h6
    clear h h1 h2 h4 h6
    go_enter Tryz.func65, Tryz.ntmps65
    go_wp2
    go_ret
    exact ⟨rfl, rfl⟩

/-- A writer: its block holds the slice and the mark; the slice is its own row. -/
def Wr (tW : TypeId) (B : Nat) (w : World) (wb : Nat) (A : Option Addr) (c : Nat) (bs : List Int) (sp : Bool) : Prop :=
  w.heap[wb]? = some (.cells #[.slice A bs.length c, .bool sp] tW) ∧ B ≤ wb ∧ Own w B 5 A c (bs.map (.int .u8))
def touched (wb : Nat) (A : Option Addr) : Nat → Prop := fun i => i = wb ∨ blk A i
/-- What a call on a writer leaves. -/
def WStep (tW : TypeId) (B wb : Nat) (A : Option Addr) (w : World) (bs : List Int) (sp : Bool) (w' : World) : Prop :=
  ∃ A' c', Wr tW B w' wb A' c' bs sp ∧ Fr (touched wb A) w w' ∧ ∀ i, blk A' i → blk A i ∨ w.heap.size ≤ i

section
variable {tW : TypeId} {B wb c : Nat} {A : Option Addr} {w w' w1 : World} {bs : List Int} {sp : Bool}
theorem Wr.c0 (h : Wr tW B w wb A c bs sp) : w.cell? ⟨wb, 0, none⟩ = some (.slice A bs.length c) := cell_of_heap h.1 0
theorem Wr.c1 (h : Wr tW B w wb A c bs sp) : w.cell? ⟨wb, 1, none⟩ = some (.bool sp) := cell_of_heap h.1 1
theorem Wr.f (h : Wr tW B w wb A c bs sp) (k : Nat) : w.frozen? ⟨wb, k, none⟩ = false := frozen_of_heap h.1 k
theorem Wr.lt (h : Wr tW B w wb A c bs sp) : wb < w.heap.size := World.block_lt_of_cell? w _ h.c0
theorem Wr.far (h : Wr tW B w wb A c bs sp) (ht : 5 ≠ tW) : ¬ blk A wb := h.2.2.ne_blk h.1 ht
theorem Wr.len (h : Wr tW B w wb A c bs sp) : bs.length ≤ c := by simpa using h.2.2.cap.1
theorem Wr.fr {S : Nat → Prop} (h : Wr tW B w wb A c bs sp) (hf : Fr S w w') (h1 : ¬ S wb) (h2 : ∀ i, blk A i → ¬ S i) : Wr tW B w' wb A c bs sp :=
  ⟨(hf.block wb h.lt h1).trans h.1, h.2.1, h.2.2.fr hf h2⟩
theorem Wr.ext (h : Wr tW B w wb A c bs sp) (he : Ext w w') : Wr tW B w' wb A c bs sp :=
  h.fr (Fr.ofExt (fun _ => False) he) (fun h => h) (fun _ _ h => h)
theorem heap_set {v : Value} {cs : Array Value} {g k : Nat} {t : TypeId} (h : w.heap[g]? = some (.cells cs t)) : (w.setCell ⟨g, k, none⟩ v).heap[g]? = some (.cells (cs.setIfInBounds k v) t) := by
  simp [World.setCell, Array.getElem?_modify, h]
/-- another mark. -/
theorem Wr.mark (h : Wr tW B w wb A c bs sp) (ht : 5 ≠ tW) (sp' : Bool) : Wr tW B (w.setCell ⟨wb, 1, none⟩ (.bool sp')) wb A c bs sp' := by
  refine ⟨?_, h.2.1, h.2.2.keep fun i hi _ => Below.heap_setCell w _ _ i (fun e => h.far ht (by subst e; exact hi))⟩
  simp [World.setCell, Array.getElem?_modify, h.1]
theorem Wr.step (h : Wr tW B w wb A c bs sp) (ht : 5 ≠ tW) (sp' : Bool) : WStep tW B wb A w bs sp' (w.setCell ⟨wb, 1, none⟩ (.bool sp')) :=
  ⟨A, c, h.mark ht sp', (Fr.refl _ w).set (.inl (.inl rfl)) _, fun _ hi => .inl hi⟩
theorem WStep.rfl' (h : Wr tW B w wb A c bs sp) : WStep tW B wb A w bs sp w := ⟨A, c, h, Fr.refl _ w, fun _ hi => .inl hi⟩
theorem touched_sub {A' : Option Addr} (hA : ∀ i, blk A' i → blk A i ∨ w.heap.size ≤ i) : ∀ i, i < w.heap.size → touched wb A' i → touched wb A i := by
  rintro i hi (h | h)
  · exact .inl h
  · rcases hA i h with h | h
    · exact .inr h
    · omega
theorem WStep.trans {A' : Option Addr} {bs' : List Int} {sp' : Bool} (hf : Fr (touched wb A) w w1) (hA : ∀ i, blk A' i → blk A i ∨ w.heap.size ≤ i) (h2 : WStep tW B wb A' w1 bs' sp' w') : WStep tW B wb A w bs' sp' w' := by
  obtain ⟨A2, c2, hw, hf2, hA2⟩ := h2
  refine ⟨A2, c2, hw, hf.trans hf2 (touched_sub hA), fun i hi => ?_⟩
  rcases hA2 i hi with h | h
  · exact hA i h
  · exact .inr (Nat.le_trans hf.size h)
theorem WStep.ext {bs' : List Int} {sp' : Bool} (h : Ext w w1) (h2 : WStep tW B wb A w1 bs' sp' w') : WStep tW B wb A w bs' sp' w' :=
  WStep.trans (Fr.ofExt _ h) (fun _ hi => .inl hi) h2
theorem WStep.then {bs' : List Int} {sp' : Bool} (h2 : WStep tW B wb A w bs' sp' w1) (h : Ext w1 w') : WStep tW B wb A w bs' sp' w' := by
  obtain ⟨A2, c2, hw, hf2, hA2⟩ := h2
  exact ⟨A2, c2, hw.ext h, hf2.then h, hA2⟩
/-- the writer's own row and block lie from B on: what lay below stays. -/
theorem WStep.below {bs' : List Int} {sp' : Bool} (h : Wr tW B w wb A c bs sp) (h2 : WStep tW B wb A w bs' sp' w') (hB : B ≤ w.heap.size) : Below B w w' := by
  obtain ⟨A2, c2, hw, hf2, hA2⟩ := h2
  exact hf2.below hB (by
    rintro i (rfl | hi)
    · exact h.2.1
    · exact (h.2.2.lt hi).1)
end

set_option maxHeartbeats 400000 in
theorem holds_any (B wb : Nat) (A : Option Addr) (c : Nat) (bs : List Int) (sp is : Bool) (w : World) (hW : Wr 61 B w wb A c bs sp) :
    Calls Tryz.prog 64 #[.pointer (some ⟨wb, 0, none⟩), .bool is] w fun e w' => e = .returned (.bool (is && !sp)) ∧ w' = w.setCell ⟨wb, 1, none⟩ (.bool (sp || !is)) := by
  have h1 := hW.c1
  have hf := hW.f 1
  cases sp <;> cases is
  all_goals
    go_enter Tryz.func64, Tryz.ntmps64
    go_wp2
    go_ret
    exact ⟨rfl, rfl⟩
end Go.Proofs.YtcapapnhlkmeaaaGreatDoor
namespace Go.Proofs.YtcapapnhlkmeaaaGreatDoor
open Go.RowKit

/-- The lowest bytes first. -/
def leB : Nat → Int → List Int
  | 0, _ => []
  | k + 1, n => n % 256 :: leB k (n / 256)
theorem leB_length (k : Nat) (n : Int) : (leB k n).length = k := by
  induction k generalizing n with
  | zero => rfl
  | succ k ih => simp [leB, ih]
theorem leB1 (n : Int) : leB 1 n = [n % 256] := rfl
theorem leB2 (n : Int) : leB 2 n = [n % 256, n / 256 % 256] := rfl
theorem leB4 (n : Int) : leB 4 n = [n % 256, n / 256 % 256, n / 65536 % 256, n / 16777216 % 256] := by
  simp only [leB, Int.ediv_ediv_of_nonneg (show (0 : Int) ≤ 256 by decide)]
  simp [Int.ediv_ediv_of_nonneg]
theorem leB6 (n : Int) : leB 6 n = [n % 256, n / 256 % 256, n / 65536 % 256, n / 16777216 % 256, n / 4294967296 % 256, n / 1099511627776 % 256] := by
  simp [leB, Int.ediv_ediv_of_nonneg]

theorem set_app {l r : List Value} {n : Nat} (hn : n = l.length) (j : Nat) (u : Value) : (l ++ r).set (n + j) u = l ++ r.set j u := by
  subst hn
  rw [List.set_append_right _ _ (by omega)]
  simp
theorem set_app0 {l r : List Value} {n : Nat} (hn : n = l.length) (u : Value) : (l ++ r).set n u = l ++ r.set 0 u := set_app hn 0 u

theorem Tryz.infoE8 : (Tryz.prog.info? 5).map (fun i => (i.zero, i.size, i.bytes)) = some (some (.int .u8 0), 1, 1) := by kernel_rfl
theorem appendMake {ops : Array Oper} {rest : List Oper} {o : Oper} {a : Act} {Q : Exit → Act → World → Prop} (w : World) (hgd : o.guard = none) (s x : Operand)
    (ho : o.op = .call { callee := .builtin .append, args := #[s, x], argTypes := #[32, 3] })
    (B : Nat) (A : Option Addr) (n c : Nat) (xs : List Int) (hs : a.eval s = .slice A n c) (hn : n = xs.length) (hown : Own w B 5 A c (xs.map (.int .u8)))
    (m : Nat) (hx : a.eval x = .int .i64 (m : Int)) (hm : 0 < m) (h63 : xs.length + m ≤ 10000000000000) (hbase : B ≤ w.heap.size)
    (h : ∀ A' c' m' w', m' = xs.length + m → Own w' B 5 A' c' (xs.map (.int .u8) ++ List.replicate m (.int .u8 0)) → Fr (blk A) w w' → (∀ i, blk A' i → blk A i ∨ w.heap.size ≤ i) → wpList Tryz.prog ops Q rest (a.put o.dst (.slice A' m' c')) w') : wpList Tryz.prog ops Q (o :: rest) a w := by
  obtain ⟨i0, hi, hz0, hz1, hz2⟩ := info_parts Tryz.infoE8
  refine wpList_append_make w hgd s x 32 3 ho 5 .i64 i0 _ 1 Tryz.underlying32 Tryz.underlying3 hi hz0 hz1 hz2 rfl rfl B A n c (xs.map (.int .u8)) hs (by simpa using hn) hown m hx hm (by unfold maxLen; simp; omega) (by simp; omega) hbase ?_
  intro A' c' w' h1 h2 h3
  exact h A' c' _ w' (by simp) h1 h2 h3

/-- The state behind the append of number: the row with zeros, and the writer's block with the new slice. -/
theorem Wr.grow {B wb c c1 m : Nat} {A : Option Addr} {g : Nat} {w w1 : World} {bs : List Int} {sp : Bool} (h : Wr 61 B w wb A c bs sp)
    (hf : Fr (blk A) w w1) (hown : Own w1 B 5 (some ⟨g, 0, none⟩) c1 (bs.map (.int .u8) ++ List.replicate m (.int .u8 0))) :
    w1.heap[wb]? = some (.cells #[.slice A bs.length c, .bool sp] 61) ∧ g ≠ wb ∧ (∀ j, w1.frozen? ⟨g, j, none⟩ = false) ∧ (∀ j, j < m → w1.cell? ⟨g, bs.length + j, none⟩ = some (.int .u8 0)) ∧ bs.length + m ≤ c1 := by
  have h0 : w1.heap[wb]? = some (.cells #[.slice A bs.length c, .bool sp] 61) := (hf.block wb h.lt (h.far (by decide))).trans h.1
  refine ⟨h0, fun e => hown.ne_blk h0 (by decide) (by subst e; rfl), fun j => hown.frozen j, fun j hj => ?_, by simpa using hown.cap.1⟩
  obtain ⟨ad, ha, hc⟩ := hown.rd (bs.length + j) (.int .u8 0) (by rw [List.getElem?_append_right (by simp)]; simp [hj])
  injection ha with ha
  subst ha
  rw [add_lit', Nat.zero_add] at hc
  exact hc

theorem Own.cong {w : World} {B : Nat} {e : TypeId} {A : Option Addr} {c : Nat} {xs ys : List Value} (h : Own w B e A c xs) (hx : xs = ys) : Own w B e A c ys := hx ▸ h

/-- The end of number: all stores are done. -/
theorem Wr.done {B wb c c1 : Nat} {A : Option Addr} {g : Nat} {w w1 w2 : World} {bs bs' : List Int} {sp : Bool} (h : Wr 61 B w wb A c bs sp)
    (hf : Fr (blk A) w w1) (hA : ∀ i, blk (some ⟨g, 0, none⟩) i → blk A i ∨ w.heap.size ≤ i)
    (hb : w2.heap[wb]? = some (.cells #[.slice (some ⟨g, 0, none⟩) bs'.length c1, .bool sp] 61)) (hown : Own w2 B 5 (some ⟨g, 0, none⟩) c1 (bs'.map (.int .u8)))
    (hf2 : Fr (touched wb (some ⟨g, 0, none⟩)) w1 w2) : WStep 61 B wb A w bs' sp w2 :=
  ⟨_, _, ⟨hb, h.2.1, hown⟩, (hf.mono (fun i _ hi => Or.inr hi)).trans hf2 (touched_sub hA), hA⟩

set_option maxHeartbeats 1000000 in
theorem number_1 (B wb : Nat) (A : Option Addr) (c : Nat) (bs : List Int) (sp : Bool) (n : Int) (w : World) (hW : Wr 61 B w wb A c bs sp) (hB : B ≤ w.heap.size) (hl : bs.length ≤ 1000000000000) (hn0 : 0 ≤ n) (hn : n ≤ 1099511627776) :
    Calls Tryz.prog 66 #[.pointer (some ⟨wb, 0, none⟩), .int .i64 1, .int .i64 n] w fun e w' => e = .returned (.tuple #[]) ∧ WStep 61 B wb A w (bs ++ leB 1 n) sp w' := by
  have h0 := hW.c0
  have hlt := hW.lt
  have hfz := hW.f 0
  go_enter Tryz.func66, Tryz.ntmps66
  go_wp2_with (at_builtin; refine appendMake _ rfl _ _ rfl B _ _ _ bs rfl rfl hW.2.2 1 rfl (by omega) (by omega) hB ?_; intro A1 c1 m1 w1 hm1 hown hfr hA1; obtain ⟨g, rfl⟩ := hown.some_ (by simp); obtain rfl := hm1; obtain ⟨hb1, hne, hfg, hcg, hc1⟩ := hW.grow hfr hown; have HB1 := Lib.hid hb1; have HF := Lib.hid hfr; have HA := Lib.hid hA1; have hcw := cell_of_heap hb1 0; have hfw := frozen_of_heap hb1 0; have hc0 := hcg 0 (by omega); have hne2 : wb ≠ g := fun e => hne e.symm; rw [Nat.add_zero] at hc0; clear hb1 hfr hA1 hcg; simp at hcw)
  go_end0
  refine ⟨rfl, hW.done HF.out HA.out (c1 := c1) (bs' := bs ++ leB 1 n) ?_ ?_ (((Fr.refl _ _).set (.inl (.inl rfl)) _).set (.inl (.inr rfl)) _)⟩
  · repeat (refine (Below.heap_setCell _ _ _ _ (by simpa using hne2)).trans ?_)
    rw [heap_set HB1.out]
    simp [leB_length]
  · refine Own.cong ((hown.keep (w' := w1.setCell ⟨wb, 0, none⟩ _) (fun i hi _ => Below.heap_setCell _ _ _ i (by simp [blk] at hi; simp; omega))).set bs.length _) ?_
    rw [leB1]
    simp [set_app, set_app0, List.replicate]
set_option maxHeartbeats 1000000 in
theorem number_2 (B wb : Nat) (A : Option Addr) (c : Nat) (bs : List Int) (sp : Bool) (n : Int) (w : World) (hW : Wr 61 B w wb A c bs sp) (hB : B ≤ w.heap.size) (hl : bs.length ≤ 1000000000000) (hn0 : 0 ≤ n) (hn : n ≤ 1099511627776) :
    Calls Tryz.prog 66 #[.pointer (some ⟨wb, 0, none⟩), .int .i64 2, .int .i64 n] w fun e w' => e = .returned (.tuple #[]) ∧ WStep 61 B wb A w (bs ++ leB 2 n) sp w' := by
  have h0 := hW.c0
  have hlt := hW.lt
  have hfz := hW.f 0
  go_enter Tryz.func66, Tryz.ntmps66
  go_wp2_with (at_builtin; refine appendMake _ rfl _ _ rfl B _ _ _ bs rfl rfl hW.2.2 2 rfl (by omega) (by omega) hB ?_; intro A1 c1 m1 w1 hm1 hown hfr hA1; obtain ⟨g, rfl⟩ := hown.some_ (by simp); obtain rfl := hm1; obtain ⟨hb1, hne, hfg, hcg, hc1⟩ := hW.grow hfr hown; have HB1 := Lib.hid hb1; have HF := Lib.hid hfr; have HA := Lib.hid hA1; have hcw := cell_of_heap hb1 0; have hfw := frozen_of_heap hb1 0; have hc1 := hcg 1 (by omega); have hc0 := hcg 0 (by omega); have hne2 : wb ≠ g := fun e => hne e.symm; rw [Nat.add_zero] at hc0; clear hb1 hfr hA1 hcg; simp at hcw)
  go_end0
  refine ⟨rfl, hW.done HF.out HA.out (c1 := c1) (bs' := bs ++ leB 2 n) ?_ ?_ ((((Fr.refl _ _).set (.inl (.inl rfl)) _).set (.inl (.inr rfl)) _).set (.inl (.inr rfl)) _)⟩
  · repeat (refine (Below.heap_setCell _ _ _ _ (by simpa using hne2)).trans ?_)
    rw [heap_set HB1.out]
    simp [leB_length]
  · refine Own.cong ((((hown.keep (w' := w1.setCell ⟨wb, 0, none⟩ _) (fun i hi _ => Below.heap_setCell _ _ _ i (by simp [blk] at hi; simp; omega))).set (bs.length + 1) _)).set bs.length _) ?_
    rw [leB2]
    simp [set_app, set_app0, List.replicate]
set_option maxHeartbeats 1000000 in
theorem number_4 (B wb : Nat) (A : Option Addr) (c : Nat) (bs : List Int) (sp : Bool) (n : Int) (w : World) (hW : Wr 61 B w wb A c bs sp) (hB : B ≤ w.heap.size) (hl : bs.length ≤ 1000000000000) (hn0 : 0 ≤ n) (hn : n ≤ 1099511627776) :
    Calls Tryz.prog 66 #[.pointer (some ⟨wb, 0, none⟩), .int .i64 4, .int .i64 n] w fun e w' => e = .returned (.tuple #[]) ∧ WStep 61 B wb A w (bs ++ leB 4 n) sp w' := by
  have h0 := hW.c0
  have hlt := hW.lt
  have hfz := hW.f 0
  go_enter Tryz.func66, Tryz.ntmps66
  go_wp2_with (at_builtin; refine appendMake _ rfl _ _ rfl B _ _ _ bs rfl rfl hW.2.2 4 rfl (by omega) (by omega) hB ?_; intro A1 c1 m1 w1 hm1 hown hfr hA1; obtain ⟨g, rfl⟩ := hown.some_ (by simp); obtain rfl := hm1; obtain ⟨hb1, hne, hfg, hcg, hc1⟩ := hW.grow hfr hown; have HB1 := Lib.hid hb1; have HF := Lib.hid hfr; have HA := Lib.hid hA1; have hcw := cell_of_heap hb1 0; have hfw := frozen_of_heap hb1 0; have hc3 := hcg 3 (by omega); have hc2 := hcg 2 (by omega); have hc1 := hcg 1 (by omega); have hc0 := hcg 0 (by omega); have hne2 : wb ≠ g := fun e => hne e.symm; rw [Nat.add_zero] at hc0; clear hb1 hfr hA1 hcg; simp at hcw)
  go_end0
  refine ⟨rfl, hW.done HF.out HA.out (c1 := c1) (bs' := bs ++ leB 4 n) ?_ ?_ ((((((Fr.refl _ _).set (.inl (.inl rfl)) _).set (.inl (.inr rfl)) _).set (.inl (.inr rfl)) _).set (.inl (.inr rfl)) _).set (.inl (.inr rfl)) _)⟩
  · repeat (refine (Below.heap_setCell _ _ _ _ (by simpa using hne2)).trans ?_)
    rw [heap_set HB1.out]
    simp [leB_length]
  · refine Own.cong ((((((((hown.keep (w' := w1.setCell ⟨wb, 0, none⟩ _) (fun i hi _ => Below.heap_setCell _ _ _ i (by simp [blk] at hi; simp; omega))).set (bs.length + 3) _)).set (bs.length + 2) _)).set (bs.length + 1) _)).set bs.length _) ?_
    rw [leB4]
    simp [set_app, set_app0, List.replicate]
set_option maxHeartbeats 1000000 in
theorem number_6 (B wb : Nat) (A : Option Addr) (c : Nat) (bs : List Int) (sp : Bool) (n : Int) (w : World) (hW : Wr 61 B w wb A c bs sp) (hB : B ≤ w.heap.size) (hl : bs.length ≤ 1000000000000) (hn0 : 0 ≤ n) (hn : n ≤ 1099511627776) :
    Calls Tryz.prog 66 #[.pointer (some ⟨wb, 0, none⟩), .int .i64 6, .int .i64 n] w fun e w' => e = .returned (.tuple #[]) ∧ WStep 61 B wb A w (bs ++ leB 6 n) sp w' := by
  have h0 := hW.c0
  have hlt := hW.lt
  have hfz := hW.f 0
  go_enter Tryz.func66, Tryz.ntmps66
  go_wp2_with (at_builtin; refine appendMake _ rfl _ _ rfl B _ _ _ bs rfl rfl hW.2.2 6 rfl (by omega) (by omega) hB ?_; intro A1 c1 m1 w1 hm1 hown hfr hA1; obtain ⟨g, rfl⟩ := hown.some_ (by simp); obtain rfl := hm1; obtain ⟨hb1, hne, hfg, hcg, hc1⟩ := hW.grow hfr hown; have HB1 := Lib.hid hb1; have HF := Lib.hid hfr; have HA := Lib.hid hA1; have hcw := cell_of_heap hb1 0; have hfw := frozen_of_heap hb1 0; have hc5 := hcg 5 (by omega); have hc4 := hcg 4 (by omega); have hc3 := hcg 3 (by omega); have hc2 := hcg 2 (by omega); have hc1 := hcg 1 (by omega); have hc0 := hcg 0 (by omega); have hne2 : wb ≠ g := fun e => hne e.symm; rw [Nat.add_zero] at hc0; clear hb1 hfr hA1 hcg; simp at hcw)
  go_end0
  refine ⟨rfl, hW.done HF.out HA.out (c1 := c1) (bs' := bs ++ leB 6 n) ?_ ?_ ((((((((Fr.refl _ _).set (.inl (.inl rfl)) _).set (.inl (.inr rfl)) _).set (.inl (.inr rfl)) _).set (.inl (.inr rfl)) _).set (.inl (.inr rfl)) _).set (.inl (.inr rfl)) _).set (.inl (.inr rfl)) _)⟩
  · repeat (refine (Below.heap_setCell _ _ _ _ (by simpa using hne2)).trans ?_)
    rw [heap_set HB1.out]
    simp [leB_length]
  · refine Own.cong ((((((((((((hown.keep (w' := w1.setCell ⟨wb, 0, none⟩ _) (fun i hi _ => Below.heap_setCell _ _ _ i (by simp [blk] at hi; simp; omega))).set (bs.length + 5) _)).set (bs.length + 4) _)).set (bs.length + 3) _)).set (bs.length + 2) _)).set (bs.length + 1) _)).set bs.length _) ?_
    rw [leB6]
    simp [set_app, set_app0, List.replicate]; omega

theorem number_any (B wb : Nat) (A : Option Addr) (c : Nat) (bs : List Int) (sp : Bool) (wd n : Int) (w : World) (hW : Wr 61 B w wb A c bs sp) (hB : B ≤ w.heap.size) (hl : bs.length ≤ 1000000000000) (hn0 : 0 ≤ n) (hn : n ≤ topI wd) :
    Calls Tryz.prog 66 #[.pointer (some ⟨wb, 0, none⟩), .int .i64 wd, .int .i64 n] w fun e w' => e = .returned (.tuple #[]) ∧ WStep 61 B wb A w (bs ++ leB wd.toNat n) sp w' := by
  rcases topI_cases wd with ⟨rfl, h⟩ | ⟨rfl, h⟩ | ⟨rfl, h⟩ | ⟨rfl, h⟩ | ⟨_, h⟩
  · exact number_1 B wb A c bs sp n w hW hB hl hn0 (by omega)
  · exact number_2 B wb A c bs sp n w hW hB hl hn0 (by omega)
  · exact number_4 B wb A c bs sp n w hW hB hl hn0 (by omega)
  · exact number_6 B wb A c bs sp n w hW hB hl hn0 (by omega)
  · omega
end Go.Proofs.YtcapapnhlkmeaaaGreatDoor
namespace Go.Proofs.YtcapapnhlkmeaaaGreatDoor
open Go.RowKit

section
variable {B wb c : Nat} {A : Option Addr} {bs : List Int} {w : World}
def isB (wb : Nat) : Nat → Prop := fun i => i = wb
theorem isB_touched {i : Nat} (h : isB wb i) : touched wb A i := .inl h
theorem holds_ok (hW : Wr 61 B w wb A c bs false) :
    Calls Tryz.prog 64 #[.pointer (some ⟨wb, 0, none⟩), .bool true] w fun e w' => e = .returned (.bool true) ∧ Wr 61 B w' wb A c bs false ∧ Fr (isB wb) w w' :=
  (holds_any B wb A c bs false true w hW).mono fun e w' ⟨he, hw⟩ => ⟨he, by subst hw; simpa using hW.mark (by decide) false, by subst hw; exact (Fr.refl (isB wb) w).set (p := ⟨wb, 1, none⟩) (.inl rfl) _⟩
theorem holds_no (hW : Wr 61 B w wb A c bs false) :
    Calls Tryz.prog 64 #[.pointer (some ⟨wb, 0, none⟩), .bool false] w fun e w' => e = .returned (.bool false) ∧ Wr 61 B w' wb A c bs true ∧ Fr (isB wb) w w' :=
  (holds_any B wb A c bs false false w hW).mono fun e w' ⟨he, hw⟩ => ⟨he, by subst hw; simpa using hW.mark (by decide) true, by subst hw; exact (Fr.refl (isB wb) w).set (p := ⟨wb, 1, none⟩) (.inl rfl) _⟩
theorem holds_sp (is : Bool) (hW : Wr 61 B w wb A c bs true) :
    Calls Tryz.prog 64 #[.pointer (some ⟨wb, 0, none⟩), .bool is] w fun e w' => e = .returned (.bool false) ∧ Wr 61 B w' wb A c bs true ∧ Fr (isB wb) w w' :=
  (holds_any B wb A c bs true is w hW).mono fun e w' ⟨he, hw⟩ => ⟨by rw [he]; simp, by subst hw; simpa using hW.mark (by decide) true, by subst hw; exact (Fr.refl (isB wb) w).set (p := ⟨wb, 1, none⟩) (.inl rfl) _⟩
end

theorem Rd.fr' {S : Nat → Prop} {w w' : World} {A : Option Addr} {k : IntKind} {zs : List Int} (h : Rd w A (zs.map (.int k))) (hf : Fr S w w') (ho : zs ≠ [] → Off S A) : Rd w' A (zs.map (.int k)) := by
  by_cases hz : zs = []
  · subst hz; exact Rd.nil _ _
  · exact h.fr hf (ho hz)

def okN (wd n : Int) : Bool := decide (0 ≤ n) && decide (n ≤ topI wd)
theorem okN_iff {wd n : Int} : okN wd n = true ↔ 0 ≤ n ∧ n ≤ topI wd := by simp [okN]
def putF (wd : Int) : List Int → List Int → List Int × Bool
  | bs, [] => (bs, false)
  | bs, n :: ns => if okN wd n = true then putF wd (bs ++ leB wd.toNat n) ns else (bs, true)
def fieldS (wd : Int) (bs : List Int) (sp : Bool) (ns : List Int) : List Int × Bool := if sp = true then (bs, true) else if topI wd < 0 then (bs, true) else putF wd bs ns

theorem toNat_le (wd : Int) (h : 0 ≤ topI wd) : wd.toNat ≤ 6 := by
  rcases topI_cases wd with ⟨rfl, _⟩ | ⟨rfl, _⟩ | ⟨rfl, _⟩ | ⟨rfl, _⟩ | ⟨_, h'⟩ <;> omega

theorem drop_at {α : Type} {l : List α} {k : Nat} {x : α} (h : l[k]? = some x) : l.drop k = x :: l.drop (k + 1) := by
  have hl : k < l.length := by
    rcases Nat.lt_or_ge k l.length with g | g
    · exact g
    · rw [List.getElem?_eq_none g] at h; cases h
  rw [List.drop_eq_getElem_cons hl]
  rw [List.getElem?_eq_getElem hl] at h
  injection h with h
  rw [h]

def FieldRel (B wb : Nat) (A : Option Addr) (bs : List Int) (wd : Int) (zs : List Int) (w : World) (i : Value) (wr : World) : Prop :=
  ∃ (k : Nat) (A' : Option Addr) (c' : Nat) (bk : List Int), k ≤ zs.length ∧ i = .int .i64 k ∧ Wr 61 B wr wb A' c' bk false ∧ putF wd bk (zs.drop k) = putF wd bs zs ∧
    Fr (touched wb A) w wr ∧ (∀ i, blk A' i → blk A i ∨ w.heap.size ≤ i) ∧ bk.length ≤ bs.length + 6 * k

theorem frT {wb : Nat} {A A' : Option Addr} {w w1 w2 : World} (hf : Fr (touched wb A) w w1) (hA : ∀ i, blk A' i → blk A i ∨ w.heap.size ≤ i) (h2 : Fr (touched wb A') w1 w2) : Fr (touched wb A) w w2 := hf.trans h2 (touched_sub hA)
theorem frI {wb : Nat} {A : Option Addr} {w w1 : World} (h : Fr (isB wb) w w1) : Fr (touched wb A) w w1 := h.mono fun _ _ hi => .inl hi

set_option maxHeartbeats 600000 in
theorem field_any (B wb : Nat) (A : Option Addr) (c : Nat) (bs : List Int) (sp : Bool) (wd : Int) (D : Option Addr) (d : Nat) (zs : List Int) (w : World) (hW : Wr 61 B w wb A c bs sp) (hB : B ≤ w.heap.size)
    (hD : Rd w D (zs.map (.int .i64))) (hO : zs ≠ [] → Off (touched wb A) D) (hl : bs.length + 6 * zs.length ≤ 100000000000) :
    Calls Tryz.prog 21 #[.pointer (some ⟨wb, 0, none⟩), .int .i64 wd, .slice D zs.length d] w fun e w' => e = .returned (.tuple #[]) ∧ WStep 61 B wb A w (fieldS wd bs sp zs).1 (fieldS wd bs sp zs).2 w' := by
  cases sp with
  | true =>
    go_enter Tryz.func21, Tryz.ntmps21
    go_wp2_with (first | (go_at_call 65; refine (top_any _ _).mono ?_; rintro e w' ⟨rfl, rfl⟩) | (go_at_call 64; refine (holds_sp _ hW).mono ?_; rintro e w1 ⟨rfl, hW1, hF1⟩))
    refine bodyPost_ret (results_none rfl _ _ _) rfl ?_
    exact ⟨rfl, A, c, hW1, frI hF1, fun _ h => .inl h⟩
  | false =>
    by_cases hT : topI wd < 0
    · have hd : decide (0 ≤ topI wd) = false := by simp; omega
      go_enter Tryz.func21, Tryz.ntmps21
      go_wp2_with (first | (go_at_call 65; refine (top_any _ _).mono ?_; rintro e w' ⟨rfl, rfl⟩) | (go_at_call 64; refine (holds_no hW).mono ?_; rintro e w1 ⟨rfl, hW1, hF1⟩))
      refine bodyPost_ret (results_none rfl _ _ _) rfl ?_
      have hs : fieldS wd bs false zs = (bs, true) := by simp [fieldS, hT]
      rw [hs]
      exact ⟨rfl, A, c, hW1, frI hF1, fun _ h => .inl h⟩
    · have hs : fieldS wd bs false zs = putF wd bs zs := by simp [fieldS, hT]
      rw [hs]
      clear hs
      have hT0 : 0 ≤ topI wd := by omega
      have hbd := (topI_bd wd).2
      have h6 := toNat_le wd hT0
      have hd : decide (0 ≤ topI wd) = true := by simp; omega
      go_enter Tryz.func21, Tryz.ntmps21
      go_wp2_with (first | (go_at_call 65; refine (top_any _ _).mono ?_; rintro e w' ⟨rfl, rfl⟩) | (go_at_call 64; refine (holds_ok hW).mono ?_; rintro e w1 ⟨rfl, hW1, hF1⟩))
      go_loopw [16] (fun i wr => FieldRel B wb A bs wd zs w i wr) (fun i _ => zs.length - (intOf i).toNat)
      case atStart => exact ⟨0, A, c, bs, Nat.zero_le _, rfl, hW1, rfl, frI hF1, fun _ h => .inl h, by omega⟩
      case round =>
        clear hW1 hF1
        obtain ⟨k, A2, c2, bk, hk, rfl, hW2, hp, hF2, hA2, hl2⟩ := hrel
        have HP := Lib.hid hp
        have HA2 := Lib.hid hA2
        clear hp hA2
        by_cases hlt : k < zs.length
        · obtain ⟨ad, x, rfl, hcx, hx1⟩ := (hD.fr hF2 (hO (by rintro rfl; simp at hlt))).int hlt
          have HX := Lib.hid (drop_at hx1)
          clear hx1
          have hsz := hF2.size
          by_cases h0 : 0 ≤ x
          · have hd0 : decide (0 ≤ x) = true := by simp; omega
            by_cases h1 : x ≤ topI wd
            · have hd1 : decide (x ≤ topI wd) = true := by simp; omega
              have hok : Hid (putF wd bk (zs.drop k) = putF wd (bk ++ leB wd.toNat x) (zs.drop (k + 1))) := Lib.hid (by rw [HX.out, putF, if_pos (okN_iff.2 ⟨h0, h1⟩)])
              go_wp2_with (first | (go_at_call 65; refine (top_any _ _).mono ?_; rintro e w' ⟨rfl, rfl⟩) | (go_at_call 64; refine (holds_ok hW2).mono ?_; rintro e w3 ⟨rfl, hW3, hF3⟩) | (go_at_call 66; refine (number_any B wb _ _ bk false wd x _ hW3 (by have := hF3.size; omega) (by omega) h0 h1).mono ?_; rintro e w4 ⟨rfl, hS4⟩))
              obtain ⟨A4, c4, hW4, hF4, hA4⟩ := hS4
              have hF34 : Fr (touched wb A2) wr w4 := (frI hF3).trans hF4 (fun _ _ h => h)
              exact ⟨⟨k + 1, A4, c4, _, by omega, by go_num, hW4, by rw [← hok.out]; exact HP.out, frT hF2 HA2.out hF34, fun i hi => (hA4 i hi).elim (fun h => HA2.out i h) (fun h => .inr (by have := hF3.size; omega)), by rw [List.length_append, leB_length]; omega⟩, by simp [intOf]; omega⟩
            · have hd1 : decide (x ≤ topI wd) = false := by simp; omega
              have hno : Hid (putF wd bk (zs.drop k) = (bk, true)) := Lib.hid (by rw [HX.out, putF, if_neg (fun h => h1 (okN_iff.1 h).2)])
              go_wp2_with (first | (go_at_call 65; refine (top_any _ _).mono ?_; rintro e w' ⟨rfl, rfl⟩) | (go_at_call 64; refine (holds_no hW2).mono ?_; rintro e w3 ⟨rfl, hW3, hF3⟩))
              refine bodyPost_ret (results_none rfl _ _ _) rfl ?_
              rw [← HP.out, hno.out]
              exact ⟨rfl, A2, c2, hW3, frT hF2 HA2.out (frI hF3), HA2.out⟩
          · have hd0 : decide (0 ≤ x) = false := by simp; omega
            have hno : Hid (putF wd bk (zs.drop k) = (bk, true)) := Lib.hid (by rw [HX.out, putF, if_neg (fun h => h0 (okN_iff.1 h).1)])
            go_wp2_with (first | (go_at_call 65; refine (top_any _ _).mono ?_; rintro e w' ⟨rfl, rfl⟩) | (go_at_call 64; refine (holds_no hW2).mono ?_; rintro e w3 ⟨rfl, hW3, hF3⟩))
            refine bodyPost_ret (results_none rfl _ _ _) rfl ?_
            rw [← HP.out, hno.out]
            exact ⟨rfl, A2, c2, hW3, frT hF2 HA2.out (frI hF3), HA2.out⟩
        · obtain rfl : k = zs.length := by omega
          go_wp2
          go_end0
          have h := HP.out
          rw [List.drop_length] at h
          rw [← h]
          exact ⟨rfl, A2, c2, hW2, hF2, HA2.out⟩
end Go.Proofs.YtcapapnhlkmeaaaGreatDoor
